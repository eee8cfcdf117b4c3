/- Several texts in one. What a walk through the pages computes, unfolded. No program in sight. What Check computes, unfolded. No program in sight. What Check computes over all, unfolded. No program in sight. Checked pages: their cells rise. No program in sight. The first page in plain words: the root, what is in use. No program in sight. A tree: checked, looked through. No program in sight. Nodes that are too big are cut in two. No program in sight. A cell put into a leaf. No program in sight. The ways of a node and what lies below them. No program in sight. A cell put into a tree. No program in sight. A cell put into a tree of ways. No program in sight. A right book: its tree; a cell put into it. No program in sight. A cell put into a right book. No program in sight. A cell taken out of a leaf. No program in sight. A cell taken out of a tree: what it comes to; a leaf. No program in sight. A way taken out of a node; pages that are fewer. No program in sight. A key taken out of a tree. No program in sight. A key taken out of a right book. No program in sight. A cell in place of one that is as long or longer. No program in sight. What the laws of trees speak of: rising cells as a list, a right book on a sheet. No program in sight. What the document says of floats, by bits; keys by numbers. No program in sight. What the laws of trees do to their own lists. No program in sight. What the trees' functions come to on a right book. No program in sight. The two cells of begun. Cells laid one by one. No program in sight. Cells taken away one by one; keys that are found. No program in sight. Spans; cells in place of others; taken away by sevens. No program in sight. -/
import Derived.Test.YtihpkgmfkbkffaaGreatWC
set_option linter.unusedVariables false
set_option linter.unusedSimpArgs false
set_option linter.unusedSectionVars false

section
namespace Go.Pl
open Go Go.Sx
noncomputable def kidsT (pg : Pg) (f : Nat) (kids : List Int) (st : Gone) : TE Gone := kids.foldl (fun r kid => r.bind (throughT pg f kid)) (.ok st)
section
variable {pg : Pg} {f : Nat} {no e : Int} {st g : Gone} {n : Nd} {l l2 : List Int} {x : Int}
theorem through_succ : throughT pg (f + 1) no st = if 32 ≤ st.1.length ∨ no ∈ st.1 then .error 8 else (readT pg no).bind fun n => kidsT pg f n.kids (st.1 ++ [no], st.2 ++ n.cells) := rfl
theorem through_bad (h : 32 ≤ st.1.length ∨ no ∈ st.1) : throughT pg f no st = .error 8 := by
  cases f with
  | zero => rfl
  | succ f => rw [through_succ]; exact if_pos h
theorem through_err (h : ¬ (32 ≤ st.1.length ∨ no ∈ st.1)) (hr : readT pg no = .error e) : throughT pg (f + 1) no st = .error e := by rw [through_succ, if_neg h]; exact bind_err hr
theorem through_in (h : ¬ (32 ≤ st.1.length ∨ no ∈ st.1)) (hr : readT pg no = .ok n) : throughT pg (f + 1) no st = kidsT pg f n.kids (st.1 ++ [no], st.2 ++ n.cells) := by rw [through_succ, if_neg h]; exact bind_ok hr
theorem kidsT_nil : kidsT pg f [] st = .ok st := rfl
theorem kidsT_app : kidsT pg f (l ++ l2) st = (kidsT pg f l st).bind (kidsT pg f l2) := by
  unfold kidsT
  rw [List.foldl_append]
  cases h : l.foldl (fun r kid => r.bind (throughT pg f kid)) (.ok st : TE Gone) with
  | ok g => rfl
  | error e =>
    show l2.foldl _ (.error e : TE Gone) = (.error e : TE Gone)
    clear h
    induction l2 with
    | nil => rfl
    | cons y l2 ih => exact ih
theorem kidsT_one : kidsT pg f [x] st = throughT pg f x st := rfl
theorem kidsT_step {i : Nat} (hi : l[i]? = some x) (h : kidsT pg f (l.take i) st = .ok g) : kidsT pg f (l.take (i + 1)) st = throughT pg f x g := by
  rw [List.take_add_one, hi, kidsT_app, h]
  exact kidsT_one
theorem kidsT_stop {i : Nat} (h : kidsT pg f (l.take i) st = .error e) : kidsT pg f l st = .error e := by
  rw [← List.take_append_drop i l, kidsT_app, h]; rfl
/-- what a walk does to the counts -/
def Grew (st g : Gone) : Prop := st.1.length ≤ g.1.length ∧ g.1.length ≤ 32 ∧ g.2.length ≤ 256 * g.1.length
theorem through_grew : ∀ {f : Nat} {no : Int} {st g : Gone}, st.2.length ≤ 256 * st.1.length → throughT pg f no st = .ok g → Grew st g ∧ st.1.length < g.1.length := by
  intro f
  induction f with
  | zero => intro no st g _ h; cases h
  | succ f ih =>
    intro no st g hs h
    rw [through_succ] at h
    split at h
    · cases h
    · rename_i hb
      cases hr : readT pg no with
      | error e => rw [hr] at h; cases h
      | ok n =>
        rw [hr] at h
        have hnc := (readT_is hr).nd.cells
        have hk : ∀ (l : List Int) (s1 g : Gone), s1.2.length ≤ 256 * s1.1.length → s1.1.length ≤ 32 → kidsT pg f l s1 = .ok g → Grew s1 g := by
          intro l
          induction l with
          | nil => intro s1 g h1 h2 h; injection h with h; subst h; exact ⟨Nat.le_refl _, h2, h1⟩
          | cons y l ihl =>
            intro s1 g h1 h2 h
            have h : (throughT pg f y s1).bind (kidsT pg f l) = .ok g := by
              have := kidsT_app (pg := pg) (f := f) (l := [y]) (l2 := l) (st := s1)
              rw [kidsT_one] at this; rw [← this]; exact h
            cases ht : throughT pg f y s1 with
            | error e => rw [ht] at h; cases h
            | ok g1 =>
              rw [ht] at h
              obtain ⟨⟨a, b, c⟩, _⟩ := ih h1 ht
              obtain ⟨a2, b2, c2⟩ := ihl g1 g c b h
              exact ⟨by omega, b2, c2⟩
        have hb : ¬ 32 ≤ st.1.length := fun e => hb (.inl e)
        obtain ⟨a, b, c⟩ := hk n.kids _ g (by simp only [List.length_append, List.length_singleton]; omega) (by simp only [List.length_append, List.length_singleton]; omega) h
        simp only [List.length_append, List.length_singleton] at a
        exact ⟨⟨by omega, b, c⟩, by omega⟩
theorem kidsT_grew {st g : Gone} (h1 : st.2.length ≤ 256 * st.1.length) (h2 : st.1.length ≤ 32) (h : kidsT pg f l st = .ok g) : Grew st g := by
  induction l generalizing st with
  | nil => injection h with h; subst h; exact ⟨Nat.le_refl _, h2, h1⟩
  | cons y l ih =>
    have h : (throughT pg f y st).bind (kidsT pg f l) = .ok g := by
      have := kidsT_app (pg := pg) (f := f) (l := [y]) (l2 := l) (st := st)
      rw [kidsT_one] at this; rw [← this]; exact h
    cases ht : throughT pg f y st with
    | error e => rw [ht] at h; cases h
    | ok g1 =>
      rw [ht] at h
      obtain ⟨⟨a, b, c⟩, _⟩ := through_grew h1 ht
      obtain ⟨a2, b2, c2⟩ := ih c b h
      exact ⟨by omega, b2, c2⟩
theorem allT_err (h : rootT pg = .error e) : allT pg = .error e := by unfold allT; exact bind_err h
theorem allT_none (h : rootT pg = .ok no) (h0 : no = 0) : allT pg = .ok ([], []) := by unfold allT; refine (bind_ok h).trans ?_; exact if_neg (fun h => h h0)
theorem allT_in (h : rootT pg = .ok no) (h0 : no ≠ 0) : allT pg = throughT pg 32 no ([], []) := by unfold allT; refine (bind_ok h).trans ?_; exact if_pos h0
theorem allT_len {g : Gone} (h : allT pg = .ok g) : g.1.length ≤ 32 ∧ g.2.length ≤ 8192 := by
  cases hr : rootT pg with
  | error e => rw [allT_err hr] at h; cases h
  | ok no =>
    by_cases h0 : no = 0
    · rw [allT_none hr h0] at h; injection h with h; subst h; exact ⟨by simp, by simp⟩
    · rw [allT_in hr h0] at h
      obtain ⟨⟨_, h2, h3⟩, _⟩ := through_grew (by simp) h
      exact ⟨h2, by omega⟩
theorem NdIs.all_kids {n : Nd} (h : NdIs n) {x : Int} (hx : x ∈ n.kids) : mayUse x := by
  cases hl : n.leaf with
  | true => rw [(h.leaf hl).2] at hx; cases hx
  | false => exact (h.ways hl).2 x hx
end
end Go.Pl
end

section
namespace Go.Pl
open Go Go.Sx
/-- the pages below a page are so many deep at most -/
def Deep (pg : Pg) : Nat → Int → Prop
  | 0, _ => False
  | f + 1, no => ∀ n, readT pg no = .ok n → ∀ k ∈ n.kids, Deep pg f k
theorem kidsT_ok {pg : Pg} {f : Nat} {l : List Int} {st g : Gone} (h : kidsT pg f l st = .ok g) {x : Int} (hx : x ∈ l) : ∃ s1 g1, throughT pg f x s1 = .ok g1 := by
  induction l generalizing st with
  | nil => cases hx
  | cons y l ih =>
    have h : (throughT pg f y st).bind (kidsT pg f l) = .ok g := by
      have := kidsT_app (pg := pg) (f := f) (l := [y]) (l2 := l) (st := st)
      rw [kidsT_one] at this; rw [← this]; exact h
    cases ht : throughT pg f y st with
    | error e => rw [ht] at h; cases h
    | ok g1 =>
      rw [ht] at h
      rcases List.mem_cons.1 hx with rfl | hx
      · exact ⟨_, _, ht⟩
      · exact ih h hx
theorem deep_of {pg : Pg} : ∀ {f : Nat} {no : Int} {st g : Gone}, throughT pg f no st = .ok g → Deep pg f no := by
  intro f
  induction f with
  | zero => intro no st g h; cases h
  | succ f ih =>
    intro no st g h n hn k hk
    rw [through_succ] at h
    split at h
    · cases h
    · rw [hn] at h
      obtain ⟨s1, g1, h1⟩ := kidsT_ok h hk
      exact ih h1
noncomputable def stepC (pg : Pg) (f : Nat) (n : Nd) (lo hi : ByteArray) (r : TE Int) (i : Nat) : TE Int :=
  r.bind fun deep => (checkT pg f (n.kids.getD i 0) (lowOf n.keys lo i) (highOf n.keys hi i) false).bind fun d => if deep < 0 ∨ d = deep then .ok d else .error 8
noncomputable def kidsC (pg : Pg) (f : Nat) (n : Nd) (lo hi : ByteArray) (m : Nat) : TE Int := (List.range m).foldl (stepC pg f n lo hi) (.ok (-1))
section
variable {pg : Pg} {f : Nat} {no e : Int} {n : Nd} {lo hi : ByteArray} {top : Bool}
theorem checkT_succ : checkT pg (f + 1) no lo hi top = (readT pg no).bind fun n =>
    if n.leaf = true then if top = true ∨ 0 < n.cells.length then if n.cells.all fun c => keyIn c.key lo hi then .ok 0 else .error 8 else .error 8
    else (kidsC pg f n lo hi n.kids.length).bind fun deep => .ok (deep + 1) := rfl
theorem checkT_err (h : readT pg no = .error e) : checkT pg (f + 1) no lo hi top = .error e := by rw [checkT_succ]; exact bind_err h
theorem checkT_bare (h : readT pg no = .ok n) (hl : n.leaf = true) (h2 : ¬ (top = true ∨ 0 < n.cells.length)) : checkT pg (f + 1) no lo hi top = .error 8 := by
  rw [checkT_succ]; refine (bind_ok h).trans ?_; exact (if_pos hl).trans (if_neg h2)
theorem checkT_out (h : readT pg no = .ok n) (hl : n.leaf = true) (h2 : top = true ∨ 0 < n.cells.length) {c : Cell} (hc : c ∈ n.cells) (hk : keyIn c.key lo hi = false) : checkT pg (f + 1) no lo hi top = .error 8 := by
  rw [checkT_succ]; refine (bind_ok h).trans ?_
  refine (if_pos hl).trans ((if_pos h2).trans (if_neg fun ha => ?_))
  have := List.all_eq_true.1 ha c hc
  rw [hk] at this; cases this
theorem checkT_leaf (h : readT pg no = .ok n) (hl : n.leaf = true) (h2 : top = true ∨ 0 < n.cells.length) (ha : ∀ c ∈ n.cells, keyIn c.key lo hi = true) : checkT pg (f + 1) no lo hi top = .ok 0 := by
  rw [checkT_succ]; refine (bind_ok h).trans ?_
  exact (if_pos hl).trans ((if_pos h2).trans (if_pos (List.all_eq_true.2 ha)))
theorem checkT_ways (h : readT pg no = .ok n) (hl : n.leaf = false) : checkT pg (f + 1) no lo hi top = (kidsC pg f n lo hi n.kids.length).bind fun deep => .ok (deep + 1) := by
  have hl : ¬ n.leaf = true := by rw [hl]; simp
  rw [checkT_succ]; refine (bind_ok h).trans ?_; exact if_neg hl
theorem kidsC_zero : kidsC pg f n lo hi 0 = .ok (-1) := rfl
theorem kidsC_succ (m : Nat) : kidsC pg f n lo hi (m + 1) = stepC pg f n lo hi (kidsC pg f n lo hi m) m := by unfold kidsC; rw [List.range_succ, List.foldl_append]; rfl
theorem kidsC_stop {m M : Nat} (hm : m ≤ M) (h : kidsC pg f n lo hi m = .error e) : kidsC pg f n lo hi M = .error e := by
  induction M with
  | zero => obtain rfl : m = 0 := by omega
            exact h
  | succ M ih =>
    by_cases hM : m = M + 1
    · subst hM; exact h
    · rw [kidsC_succ, ih (by omega)]; rfl
variable {m : Nat} {d d2 : Int} {lo2 hi2 : ByteArray}
theorem kidsC_err (h : kidsC pg f n lo hi m = .ok d) (hk : n.kids[m]? = some no) (h1 : lowOf n.keys lo m = lo2) (h2 : highOf n.keys hi m = hi2) (hc : checkT pg f no lo2 hi2 false = .error e) : kidsC pg f n lo hi (m + 1) = .error e := by
  rw [kidsC_succ, h]
  unfold stepC
  rw [List.getD_eq_getElem?_getD, hk, h1, h2]
  exact (bind_ok rfl).trans (bind_err hc)
theorem kidsC_next (h : kidsC pg f n lo hi m = .ok d) (hk : n.kids[m]? = some no) (h1 : lowOf n.keys lo m = lo2) (h2 : highOf n.keys hi m = hi2) (hc : checkT pg f no lo2 hi2 false = .ok d2) : kidsC pg f n lo hi (m + 1) = if d < 0 ∨ d2 = d then .ok d2 else .error 8 := by
  rw [kidsC_succ, h]
  unfold stepC
  rw [List.getD_eq_getElem?_getD, hk, h1, h2]
  exact (bind_ok rfl).trans (bind_ok hc)
theorem low_pos (h : 0 < m) {k : ByteArray} (hk : n.keys[m - 1]? = some k) : lowOf n.keys lo m = k := by unfold lowOf; rw [if_pos h, List.getD_eq_getElem?_getD, hk]; rfl
theorem low_neg (h : ¬ 0 < m) : lowOf n.keys lo m = lo := by unfold lowOf; rw [if_neg h]
theorem high_pos (h : m < n.keys.length) {k : ByteArray} (hk : n.keys[m]? = some k) : highOf n.keys hi m = k := by unfold highOf; rw [if_pos h, List.getD_eq_getElem?_getD, hk]; rfl
theorem high_neg (h : ¬ m < n.keys.length) : highOf n.keys hi m = hi := by unfold highOf; rw [if_neg h]
end
end Go.Pl
end

section
namespace Go.Pl
open Go Go.Sx
/-- the marks of the book's bits and of the walk agree below m -/
def marksN (bs : List UInt8) (g : Gone) (m : Nat) : Prop := ∀ no : Nat, no < m → hasB bs (no : Nat) = decide ((no : Int) ∈ g.1)
section
variable {pg : Pg} {e d : Int} {g : Gone}
noncomputable def orderT (pg : Pg) (g : Gone) : TE Int := if g.1 = [] then .ok 0 else checkT pg 32 (g.1.getD 0 0) ⟨#[]⟩ ⟨#[]⟩ true
theorem checkTop_eq : checkTop pg = (allT pg).bind fun g => (orderT pg g).bind fun _ =>
    if (whole256 (pg 1)).1 ≠ 0 then .error (whole256 (pg 1)).1
    else if (List.range 32).all fun no => hasB (whole256 (pg 1)).2 (no : Nat) == decide ((no : Int) ∈ g.1) then .ok () else .error 8 := rfl
theorem checkTop_err (h : allT pg = .error e) : checkTop pg = .error e := by rw [checkTop_eq]; exact bind_err h
theorem checkTop_order (h : allT pg = .ok g) (h2 : orderT pg g = .error e) : checkTop pg = .error e := by rw [checkTop_eq]; exact (bind_ok h).trans (bind_err h2)
theorem checkTop_fail (h : allT pg = .ok g) (h2 : orderT pg g = .ok d) (h3 : (whole256 (pg 1)).1 = e) (he : e ≠ 0) : checkTop pg = .error e := by
  rw [checkTop_eq]; refine (bind_ok h).trans ((bind_ok h2).trans ((if_pos (by rw [h3]; exact he)).trans (by rw [h3])))
theorem checkTop_mark (h : allT pg = .ok g) (h2 : orderT pg g = .ok d) (h3 : (whole256 (pg 1)).1 = 0) {i : Nat} (hi : i < 32) (hm : ¬ hasB (whole256 (pg 1)).2 (i : Nat) = decide ((i : Int) ∈ g.1)) : checkTop pg = .error 8 := by
  rw [checkTop_eq]; refine (bind_ok h).trans ((bind_ok h2).trans ((if_neg (by rw [h3]; simp)).trans (if_neg fun ha => hm ?_)))
  exact beq_iff_eq.1 (List.all_eq_true.1 ha i (List.mem_range.2 hi))
theorem checkTop_ok (h : allT pg = .ok g) (h2 : orderT pg g = .ok d) (h3 : (whole256 (pg 1)).1 = 0) (hm : marksN (whole256 (pg 1)).2 g 32) : checkTop pg = .ok () := by
  rw [checkTop_eq]; refine (bind_ok h).trans ((bind_ok h2).trans ((if_neg (by rw [h3]; simp)).trans (if_pos ?_)))
  exact List.all_eq_true.2 fun i hi => beq_iff_eq.2 (hm i (List.mem_range.1 hi))
theorem orderT_nil (h : g.1 = []) : orderT pg g = .ok 0 := by unfold orderT; rw [if_pos h]
theorem orderT_cons (h : g.1 ≠ []) : orderT pg g = checkT pg 32 (g.1.getD 0 0) ⟨#[]⟩ ⟨#[]⟩ true := by unfold orderT; rw [if_neg h]
theorem kidsT_pre {f : Nat} (ih : ∀ {no : Int} {st g : Gone}, throughT pg f no st = .ok g → ∃ l, g.1 = st.1 ++ no :: l) {l : List Int} {st g : Gone} (h : kidsT pg f l st = .ok g) : ∃ l2, g.1 = st.1 ++ l2 := by
  induction l generalizing st with
  | nil => injection h with h; subst h; exact ⟨[], by simp⟩
  | cons y l ihl =>
    have h : (throughT pg f y st).bind (kidsT pg f l) = .ok g := by
      have := kidsT_app (pg := pg) (f := f) (l := [y]) (l2 := l) (st := st)
      rw [kidsT_one] at this; rw [← this]; exact h
    cases ht : throughT pg f y st with
    | error e => rw [ht] at h; cases h
    | ok g1 =>
      rw [ht] at h
      obtain ⟨l1, h1⟩ := ih ht
      obtain ⟨l2, h2⟩ := ihl h
      exact ⟨y :: l1 ++ l2, by rw [h2, h1, List.append_assoc]⟩
theorem through_pre {f : Nat} : ∀ {no : Int} {st g : Gone}, throughT pg f no st = .ok g → ∃ l, g.1 = st.1 ++ no :: l := by
  induction f with
  | zero => intro no st g h; cases h
  | succ f ih =>
    intro no st g h
    rw [through_succ] at h
    split at h
    · cases h
    · cases hr : readT pg no with
      | error e => rw [hr] at h; cases h
      | ok n =>
        rw [hr] at h
        obtain ⟨l, hl⟩ := kidsT_pre ih h
        exact ⟨l, by rw [hl]; simp⟩
theorem allT_root (h : allT pg = .ok g) : (g.1 = [] ∧ g.2 = []) ∨ ∃ no l, g.1 = no :: l ∧ mayUse no ∧ Deep pg 32 no := by
  cases hr : rootT pg with
  | error e => rw [allT_err hr] at h; cases h
  | ok no =>
    by_cases h0 : no = 0
    · rw [allT_none hr h0] at h; injection h with h; subst h; exact .inl ⟨rfl, rfl⟩
    · rw [allT_in hr h0] at h
      obtain ⟨l, hl⟩ := through_pre h
      exact .inr ⟨no, l, hl, (rootT_use hr).resolve_left h0, deep_of h⟩
end
end Go.Pl
end

section
namespace Go.Pl
open Go Go.Sx
theorem in_spec {k lo hi : ByteArray} : keyIn k lo hi = true ↔ kLt k lo = false ∧ (hi = ⟨#[]⟩ ∨ kLt k hi = true) := by
  unfold keyIn
  simp only [Bool.and_eq_true, Bool.not_eq_true', Bool.or_eq_true, decide_eq_true_eq]
theorem rising_app {a b : List ByteArray} (ha : rising a) (hb : rising b) (h : ∀ x ∈ a, ∀ y ∈ b, kLt x y = true) : rising (a ++ b) := List.pairwise_append.2 ⟨ha, hb, h⟩
section
variable {pg : Pg}
/-- what a checked page's cells are like -/
def Ordered (lo hi : ByteArray) (cs : List Cell) : Prop := rising (keysOf cs) ∧ ∀ c ∈ cs, keyIn c.key lo hi = true
theorem Ordered.join {lo K hi : ByteArray} {a b : List Cell} (hK : K ≠ ⟨#[]⟩) (ha : Ordered lo K a) (hb : Ordered K hi b) (ha0 : a ≠ []) (hb0 : b ≠ []) : Ordered lo hi (a ++ b) := by
  have hlt : ∀ x ∈ a, ∀ y ∈ b, kLt x.key y.key = true := fun x hx y hy => by
    have h1 := (in_spec.1 (ha.2 x hx)).2.resolve_left hK
    have h2 := (in_spec.1 (hb.2 y hy)).1
    exact kLt_le h1 h2
  obtain ⟨x0, hx0⟩ := List.exists_mem_of_ne_nil a ha0
  obtain ⟨y0, hy0⟩ := List.exists_mem_of_ne_nil b hb0
  refine ⟨?_, fun c hc => ?_⟩
  · unfold keysOf; rw [List.map_append]
    refine rising_app ha.1 hb.1 fun x hx y hy => ?_
    obtain ⟨c, hc, rfl⟩ := List.mem_map.1 hx
    obtain ⟨d, hd, rfl⟩ := List.mem_map.1 hy
    exact hlt c hc d hd
  · rcases List.mem_append.1 hc with hc | hc
    · refine in_spec.2 ⟨(in_spec.1 (ha.2 c hc)).1, ?_⟩
      rcases (in_spec.1 (hb.2 y0 hy0)).2 with h | h
      · exact .inl h
      · exact .inr (kLt_trans (hlt c hc y0 hy0) h)
    · refine in_spec.2 ⟨?_, (in_spec.1 (hb.2 c hc)).2⟩
      have h1 := (in_spec.1 (ha.2 x0 hx0)).1
      have h2 := hlt x0 hx0 c hc
      cases h3 : kLt c.key lo with
      | false => rfl
      | true => rw [kLt_trans h2 h3] at h1; cases h1
end
end Go.Pl
end

section
namespace Go.Pl
open Go Go.Sx
theorem hasB_may {bs : List UInt8} {m : Int} (h : hasB bs m = true) : mayUse m := by
  unfold hasB at h; rw [Bool.and_eq_true] at h; exact of_decide_eq_true h.1
theorem may_nat {m : Int} (h : mayUse m) : ∃ n : Nat, m = (n : Nat) ∧ 2 ≤ n ∧ n < 32 := by
  unfold mayUse at h; exact ⟨m.toNat, by omega, by omega, by omega⟩
theorem upd_same {Q : Pages} {no : Int} {b : List UInt8} : upd Q no b no = b := by unfold upd; exact if_pos rfl
theorem upd_ne {Q : Pages} {no m : Int} {b : List UInt8} (h : m ≠ no) : upd Q no b m = Q m := by unfold upd; exact if_neg h
/-- the first page tells: the root is r, the pages in use are those of u -/
structure Fst (Q : Pages) (r : Int) (u : Int → Prop) : Prop where
  len : (Q 1).length = 256
  root : rootOf (Q 1) = r
  bit : ∀ m, hasB (Q 1) m = true ↔ u m
theorem Fst.may {Q : Pages} {r : Int} {u : Int → Prop} (h : Fst Q r u) {m : Int} (hm : u m) : mayUse m := hasB_may ((h.bit m).2 hm)
theorem Fst.other {Q Q' : Pages} {r : Int} {u : Int → Prop} (h : Fst Q r u) (e : Q' 1 = Q 1) : Fst Q' r u := ⟨by rw [e]; exact h.len, by rw [e]; exact h.root, by rw [e]; exact h.bit⟩
theorem Fst.iff {Q : Pages} {r : Int} {u u' : Int → Prop} (h : Fst Q r u) (e : ∀ m, u m ↔ u' m) : Fst Q r u' := ⟨h.len, h.root, fun m => (h.bit m).trans (e m)⟩
theorem root_set {bs : List UInt8} (hl : bs.length = 256) {n : Nat} (hn : n < 32) {c : UInt8} : rootOf (bs.set (n / 8) c) = rootOf bs := by
  unfold rootOf; rw [getD_set (by omega), if_neg (by omega)]
theorem Fst.take {Q : Pages} {r : Int} {u : Int → Prop} (h : Fst Q r u) :
    (∃ n Q', takeT Q = .ok (n, Q') ∧ mayUse n ∧ ¬ u n ∧ Fst Q' r (fun m => m = n ∨ u m) ∧ (∀ m, m ≠ 1 → m ≠ n → Q' m = Q m)) ∨ (takeT Q = .error 4 ∧ ∀ m, mayUse m → u m) := by
  cases ht : takeB (Q 1) with
  | none =>
    refine .inr ⟨by unfold takeT; rw [ht], fun m hm => ?_⟩
    obtain ⟨n, rfl, h1, h2⟩ := may_nat hm
    unfold takeB at ht
    rw [List.find?_eq_none] at ht
    have := ht n (List.mem_range'_1.2 ⟨h1, by omega⟩)
    exact (h.bit _).1 (by simpa using this)
  | some n =>
    obtain ⟨h1, h2, h3⟩ := takeB_is ht
    refine .inl ⟨(n : Nat), _, by unfold takeT; rw [ht], by unfold mayUse; omega, fun hu => ?_, ⟨?_, ?_, fun m => ?_⟩, fun m hm1 hmn => ?_⟩
    · have := (h.bit _).2 hu; rw [h3] at this; cases this
    · rw [upd_ne (by omega), upd_same, setB_len]; exact h.len
    · rw [upd_ne (by omega), upd_same]; unfold setB; rw [root_set h.len h2]; exact h.root
    · rw [upd_ne (by omega), upd_same]
      by_cases hm : mayUse m
      · obtain ⟨k, rfl, h4, h5⟩ := may_nat hm
        rw [hasB_set h.len h2, Bool.or_eq_true, Bool.and_eq_true, decide_eq_true_eq, decide_eq_true_eq]
        constructor
        · rintro (⟨_, e⟩ | e)
          · exact .inl (by omega)
          · exact .inr ((h.bit _).1 e)
        · rintro (e | e)
          · exact .inl ⟨hm, by omega⟩
          · exact .inr ((h.bit _).2 e)
      · constructor
        · intro e; exact absurd (hasB_may e) hm
        · rintro (e | e)
          · exact absurd (by rw [e]; unfold mayUse; omega) hm
          · exact absurd (h.may e) hm
    · rw [upd_ne hmn, upd_ne hm1]
theorem Fst.free {Q : Pages} {r : Int} {u : Int → Prop} (h : Fst Q r u) {no : Int} (hu : u no) :
    ∃ Q', freeT Q no = .ok Q' ∧ Fst Q' r (fun m => u m ∧ m ≠ no) ∧ (∀ m, m ≠ 1 → Q' m = Q m) := by
  obtain ⟨n, rfl, h1, h2⟩ := may_nat (h.may hu)
  refine ⟨_, by unfold freeT; rw [if_pos ((h.bit _).2 hu)], ⟨?_, ?_, fun m => ?_⟩, fun m hm1 => upd_ne hm1⟩
  · rw [upd_same, clrB_len]; exact h.len
  · rw [upd_same]; unfold clrB; rw [Int.toNat_natCast, root_set h.len h2]; exact h.root
  · rw [upd_same]
    by_cases hm : mayUse m
    · obtain ⟨k, rfl, h4, h5⟩ := may_nat hm
      rw [Int.toNat_natCast, hasB_clr h.len h2, Bool.and_eq_true, Bool.not_eq_true', decide_eq_false_iff_not, h.bit]
      constructor
      · rintro ⟨a, b⟩; exact ⟨b, by omega⟩
      · rintro ⟨a, b⟩; exact ⟨by omega, a⟩
    · constructor
      · intro e; exact absurd (hasB_may e) hm
      · rintro ⟨e, _⟩; exact absurd (h.may e) hm
theorem Fst.set {Q : Pages} {r : Int} {u : Int → Prop} (h : Fst Q r u) {no : Int} (h1 : 0 ≤ no) (h2 : no < 256) : Fst (rootSet Q no) no u ∧ ∀ m, m ≠ 1 → rootSet Q no m = Q m := by
  have hl := h.len
  refine ⟨⟨?_, ?_, fun m => ?_⟩, fun m hm => upd_ne hm⟩
  · unfold rootSet; rw [upd_same, List.length_set]; exact hl
  · unfold rootSet rootOf; rw [upd_same, getD_set (by omega), if_pos rfl, UInt8.toNat_ofNat']; omega
  · rw [← h.bit m]
    by_cases hm : mayUse m
    · obtain ⟨k, rfl, h4, h5⟩ := may_nat hm
      unfold rootSet hasB; rw [upd_same, Int.toNat_natCast, getD_set (by omega), if_neg (by omega)]
    · constructor <;> intro e <;> exact absurd (hasB_may e) hm
theorem Fst.rootT {Q : Pages} {r : Int} {u : Int → Prop} (h : Fst Q r u) (hr : r = 0 ∨ mayUse r) : rootT (pgOf Q) = .ok r := by
  have h1 : pgOf Q 1 = (0, Q 1) := by unfold pgOf; rw [if_pos (by decide)]
  have hw : whole256 (pgOf Q 1) = (0, Q 1) := by rw [h1]; unfold whole256; rw [if_neg (by simp), if_neg (by dsimp only; rw [h.len]; simp)]
  have hx : rootX (pgOf Q 1) = (r, 0) := by
    unfold rootX; rw [hw]; dsimp only
    rw [if_neg (by simp), h.root, if_neg]
    rintro ⟨a, b⟩; exact hr.elim a b
  unfold Go.Pl.rootT pageT
  rw [hx, h1, if_pos rfl]; rfl

/-! ### nodes on pages -/
theorem read_is {Q : Pages} {no : Int} {n : Nd} (hn : mayUse no) (h : IsPage (Q no) n) : readT (pgOf Q) no = .ok n := by
  unfold readT pageT
  have hm := may_page hn
  have : pgOf Q no = (0, Q no) := by unfold pgOf; rw [if_pos hm]
  rw [this, if_pos rfl]
  exact decT_ok h
theorem page_put {Q : Pages} {no : Int} {n : Nd} (h : FitsF n) : IsPage (upd Q no (encNd n).1 no) n := by rw [upd_same]; exact ⟨h, rfl⟩
/-- a tree: so deep, at a page, its keys from lo on and below hi; its pages, its cells -/
def TreeAt (Q : Pages) : Nat → Int → ByteArray → ByteArray → Gone → Prop
  | 0, no, lo, hi, g => ∃ n, IsPage (Q no) n ∧ mayUse no ∧ n.leaf = true ∧ g = ([no], n.cells) ∧ ∀ c ∈ n.cells, keyIn c.key lo hi = true
  | d + 1, no, lo, hi, g => ∃ (n : Nd) (ps : List Gone), IsPage (Q no) n ∧ mayUse no ∧ n.leaf = false ∧ ps.length = n.kids.length ∧
      (∀ (i : Nat) (kid : Int) (p : Gone), n.kids[i]? = some kid → ps[i]? = some p → TreeAt Q d kid (lowOf n.keys lo i) (highOf n.keys hi i) p ∧ p.2 ≠ []) ∧
      g = (no :: ps.flatMap Prod.fst, ps.flatMap Prod.snd)
theorem TreeAt.frame {Q Q' : Pages} : ∀ {d : Nat} {no : Int} {lo hi : ByteArray} {g : Gone}, TreeAt Q d no lo hi g → (∀ m ∈ g.1, Q' m = Q m) → TreeAt Q' d no lo hi g := by
  intro d
  induction d with
  | zero =>
    rintro no lo hi g ⟨n, h1, h2, h3, rfl, h5⟩ he
    exact ⟨n, by rw [he no (by simp)]; exact h1, h2, h3, rfl, h5⟩
  | succ d ih =>
    rintro no lo hi g ⟨n, ps, h1, h2, h3, h4, h5, rfl⟩ he
    refine ⟨n, ps, by rw [he no (by simp)]; exact h1, h2, h3, h4, fun i kid p hk hp => ?_, rfl⟩
    obtain ⟨h6, h7⟩ := h5 i kid p hk hp
    exact ⟨ih h6 fun m hm => he m (List.mem_cons_of_mem _ (List.mem_flatMap.2 ⟨p, List.mem_of_getElem? hp, hm⟩)), h7⟩
theorem TreeAt.may {Q : Pages} {d : Nat} {no : Int} {lo hi : ByteArray} {g : Gone} (h : TreeAt Q d no lo hi g) : mayUse no := by
  cases d with
  | zero => obtain ⟨n, _, h, _⟩ := h; exact h
  | succ d => obtain ⟨n, ps, _, h, _⟩ := h; exact h
theorem TreeAt.head {Q : Pages} {d : Nat} {no : Int} {lo hi : ByteArray} {g : Gone} (h : TreeAt Q d no lo hi g) : ∃ l, g.1 = no :: l := by
  cases d with
  | zero => obtain ⟨n, _, _, _, rfl, _⟩ := h; exact ⟨[], rfl⟩
  | succ d => obtain ⟨n, ps, _, _, _, _, _, rfl⟩ := h; exact ⟨_, rfl⟩
theorem TreeAt.through {Q : Pages} : ∀ {d : Nat} {no : Int} {lo hi : ByteArray} {g : Gone}, TreeAt Q d no lo hi g → ∀ {f : Nat} {st : Gone}, d < f → (st.1 ++ g.1).Nodup → (st.1 ++ g.1).length ≤ 32 → throughT (pgOf Q) f no st = .ok (st.1 ++ g.1, st.2 ++ g.2) := by
  intro d
  induction d with
  | zero =>
    rintro no lo hi g ⟨n, h1, h2, h3, rfl, h5⟩ f st hf hn hl
    obtain ⟨f, rfl⟩ : ∃ f', f = f' + 1 := ⟨f - 1, by omega⟩
    have hbad : ¬ (32 ≤ st.1.length ∨ no ∈ st.1) := by
      rintro (h | h)
      · simp only [List.length_append, List.length_singleton] at hl; omega
      · exact (List.nodup_append.1 hn).2.2 no h no (by simp) rfl
    rw [through_in hbad (read_is h2 h1), (h1.1.nd.leaf h3).2]; rfl
  | succ d ih =>
    rintro no lo hi g ⟨n, ps, h1, h2, h3, h4, h5, rfl⟩ f st hf hn hl
    obtain ⟨f, rfl⟩ : ∃ f', f = f' + 1 := ⟨f - 1, by omega⟩
    have hbad : ¬ (32 ≤ st.1.length ∨ no ∈ st.1) := by
      rintro (h | h)
      · simp only [List.length_append, List.length_cons] at hl; omega
      · exact (List.nodup_append.1 hn).2.2 no h no (by simp) rfl
    have hc0 : n.cells = [] := ((may_ways h3).1 h1.1.nd.may).1
    rw [through_in hbad (read_is h2 h1), hc0, List.append_nil]
    have key : ∀ m, m ≤ n.kids.length → kidsT (pgOf Q) f (n.kids.take m) (st.1 ++ [no], st.2) = .ok (st.1 ++ (no :: (ps.take m).flatMap Prod.fst), st.2 ++ (ps.take m).flatMap Prod.snd) := by
      intro m
      induction m with
      | zero => intro _; rw [List.take_zero, List.take_zero]; simp [kidsT_nil]
      | succ m ihm =>
        intro hm
        obtain ⟨kid, hk⟩ : ∃ kid, n.kids[m]? = some kid := ⟨_, List.getElem?_eq_getElem (by omega)⟩
        obtain ⟨p, hp⟩ : ∃ p, ps[m]? = some p := ⟨_, List.getElem?_eq_getElem (by omega)⟩
        rw [kidsT_step hk (ihm (by omega))]
        have hsub : ps = ps.take m ++ p :: ps.drop (m + 1) := by
          have hlt : m < ps.length := by omega
          have e := List.take_append_drop m ps
          rw [List.drop_eq_getElem_cons hlt] at e
          rw [(List.getElem?_eq_some_iff.1 hp).2] at e
          exact e.symm
        have hnod : (st.1 ++ (no :: (ps.take m).flatMap Prod.fst) ++ p.1).Nodup ∧ (st.1 ++ (no :: (ps.take m).flatMap Prod.fst) ++ p.1).length ≤ 32 := by
          rw [hsub] at hn hl
          simp only [List.flatMap_append, List.flatMap_cons] at hn hl
          have e : st.1 ++ no :: ((ps.take m).flatMap Prod.fst ++ (p.1 ++ (ps.drop (m + 1)).flatMap Prod.fst)) = (st.1 ++ (no :: (ps.take m).flatMap Prod.fst) ++ p.1) ++ (ps.drop (m + 1)).flatMap Prod.fst := by simp
          rw [e] at hn hl
          exact ⟨(List.nodup_append.1 hn).1, by rw [List.length_append] at hl; omega⟩
        rw [ih (h5 m kid p hk hp).1 (f := f) (by omega) hnod.1 hnod.2]
        rw [List.take_add_one, hp]
        simp
    have := key n.kids.length (Nat.le_refl _)
    rw [List.take_of_length_le (Nat.le_refl _), ← h4, List.take_of_length_le (Nat.le_refl _)] at this
    exact this
end Go.Pl
end

section
namespace Go.Pl
open Go Go.Sx
theorem TreeAt.check {Q : Pages} : ∀ {d : Nat} {no : Int} {lo hi : ByteArray} {g : Gone}, TreeAt Q d no lo hi g → ∀ {f : Nat} {top : Bool}, d < f → (top = true ∨ g.2 ≠ []) → checkT (pgOf Q) f no lo hi top = .ok (d : Int) := by
  intro d
  induction d with
  | zero =>
    rintro no lo hi g ⟨n, h1, h2, h3, rfl, h5⟩ f top hf ht
    obtain ⟨f, rfl⟩ : ∃ f', f = f' + 1 := ⟨f - 1, by omega⟩
    exact checkT_leaf (read_is h2 h1) h3 (ht.imp id fun h => List.length_pos_iff.2 h) h5
  | succ d ih =>
    rintro no lo hi g ⟨n, ps, h1, h2, h3, h4, h5, rfl⟩ f top hf ht
    obtain ⟨f, rfl⟩ : ∃ f', f = f' + 1 := ⟨f - 1, by omega⟩
    rw [checkT_ways (read_is h2 h1) h3]
    have hkl := (h1.1.nd.ways h3).1
    have key : ∀ m, m ≤ n.kids.length → kidsC (pgOf Q) f n lo hi m = .ok (if m = 0 then -1 else (d : Int)) := by
      intro m
      induction m with
      | zero => intro _; rfl
      | succ m ihm =>
        intro hm
        obtain ⟨kid, hk⟩ : ∃ kid, n.kids[m]? = some kid := ⟨_, List.getElem?_eq_getElem (by omega)⟩
        obtain ⟨p, hp⟩ : ∃ p, ps[m]? = some p := ⟨_, List.getElem?_eq_getElem (by omega)⟩
        obtain ⟨h6, h7⟩ := h5 m kid p hk hp
        rw [kidsC_next (ihm (by omega)) hk rfl rfl (ih h6 (by omega) (.inr h7)), if_pos, if_neg (by omega)]
        by_cases h0 : m = 0
        · rw [if_pos h0]; exact .inl (by omega)
        · rw [if_neg h0]; exact .inr rfl
    have := key n.kids.length (Nat.le_refl _)
    rw [if_neg (by omega)] at this
    exact bind_ok this
theorem parts_ordered {n : Nd} (hmk : ∀ k ∈ n.keys, mayKey k = true) (hkl : n.keys.length + 1 = n.kids.length) {lo hi : ByteArray} {ps : List Gone} (h4 : ps.length = n.kids.length)
    (h5 : ∀ (i : Nat) (p : Gone), ps[i]? = some p → Ordered (lowOf n.keys lo i) (highOf n.keys hi i) p.2 ∧ p.2 ≠ []) : Ordered lo hi (ps.flatMap Prod.snd) ∧ ps.flatMap Prod.snd ≠ [] := by
  have key : ∀ m, 0 < m → m ≤ ps.length → Ordered lo (highOf n.keys hi (m - 1)) ((ps.take m).flatMap Prod.snd) ∧ (ps.take m).flatMap Prod.snd ≠ [] := by
    intro m
    induction m with
    | zero => intro h0; omega
    | succ m ihm =>
      intro _ hm
      obtain ⟨p, hp⟩ : ∃ p, ps[m]? = some p := ⟨_, List.getElem?_eq_getElem (by omega)⟩
      obtain ⟨o2, n2⟩ := h5 m p hp
      rw [Nat.add_sub_cancel, List.take_add_one, hp, Option.toList_some, List.flatMap_append]
      simp only [List.flatMap_cons, List.flatMap_nil, List.append_nil]
      by_cases h0 : m = 0
      · subst h0
        rw [low_neg (by omega)] at o2
        simp only [List.take_zero, List.flatMap_nil, List.nil_append]
        exact ⟨o2, n2⟩
      · obtain ⟨o1, n1⟩ := ihm (by omega) (by omega)
        obtain ⟨K, hK⟩ : ∃ K, n.keys[m - 1]? = some K := ⟨_, List.getElem?_eq_getElem (by omega)⟩
        rw [low_pos (by omega) hK] at o2
        rw [high_pos (by omega) hK] at o1
        exact ⟨o1.join (key_16 (hmk K (List.mem_of_getElem? hK))).2 o2 n1 n2, by simp [n1]⟩
  have := key ps.length (by omega) (Nat.le_refl _)
  rw [List.take_of_length_le (Nat.le_refl _), high_neg (by omega)] at this
  exact this
theorem TreeAt.ordered {Q : Pages} : ∀ {d : Nat} {no : Int} {lo hi : ByteArray} {g : Gone}, TreeAt Q d no lo hi g → Ordered lo hi g.2 := by
  intro d
  induction d with
  | zero => rintro no lo hi g ⟨n, h1, h2, h3, rfl, h5⟩; exact ⟨h1.1.nd.rise, h5⟩
  | succ d ih =>
    rintro no lo hi g ⟨n, ps, h1, h2, h3, h4, h5, rfl⟩
    obtain ⟨_, hmk, hrk, _, _, _, hkl⟩ := (may_ways h3).1 h1.1.nd.may
    refine (parts_ordered hmk hkl h4 fun i p hp => ?_).1
    obtain ⟨kid, hk⟩ : ∃ kid, n.kids[i]? = some kid := ⟨_, List.getElem?_eq_getElem (by have := (List.getElem?_eq_some_iff.1 hp).1; omega)⟩
    obtain ⟨h6, h7⟩ := h5 i kid p hk hp
    exact ⟨ih h6, h7⟩
theorem lt_at {l : List ByteArray} (h : rising l) {i j : Nat} {a b : ByteArray} (hij : i < j) (hi : l[i]? = some a) (hj : l[j]? = some b) : kLt a b = true := by
  obtain ⟨h1, rfl⟩ := List.getElem?_eq_some_iff.1 hi
  obtain ⟨h2, rfl⟩ := List.getElem?_eq_some_iff.1 hj
  exact List.pairwise_iff_getElem.1 h i j h1 h2 hij
/-- the way down to a key -/
theorem kid_in {keys : List ByteArray} (hr : rising keys) {k lo hi : ByteArray} (h : keyIn k lo hi = true) : keyIn k (lowOf keys lo (kidI keys k)) (highOf keys hi (kidI keys k)) = true := by
  have hs := findI_stands hr k
  obtain ⟨h1, h2⟩ := in_spec.1 h
  refine in_spec.2 ?_
  unfold kidI
  by_cases he : keys[findI keys k]? = some k
  · rw [if_pos he]
    have hlt := (List.getElem?_eq_some_iff.1 he).1
    refine ⟨?_, ?_⟩
    · unfold lowOf
      rw [if_pos (by omega), Nat.add_sub_cancel, List.getD_eq_getElem?_getD, he]
      exact kLt_irrefl k
    · unfold highOf
      by_cases hl : findI keys k + 1 < keys.length
      · rw [if_pos hl]
        obtain ⟨b, hb⟩ : ∃ b, keys[findI keys k + 1]? = some b := ⟨_, List.getElem?_eq_getElem hl⟩
        rw [List.getD_eq_getElem?_getD, hb]
        exact .inr (lt_at hr (by omega) he hb)
      · rw [if_neg hl]; exact h2
  · rw [if_neg he]
    refine ⟨?_, ?_⟩
    · unfold lowOf
      by_cases h0 : 0 < findI keys k
      · rw [if_pos h0]
        obtain ⟨b, hb⟩ : ∃ b, keys[findI keys k - 1]? = some b := ⟨_, List.getElem?_eq_getElem (by have := hs.le; omega)⟩
        rw [List.getD_eq_getElem?_getD, hb]
        exact kLt_asymm (hs.less _ b (by omega) hb)
      · rw [if_neg h0]; exact h1
    · unfold highOf
      by_cases hl : findI keys k < keys.length
      · rw [if_pos hl]
        obtain ⟨b, hb⟩ : ∃ b, keys[findI keys k]? = some b := ⟨_, List.getElem?_eq_getElem hl⟩
        rw [List.getD_eq_getElem?_getD, hb]
        have h3 := hs.rest _ b (Nat.le_refl _) hb
        rcases kLt_total k b with h4 | h4 | h4
        · exact .inr h4
        · subst h4; exact absurd hb he
        · rw [h3] at h4; cases h4
      · rw [if_neg hl]; exact h2
/-- no key lies on two ways -/
theorem way_one {keys : List ByteArray} (hr : rising keys) (h0 : ∀ k ∈ keys, k ≠ ⟨#[]⟩) {k lo hi : ByteArray} {i j : Nat} (hij : i < j) (hj : j ≤ keys.length) (h1 : keyIn k (lowOf keys lo i) (highOf keys hi i) = true) (h2 : keyIn k (lowOf keys lo j) (highOf keys hi j) = true) : False := by
  obtain ⟨a, ha⟩ : ∃ a, keys[i]? = some a := ⟨_, List.getElem?_eq_getElem (by omega)⟩
  obtain ⟨b, hb⟩ : ∃ b, keys[j - 1]? = some b := ⟨_, List.getElem?_eq_getElem (by omega)⟩
  have h3 := (in_spec.1 h1).2
  have h4 := (in_spec.1 h2).1
  unfold highOf at h3
  unfold lowOf at h4
  rw [if_pos (by omega), List.getD_eq_getElem?_getD, ha] at h3
  rw [if_pos (by omega), List.getD_eq_getElem?_getD, hb] at h4
  have h3 : kLt k a = true := h3.resolve_left (h0 a (List.mem_of_getElem? ha))
  have h4 : kLt k b = false := h4
  by_cases e : i = j - 1
  · subst e; rw [ha] at hb; injection hb with hb; subst hb; rw [h3] at h4; cases h4
  · rw [kLt_trans h3 (lt_at hr (by omega) ha hb)] at h4; cases h4
/-- what is found under a key -/
def Found (cells : List Cell) (k : ByteArray) : Option Cell → Prop
  | some z => z ∈ cells ∧ z.key = k
  | none => ∀ c ∈ cells, c.key ≠ k
theorem found_leaf {cells : List Cell} (hr : rising (keysOf cells)) (k : ByteArray) : Found cells k (cellOf cells k) := by
  by_cases he : (keysOf cells)[findI (keysOf cells) k]? = some k
  · obtain ⟨z, hz1, hz2⟩ := key_cell he
    rw [cellOf_at hz1 hz2]; exact ⟨List.mem_of_getElem? hz1, hz2⟩
  · rw [cellOf_none he]
    intro c hc hk
    obtain ⟨j, hj⟩ := List.getElem?_of_mem hc
    have hkj : (keysOf cells)[j]? = some k := by unfold keysOf; rw [List.getElem?_map, hj, Option.map_some, hk]
    have hs := findI_stands hr k
    rcases Nat.lt_trichotomy j (findI (keysOf cells) k) with h | h | h
    · have := hs.less j k h hkj; rw [kLt_irrefl] at this; cases this
    · rw [← h] at he; exact he hkj
    · obtain ⟨b, hb⟩ : ∃ b, (keysOf cells)[findI (keysOf cells) k]? = some b := ⟨_, List.getElem?_eq_getElem (by have := (List.getElem?_eq_some_iff.1 hkj).1; omega)⟩
      have h1 := hs.rest _ b (Nat.le_refl _) hb
      rw [lt_at hr h hb hkj] at h1; cases h1
theorem TreeAt.get {Q : Pages} {k : ByteArray} : ∀ {d : Nat} {no : Int} {lo hi : ByteArray} {g : Gone}, TreeAt Q d no lo hi g → ∀ {f : Nat}, d < f → keyIn k lo hi = true → ∃ o, getT (pgOf Q) k f no = .ok o ∧ Found g.2 k o := by
  intro d
  induction d with
  | zero =>
    rintro no lo hi g ⟨n, h1, h2, h3, rfl, h5⟩ f hf hk
    obtain ⟨f, rfl⟩ : ∃ f', f = f' + 1 := ⟨f - 1, by omega⟩
    have h0 : no ≠ 0 := by unfold mayUse at h2; omega
    exact ⟨_, getT_leaf h0 (read_is h2 h1) h3, found_leaf h1.1.nd.rise k⟩
  | succ d ih =>
    rintro no lo hi g ⟨n, ps, h1, h2, h3, h4, h5, rfl⟩ f hf hk
    obtain ⟨f, rfl⟩ : ∃ f', f = f' + 1 := ⟨f - 1, by omega⟩
    have h0 : no ≠ 0 := by unfold mayUse at h2; omega
    obtain ⟨_, hmk, hrk, _, _, _, hkl⟩ := (may_ways h3).1 h1.1.nd.may
    have hne : ∀ k ∈ n.keys, k ≠ ⟨#[]⟩ := fun k hk => (key_16 (hmk k hk)).2
    have hil := kidI_le n.keys k
    obtain ⟨kid, hkid⟩ : ∃ kid, n.kids[kidI n.keys k]? = some kid := ⟨_, List.getElem?_eq_getElem (by omega)⟩
    obtain ⟨p, hp⟩ : ∃ p, ps[kidI n.keys k]? = some p := ⟨_, List.getElem?_eq_getElem (by omega)⟩
    have hin := kid_in hrk hk
    obtain ⟨o, ho, hf2⟩ := ih (h5 _ kid p hkid hp).1 (f := f) (by omega) hin
    refine ⟨o, by rw [getT_kid h0 (read_is h2 h1) h3, List.getD_eq_getElem?_getD, hkid]; exact ho, ?_⟩
    cases o with
    | some z => exact ⟨List.mem_flatMap.2 ⟨p, List.mem_of_getElem? hp, hf2.1⟩, hf2.2⟩
    | none =>
      intro c hc e
      obtain ⟨q, hq, hcq⟩ := List.mem_flatMap.1 hc
      obtain ⟨j, hj⟩ := List.getElem?_of_mem hq
      have hjl := (List.getElem?_eq_some_iff.1 hj).1
      obtain ⟨kj, hkj⟩ : ∃ kj, n.kids[j]? = some kj := ⟨_, List.getElem?_eq_getElem (by omega)⟩
      have hr := (h5 j kj q hkj hj).1
      by_cases hji : j = kidI n.keys k
      · subst hji; rw [hp] at hj; injection hj with hj; subst hj; exact hf2 c hcq e
      · have hcin : keyIn c.key (lowOf n.keys lo j) (highOf n.keys hi j) = true := hr.ordered.2 c hcq
        rw [e] at hcin
        rcases Nat.lt_or_gt_of_ne hji with h | h
        · exact way_one hrk hne h (by omega) hcin hin
        · exact way_one hrk hne h (by omega) hin hcin
end Go.Pl
end

section
namespace Go.Pl
open Go Go.Sx
theorem step_keeps {n : Nd} {st : Nat × Nat} {i : Nat} (hi : 1 ≤ i) (h : st.1 ≠ 0) : (stepB n st i).1 ≠ 0 := by
  unfold stepB; split
  · dsimp only; omega
  · exact h
theorem best_some {n : Nd} {i : Nat} (h1 : 1 ≤ i) (h2 : i < countN n) (hf : Fits (halvesN n i).1 ∧ Fits (halvesN n i).2.1) : bestN n ≠ 0 := by
  have key : ∀ m, i < m → (bestTo n m).1 ≠ 0 := by
    intro m
    induction m with
    | zero => intro h; omega
    | succ m ih =>
      intro h
      rw [bestTo_succ n (by omega)]
      by_cases e : m = i
      · subst e
        by_cases h0 : (bestTo n m).1 = 0
        · unfold stepB; rw [if_pos ⟨hf.1, hf.2, .inl h0⟩]; dsimp only; omega
        · exact step_keeps h1 h0
      · exact step_keeps (by omega) (ih (by omega))
  exact key _ h2
theorem best_is {n : Nd} (h : bestN n ≠ 0) : 1 ≤ bestN n ∧ bestN n < countN n ∧ Fits (halvesN n (bestN n)).1 ∧ Fits (halvesN n (bestN n)).2.1 := (bestTo_le n (countN n)).resolve_left h
theorem leaf_len {n : Nd} (h : n.leaf = true) : (ndBytes n).length = 1 + (put n.cells.length).length + (n.cells.flatMap cellBytes).length := by
  unfold ndBytes; rw [if_pos h]; simp only [List.length_cons, List.length_append]; omega
theorem ways_len {n : Nd} (h : n.leaf = false) : (ndBytes n).length = 1 + (put n.kids.length).length + (n.kids.flatMap put).length + (n.keys.flatMap putText).length := by
  unfold ndBytes; rw [if_neg (by rw [h]; simp)]; simp only [List.length_cons, List.length_append]; omega
theorem flat_ge {α : Type} {f : α → List UInt8} {b : Nat} : ∀ {l : List α}, (∀ x ∈ l, b ≤ (f x).length) → b * l.length ≤ (l.flatMap f).length := by
  intro l
  induction l with
  | nil => intro _; simp
  | cons x l ih =>
    intro h
    have h1 := h x (by simp)
    have h2 := ih fun y hy => h y (by simp [hy])
    simp only [List.flatMap_cons, List.length_append, List.length_cons, Nat.mul_succ]; omega
theorem cell_ge {c : Cell} (h : mayCell c = true) : 4 ≤ (cellBytes c).length := by
  have hk := (cell_ok h).key
  have h1 := put_length c.val.kind
  have h2 := put_length c.txn
  have h3 : c.key ≠ ⟨#[]⟩ := by
    unfold mayCell at h
    simp only [Bool.and_eq_true] at h
    exact (key_16 h.1.1.1.1.1).2
  have h4 : 0 < c.key.size := by
    rcases Nat.eq_zero_or_pos c.key.size with h | h
    · exfalso; apply h3; apply ByteArray.ext; exact Array.eq_empty_of_size_eq_zero h
    · exact h
  have h5 := putText_len (s := c.key) (by omega)
  unfold cellBytes vlBytes
  simp only [List.length_append]; omega
/-- a leaf that is too big by one cell -/
theorem cut_leaf {n : Nd} (hm : MayNd n) (hl : n.leaf = true) (hb : (n.cells.flatMap cellBytes).length ≤ 321) (hf : ¬ Fits n) : bestN n ≠ 0 := by
  obtain ⟨hk1, hk2, hmc, hr⟩ := (may_leaf hl).1 hm
  have hlen := leaf_len hl
  have hbig : 256 < (ndBytes n).length := Nat.lt_of_not_le fun h => hf ⟨hm, h⟩
  have hcb : ∀ c ∈ n.cells, (cellBytes c).length ≤ 67 := fun c hc => cellBytes_len (hmc c hc)
  have hlo := flat_ge (f := cellBytes) (b := 4) fun c hc => cell_ge (hmc c hc)
  have hput : (put (n.cells.length : Int)).length ≤ 10 := (put_len (by omega) (by omega)).2
  let P := fun i => ((n.cells.take i).flatMap cellBytes).length
  have hstep : ∀ i, P (i + 1) ≤ P i + 67 := by
    intro i
    show ((n.cells.take (i + 1)).flatMap cellBytes).length ≤ ((n.cells.take i).flatMap cellBytes).length + 67
    cases h : n.cells[i]? with
    | none => rw [List.take_of_length_le (by have := List.getElem?_eq_none_iff.1 h; omega), List.take_of_length_le (List.getElem?_eq_none_iff.1 h)]; omega
    | some x => rw [flat_succ h, List.length_append]; have := hcb x (List.mem_of_getElem? h); omega
  have hsum : ∀ i, P i + ((n.cells.drop i).flatMap cellBytes).length = (n.cells.flatMap cellBytes).length := by
    intro i
    show ((n.cells.take i).flatMap cellBytes).length + _ = _
    rw [← List.length_append, ← List.flatMap_append, List.take_append_drop]
  have hP0 : P 0 = 0 := by show ((n.cells.take 0).flatMap cellBytes).length = 0; simp
  have hPend : P n.cells.length = (n.cells.flatMap cellBytes).length := by show ((n.cells.take n.cells.length).flatMap cellBytes).length = _; rw [List.take_of_length_le (Nat.le_refl _)]
  have hmono : ∀ i, n.cells.length ≤ i → P i = (n.cells.flatMap cellBytes).length := fun i hi => by show ((n.cells.take i).flatMap cellBytes).length = _; rw [List.take_of_length_le hi]
  obtain ⟨i, h1, h2, h3⟩ : ∃ i, 1 ≤ i ∧ P i ≤ 134 ∧ (n.cells.flatMap cellBytes).length - 254 ≤ P i := by
    generalize hs : (n.cells.flatMap cellBytes).length - 254 = s
    have hs67 : s ≤ 67 := by omega
    have key : ∀ m, s ≤ P m → ∃ i, 1 ≤ i ∧ P i ≤ 134 ∧ s ≤ P i := by
      intro m
      induction m with
      | zero => intro h; have := hstep 0; rw [Nat.zero_add] at this; exact ⟨1, Nat.le_refl _, by omega, by omega⟩
      | succ m ih =>
        intro h
        by_cases h4 : s ≤ P m
        · exact ih h4
        · have := hstep m; exact ⟨m + 1, by omega, by omega, h⟩
    exact key n.cells.length (by omega)
  have hlt : i < n.cells.length := by
    refine Nat.lt_of_not_le fun h => ?_
    have := hmono i h; omega
  have hsm := hsum i
  have hsm : P i + ((n.cells.drop i).flatMap cellBytes).length = (n.cells.flatMap cellBytes).length := hsm
  have hcl := flat_ge (f := cellBytes) (b := 4) (l := n.cells.take i) fun c hc => cell_ge (hmc c (List.mem_of_mem_take hc))
  have hcr := flat_ge (f := cellBytes) (b := 4) (l := n.cells.drop i) fun c hc => cell_ge (hmc c (List.mem_of_mem_drop hc))
  have hPi : ((n.cells.take i).flatMap cellBytes).length = P i := rfl
  refine best_some (i := i) h1 (by unfold countN; rw [if_pos hl]; exact hlt) ?_
  rw [halves_leaf hl]
  refine ⟨⟨(may_leaf rfl).2 ⟨rfl, rfl, fun c hc => hmc c (List.mem_of_mem_take hc), ?_⟩, ?_⟩, ⟨(may_leaf rfl).2 ⟨rfl, rfl, fun c hc => hmc c (List.mem_of_mem_drop hc), ?_⟩, ?_⟩⟩
  · dsimp only; rw [List.map_take]; exact hr.sublist (List.take_sublist _ _)
  · rw [leaf_len rfl]; dsimp only; rw [put_len1 (by omega) (by rw [hPi] at hcl; omega)]; omega
  · dsimp only; rw [List.map_drop]; exact hr.sublist (List.drop_sublist _ _)
  · rw [leaf_len rfl]; dsimp only; rw [put_len1 (by omega) (by omega)]; omega
theorem flat_put {l : List Int} (h : ∀ x ∈ l, 2 ≤ x ∧ x < 32) : (l.flatMap put).length = l.length := by
  induction l with
  | nil => rfl
  | cons x l ih =>
    have h1 := h x (by simp)
    rw [List.flatMap_cons, List.length_append, put_len1 (by omega) (by omega), ih fun y hy => h y (by simp [hy]), List.length_cons]; omega
theorem flat_text {l : List ByteArray} (h : ∀ k ∈ l, mayKey k = true) : (l.flatMap putText).length ≤ 17 * l.length :=
  flat_len fun k hk => by have := (key_16 (h k hk)).1; rw [putText_len (by omega)]; omega
theorem ways_fit {n : Nd} (hm : MayNd n) (hl : n.leaf = false) (hk : n.kids.length ≤ 15) : Fits n := by
  obtain ⟨h1, h2, h3, h4, h5, h6, h7⟩ := (may_ways hl).1 hm
  refine ⟨hm, ?_⟩
  rw [ways_len hl, put_len1 (by omega) (by omega), flat_put h4]
  have := flat_text h2
  omega
/-- a node of ways that is too big -/
theorem cut_ways {n : Nd} (hm : MayNd n) (hl : n.leaf = false) (hk : n.kids.length ≤ 30) (hf : ¬ Fits n) : bestN n ≠ 0 ∧ 16 ≤ n.kids.length := by
  have hbig : 16 ≤ n.kids.length := by
    refine Nat.le_of_not_lt fun h => hf (ways_fit hm hl (by omega))
  obtain ⟨h1, h2, h3, h4, h5, h6, h7⟩ := (may_ways hl).1 hm
  refine ⟨best_some (i := n.kids.length / 2) (by omega) (by unfold countN; rw [if_neg (by rw [hl]; simp)]; omega) ?_, hbig⟩
  rw [halves_ways hl]
  refine ⟨ways_fit ((may_ways rfl).2 ⟨rfl, fun k hk => h2 k (List.mem_of_mem_take hk), h3.sublist (List.take_sublist _ _), fun x hx => h4 x (List.mem_of_mem_take hx), ?_, ?_, ?_⟩) rfl ?_, ways_fit ((may_ways rfl).2 ⟨rfl, fun k hk => h2 k (List.mem_of_mem_drop hk), h3.sublist (List.drop_sublist _ _), fun x hx => h4 x (List.mem_of_mem_drop hx), ?_, ?_, ?_⟩) rfl ?_⟩
  all_goals dsimp only
  all_goals simp only [List.length_take, List.length_drop]
  all_goals omega

/-! ### a cell put among cells -/
theorem rising_nodup {l : List ByteArray} (h : rising l) : l.Nodup := h.imp fun h => kLt_ne h
theorem key_inj {cells : List Cell} (h : rising (keysOf cells)) {a b : Cell} (ha : a ∈ cells) (hb : b ∈ cells) (e : a.key = b.key) : a = b := by
  obtain ⟨i, hi⟩ := List.getElem?_of_mem ha
  obtain ⟨j, hj⟩ := List.getElem?_of_mem hb
  rcases Nat.lt_trichotomy i j with hij | hij | hij
  · have := lt_at h hij (keys_at hi) (keys_at hj); rw [e, kLt_irrefl] at this; cases this
  · subst hij; rw [hi] at hj; injection hj
  · have := lt_at h hij (keys_at hj) (keys_at hi); rw [e, kLt_irrefl] at this; cases this
/-- cells in order are told by which they are -/
theorem rising_ext : ∀ {a b : List Cell}, rising (keysOf a) → rising (keysOf b) → (∀ c, c ∈ a ↔ c ∈ b) → a = b := by
  intro a
  induction a with
  | nil =>
    intro b _ _ h
    cases b with
    | nil => rfl
    | cons y b => have := (h y).2 (by simp); cases this
  | cons x a ih =>
    intro b ha hb h
    cases b with
    | nil => have := (h x).1 (by simp); cases this
    | cons y b =>
      unfold keysOf at ha hb
      rw [List.map_cons] at ha hb
      obtain ⟨ha1, ha2⟩ := List.pairwise_cons.1 ha
      obtain ⟨hb1, hb2⟩ := List.pairwise_cons.1 hb
      have hax : ∀ c ∈ a, kLt x.key c.key = true := fun c hc => ha1 _ (List.mem_map.2 ⟨c, hc, rfl⟩)
      have hby : ∀ c ∈ b, kLt y.key c.key = true := fun c hc => hb1 _ (List.mem_map.2 ⟨c, hc, rfl⟩)
      have hxy : x = y := by
        rcases List.mem_cons.1 ((h x).1 (by simp)) with e | e
        · exact e
        · rcases List.mem_cons.1 ((h y).2 (by simp)) with e2 | e2
          · exact e2.symm
          · have h1 := hby x e
            have h2 := hax y e2
            rw [kLt_asymm h1] at h2; cases h2
      subst hxy
      congr 1
      refine ih ha2 hb2 fun c => ⟨fun hc => ?_, fun hc => ?_⟩
      · rcases List.mem_cons.1 ((h c).1 (List.mem_cons_of_mem _ hc)) with e | e
        · subst e; have := hax c hc; rw [kLt_irrefl] at this; cases this
        · exact e
      · rcases List.mem_cons.1 ((h c).2 (List.mem_cons_of_mem _ hc)) with e | e
        · subst e; have := hby c hc; rw [kLt_irrefl] at this; cases this
        · exact e
/-- these are those and x, in place of the one under its key -/
def PutIn (x : Cell) (a b : List Cell) : Prop := ∀ c, c ∈ b ↔ c = x ∨ (c ∈ a ∧ c.key ≠ x.key)
/-- these are those but the one under the key -/
def CutOut (k : ByteArray) (a b : List Cell) : Prop := ∀ c, c ∈ b ↔ c ∈ a ∧ c.key ≠ k
theorem insC_put {cells : List Cell} (hr : rising (keysOf cells)) (x : Cell) : rising (keysOf (insC cells x)) ∧ PutIn x cells (insC cells x) := by
  have hs := findI_stands hr x.key
  by_cases he : (keysOf cells)[findI (keysOf cells) x.key]? = some x.key
  · rw [insC_at he]
    obtain ⟨z, hz1, hz2⟩ := key_cell he
    have hlt := (List.getElem?_eq_some_iff.1 hz1).1
    refine ⟨?_, fun c => ?_⟩
    · have e : keysOf (cells.set (findI (keysOf cells) x.key) x) = keysOf cells := by
        unfold keysOf at he ⊢
        rw [List.map_set]
        refine List.ext_getElem? fun j => ?_
        by_cases e : findI (cells.map Cell.key) x.key = j
        · subst e; rw [List.getElem?_set_self (List.getElem?_eq_some_iff.1 he).1, he]
        · rw [List.getElem?_set_ne e]
      rw [e]; exact hr
    · constructor
      · intro hc
        obtain ⟨j, hj⟩ := List.getElem?_of_mem hc
        by_cases e : findI (keysOf cells) x.key = j
        · subst e; rw [List.getElem?_set_self hlt] at hj; injection hj with hj; exact .inl hj.symm
        · rw [List.getElem?_set_ne e] at hj
          refine .inr ⟨List.mem_of_getElem? hj, fun ek => e ?_⟩
          have h1 := key_inj hr (List.mem_of_getElem? hj) (List.mem_of_getElem? hz1) (ek.trans hz2.symm)
          subst h1
          rcases Nat.lt_trichotomy j (findI (keysOf cells) x.key) with h | h | h
          · have := lt_at hr h (keys_at hj) (keys_at hz1); rw [kLt_irrefl] at this; cases this
          · exact h.symm
          · have := lt_at hr h (keys_at hz1) (keys_at hj); rw [kLt_irrefl] at this; cases this
      · rintro (rfl | ⟨hc, hk⟩)
        · exact List.mem_of_getElem? (List.getElem?_set_self hlt)
        · obtain ⟨j, hj⟩ := List.getElem?_of_mem hc
          refine List.mem_of_getElem? (i := j) ((List.getElem?_set_ne fun e => hk ?_).trans hj)
          subst e; rw [hz1] at hj; injection hj with hj; rw [← hj]; exact hz2
  · rw [insC_new he]
    have hlt := fun (j : Nat) (c : Cell) (h : j < findI (keysOf cells) x.key) (hj : cells[j]? = some c) => hs.less j c.key h (keys_at hj)
    have hgt : ∀ (j : Nat) (c : Cell), findI (keysOf cells) x.key ≤ j → cells[j]? = some c → kLt x.key c.key = true := by
      intro j c h hj
      have h1 := hs.rest j c.key h (keys_at hj)
      rcases kLt_total x.key c.key with h2 | h2 | h2
      · exact h2
      · exfalso
        by_cases e : findI (keysOf cells) x.key = j
        · rw [e] at he; rw [keys_at hj, h2] at he; exact he rfl
        · obtain ⟨b, hb⟩ : ∃ b, (keysOf cells)[findI (keysOf cells) x.key]? = some b := ⟨_, List.getElem?_eq_getElem (by have := (List.getElem?_eq_some_iff.1 (keys_at hj)).1; omega)⟩
          have h3 := hs.rest _ b (Nat.le_refl _) hb
          rw [h2, lt_at hr (by omega) hb (keys_at hj)] at h3; cases h3
      · rw [h1] at h2; cases h2
    refine ⟨?_, fun c => ?_⟩
    · have e : keysOf (insAt cells (findI (keysOf cells) x.key) x) = (keysOf cells).take (findI (keysOf cells) x.key) ++ x.key :: (keysOf cells).drop (findI (keysOf cells) x.key) := by
        unfold keysOf insAt; rw [List.map_append, List.map_cons, List.map_take, List.map_drop]
      rw [e]
      refine List.pairwise_append.2 ⟨hr.sublist (List.take_sublist _ _), List.pairwise_cons.2 ⟨fun b hb => ?_, hr.sublist (List.drop_sublist _ _)⟩, fun a ha b hb => ?_⟩
      · obtain ⟨j, hj⟩ := List.getElem?_of_mem hb
        rw [List.getElem?_drop] at hj
        obtain ⟨c, hc, rfl⟩ := key_cell hj
        exact hgt _ c (by omega) hc
      · obtain ⟨i, hi⟩ := List.getElem?_of_mem ha
        have hil : i < findI (keysOf cells) x.key := by
          have := (List.getElem?_eq_some_iff.1 hi).1; rw [List.length_take] at this; omega
        rw [List.getElem?_take_of_lt hil] at hi
        obtain ⟨c, hc, rfl⟩ := key_cell hi
        have h1 := hlt i c hil hc
        rcases List.mem_cons.1 hb with rfl | hb
        · exact h1
        · obtain ⟨j, hj⟩ := List.getElem?_of_mem hb
          rw [List.getElem?_drop] at hj
          obtain ⟨c2, hc2, rfl⟩ := key_cell hj
          exact kLt_trans h1 (hgt _ c2 (by omega) hc2)
    · unfold insAt
      rw [List.mem_append, List.mem_cons]
      have hall : c ∈ cells ↔ c ∈ cells.take (findI (keysOf cells) x.key) ∨ c ∈ cells.drop (findI (keysOf cells) x.key) := by
        rw [← List.mem_append, List.take_append_drop]
      have hne : c ∈ cells → c.key ≠ x.key := by
        intro hc e
        obtain ⟨j, hj⟩ := List.getElem?_of_mem hc
        rcases Nat.lt_or_ge j (findI (keysOf cells) x.key) with h | h
        · have := hlt j c h hj; rw [e, kLt_irrefl] at this; cases this
        · have := hgt j c h hj; rw [e, kLt_irrefl] at this; cases this
      constructor
      · rintro (h | h | h)
        · exact .inr ⟨hall.2 (.inl h), hne (hall.2 (.inl h))⟩
        · exact .inl h
        · exact .inr ⟨hall.2 (.inr h), hne (hall.2 (.inr h))⟩
      · rintro (h | ⟨h, _⟩)
        · exact .inr (.inl h)
        · rcases hall.1 h with h | h
          · exact .inl h
          · exact .inr (.inr h)
end Go.Pl
end

section
namespace Go.Pl
open Go Go.Sx
theorem less_take : ∀ (l : List UInt8) (i : Nat), Op.bytesLess l (l.take i) = false
  | l, 0 => by rw [List.take_zero]; cases l <;> rfl
  | [], i + 1 => rfl
  | a :: l, i + 1 => by
    have h : ¬ a < a := by have := UInt8.lt_irrefl a; exact this
    rw [List.take_succ_cons]
    unfold Op.bytesLess
    rw [less_take l i]; simp [h]
theorem extract_list (b : ByteArray) (i : Nat) : (b.extract 0 i).data.toList = b.data.toList.take i := by
  rw [ByteArray.data_extract]; simp
theorem mid_spec {a b : ByteArray} (h : kLt a b = true) (hb : b.size ≤ 16) : kLt a (keyMid a b) = true ∧ kLt b (keyMid a b) = false ∧ mayKey (keyMid a b) = true := by
  have hex : ∃ i, i ≤ b.size ∧ kLt a (b.extract 0 i) = true := by
    refine ⟨b.size, Nat.le_refl _, ?_⟩
    have e : b.extract 0 b.size = b := by
      apply ByteArray.ext
      apply Array.ext'
      rw [extract_list]
      exact List.take_of_length_le (Nat.le_of_eq Array.length_toList)
    rw [e]; exact h
  obtain ⟨i, hi, h1, h2⟩ : ∃ i, i ≤ b.size ∧ kLt a (b.extract 0 i) = true ∧ ∀ j, j < i → kLt a (b.extract 0 j) = false := by
    obtain ⟨i, hi, h1⟩ := hex
    induction i using Nat.strongRecOn with
    | _ i ih =>
      by_cases hx : ∃ j, j < i ∧ kLt a (b.extract 0 j) = true
      · obtain ⟨j, hj, hjk⟩ := hx; exact ih j hj (by omega) hjk
      · refine ⟨i, hi, h1, fun j hj => ?_⟩
        cases e : kLt a (b.extract 0 j) with
        | false => rfl
        | true => exact absurd ⟨j, hj, e⟩ hx
  rw [mid_at hi h2 h1]
  refine ⟨h1, ?_, ?_⟩
  · unfold kLt; rw [extract_list]; exact less_take _ _
  · unfold mayKey
    rw [Bool.and_eq_true, decide_eq_true_eq, decide_eq_true_eq]
    refine ⟨fun e => ?_, ?_⟩
    · rw [e, kLt_nil] at h1; cases h1
    · rw [ByteArray.size_extract]; omega
/-- from these pages to those: a's pages are b's, what came new was free, nothing else is touched -/
structure Same (Q Q' : Pages) (r : Int) (u : Int → Prop) (k : Nat) (a b : List Int) : Prop where
  fst : Fst Q' r (fun m => u m ∨ m ∈ b)
  nodup : b.Nodup
  old : ∀ m ∈ a, m ∈ b
  new : ∀ m ∈ b, m ∈ a ∨ ¬ u m
  few : b.length ≤ a.length + k
  rest : ∀ m, m ≠ 1 → m ∉ b → Q' m = Q m
/-- what putting x into a tree comes to -/
def Grown (Q : Pages) (r : Int) (u : Int → Prop) (d : Nat) (no : Int) (lo hi : ByteArray) (g : Gone) (x : Cell) (res : TE (Part × Pages)) : Prop :=
  (∃ Q' g', res = .ok (noPart, Q') ∧ TreeAt Q' d no lo hi g' ∧ PutIn x g.2 g'.2 ∧ Same Q Q' r u d g.1 g'.1 ∧ (1 < d → ∀ n n', IsPage (Q no) n → IsPage (Q' no) n' → n'.kids.length ≤ n.kids.length ∨ (n'.kids.length = n.kids.length + 1 ∧ 2 * n.kids.length + 15 ≤ g.1.length))) ∨
  (∃ Q' k to ga gb, res = .ok ((k, to), Q') ∧ mayUse to ∧ TreeAt Q' d no lo k ga ∧ TreeAt Q' d to k hi gb ∧ mayKey k = true ∧ ga.2 ≠ [] ∧ gb.2 ≠ [] ∧ PutIn x g.2 (ga.2 ++ gb.2) ∧ Same Q Q' r u (d + 1) g.1 (ga.1 ++ gb.1) ∧ (0 < d → 16 ≤ g.1.length ∧ ∀ n, IsPage (Q no) n → 15 ≤ n.kids.length)) ∨
  (res = .error 4 ∧ ∃ l : List Int, l.length ≤ d ∧ (∀ m, mayUse m → u m ∨ m ∈ l) ∧ (0 < d → d ≤ l.length → ∀ n, IsPage (Q no) n → 15 ≤ n.kids.length))
theorem insC_len2 {cells : List Cell} {x : Cell} : ((insC cells x).flatMap cellBytes).length ≤ (cells.flatMap cellBytes).length + (cellBytes x).length := by
  have hcut : ∀ i, (cells.flatMap cellBytes).length = ((cells.take i).flatMap cellBytes).length + ((cells.drop i).flatMap cellBytes).length := by
    intro i; rw [← List.length_append, ← List.flatMap_append, List.take_append_drop]
  by_cases he : (keysOf cells)[findI (keysOf cells) x.key]? = some x.key
  · rw [insC_at he]
    obtain ⟨z, hz, _⟩ := key_cell he
    obtain ⟨hlt, hz⟩ := List.getElem?_eq_some_iff.1 hz
    rw [List.set_eq_take_append_cons_drop, if_pos hlt, hcut (findI (keysOf cells) x.key), List.drop_eq_getElem_cons hlt]
    simp only [List.flatMap_append, List.flatMap_cons, List.length_append]; omega
  · rw [insC_new he, hcut (findI (keysOf cells) x.key)]
    unfold insAt
    simp only [List.flatMap_append, List.flatMap_cons, List.length_append]; omega
theorem leaf_grown {Q : Pages} {r : Int} {u : Int → Prop} {no : Int} {lo hi : ByteArray} {n : Nd} {x : Cell} (hF : Fst Q r u) (hu : u no) (hp : IsPage (Q no) n) (hl : n.leaf = true) (hin : ∀ c ∈ n.cells, keyIn c.key lo hi = true)
    (hx : mayCell x = true) (hxf : x.val.f < 2 ^ 64 ∧ x.new.f < 2 ^ 64) (hxi : keyIn x.key lo hi = true) : Grown Q r u 0 no lo hi ([no], n.cells) x (putT Q no { n with cells := insC n.cells x }) := by
  have hno := hF.may hu
  have hno1 : no ≠ 1 := by unfold mayUse at hno; omega
  obtain ⟨hk1, hk2, hmc, hr⟩ := (may_leaf hl).1 hp.1.nd.may
  obtain ⟨hr2, hput⟩ := insC_put hr x
  have hmay : ∀ c ∈ insC n.cells x, mayCell c = true ∧ (c.val.f < 2 ^ 64 ∧ c.new.f < 2 ^ 64) ∧ keyIn c.key lo hi = true := fun c hc => by
    rcases (hput c).1 hc with rfl | ⟨h, _⟩
    · exact ⟨hx, hxf, hxi⟩
    · exact ⟨hmc c h, hp.1.fl c h, hin c h⟩
  have hmn : MayNd { n with cells := insC n.cells x } := (may_leaf (n := { n with cells := insC n.cells x }) hl).2 ⟨hk1, hk2, fun c hc => (hmay c hc).1, hr2⟩
  by_cases hf : Fits { n with cells := insC n.cells x }
  · rw [putT_one hf]
    refine .inl ⟨_, ([no], insC n.cells x), rfl, ⟨{ n with cells := insC n.cells x }, page_put (n := { n with cells := insC n.cells x }) ⟨hf, fun c hc => (hmay c hc).2.1⟩, hno, hl, rfl, fun c hc => (hmay c hc).2.2⟩, hput, ⟨?_, by simp, fun m hm => hm, fun m hm => .inl hm, Nat.le_refl _, fun m h1 h2 => upd_ne fun e => h2 (by rw [e]; simp)⟩, fun h => absurd h (by omega)⟩
    refine (hF.other (upd_ne (Ne.symm hno1))).iff fun m => ⟨.inl, ?_⟩
    rintro (h | h)
    · exact h
    · rw [List.mem_singleton] at h; rw [h]; exact hu
  · have hold := leaf_len hl
    have hob := hp.1.fits.2
    have hpo := put_length (n.cells.length : Int)
    have hib := insC_len2 (cells := n.cells) (x := x)
    have hxb := cellBytes_len hx
    have hb := cut_leaf hmn hl (by dsimp only; omega) hf
    obtain ⟨hb1, hb2, hb3, hb4⟩ := best_is hb
    rcases hF.take with ⟨to, Q1, ht, hto, hnu, hF1, hQ1⟩ | ⟨ht, hfull⟩
    · rw [putT_two hf hb ht]
      generalize bestN { n with cells := insC n.cells x } = i at *
      have hcn : countN { n with cells := insC n.cells x } = (insC n.cells x).length := by unfold countN; rw [if_pos hl]
      rw [hcn] at hb2
      rw [halves_leaf (n := { n with cells := insC n.cells x }) hl] at hb3 hb4 ⊢
      dsimp only at hb3 hb4 ⊢
      obtain ⟨a, ha⟩ : ∃ a, (insC n.cells x)[i - 1]? = some a := ⟨_, List.getElem?_eq_getElem (by omega)⟩
      obtain ⟨b, hb⟩ : ∃ b, (insC n.cells x)[i]? = some b := ⟨_, List.getElem?_eq_getElem hb2⟩
      rw [keyOf_at ha, keyOf_at hb]
      have hab := lt_at hr2 (by omega) (keys_at ha) (keys_at hb)
      have hma := hmay a (List.mem_of_getElem? ha)
      have hmb := hmay b (List.mem_of_getElem? hb)
      obtain ⟨hm1, hm2, hm3⟩ := mid_spec hab (cell_ok hmb.1).key
      have hton : to ≠ no := fun e => hnu (by rw [e]; exact hu)
      have hto1 : to ≠ 1 := by unfold mayUse at hto; omega
      refine .inr (.inl ⟨_, _, to, ([no], (insC n.cells x).take i), ([to], (insC n.cells x).drop i), rfl, hto, ⟨⟨true, (insC n.cells x).take i, [], []⟩, ?_, hno, rfl, rfl, fun c hc => ?_⟩, ⟨⟨true, (insC n.cells x).drop i, [], []⟩, page_put ⟨hb4, fun c hc => (hmay c (List.mem_of_mem_drop hc)).2.1⟩, hto, rfl, rfl, fun c hc => ?_⟩, hm3, ?_, ?_, ?_, ⟨?_, ?_, ?_, ?_, ?_, ?_⟩, fun h => absurd h (Nat.lt_irrefl 0)⟩)
      · rw [upd_ne (Ne.symm hton)]; exact page_put ⟨hb3, fun c hc => (hmay c (List.mem_of_mem_take hc)).2.1⟩
      · have hc2 := (hmay c (List.mem_of_mem_take hc)).2.2
        refine in_spec.2 ⟨(in_spec.1 hc2).1, .inr ?_⟩
        obtain ⟨j, hj⟩ := List.getElem?_of_mem hc
        have hji : j < i := by have := (List.getElem?_eq_some_iff.1 hj).1; rw [List.length_take] at this; omega
        rw [List.getElem?_take_of_lt hji] at hj
        by_cases e : j = i - 1
        · subst e; rw [ha] at hj; injection hj with hj; subst hj; exact hm1
        · exact kLt_trans (lt_at hr2 (by omega) (keys_at hj) (keys_at ha)) hm1
      · have hc2 := (hmay c (List.mem_of_mem_drop hc)).2.2
        refine in_spec.2 ⟨?_, (in_spec.1 hc2).2⟩
        obtain ⟨j, hj⟩ := List.getElem?_of_mem hc
        rw [List.getElem?_drop] at hj
        by_cases e : j = 0
        · subst e; rw [Nat.add_zero, hb] at hj; injection hj with hj; subst hj; exact hm2
        · have h5 := lt_at hr2 (show i < i + j by omega) (keys_at hb) (keys_at hj)
          cases h6 : kLt c.key (keyMid a.key b.key) with
          | false => rfl
          | true => have := kLt_trans h5 h6; rw [hm2] at this; cases this
      · intro e; have := congrArg List.length e; simp only [List.length_take, List.length_nil] at this; omega
      · intro e; have := congrArg List.length e; simp only [List.length_drop, List.length_nil] at this; omega
      · dsimp only; rw [List.take_append_drop]; exact hput
      · refine (hF1.other ?_).iff fun m => ?_
        · rw [upd_ne (Ne.symm hto1), upd_ne (Ne.symm hno1)]
        · simp only [List.mem_append, List.mem_singleton]
          constructor
          · rintro (h | h)
            · exact .inr (.inr h)
            · exact .inl h
          · rintro (h | h | h)
            · exact .inr h
            · rw [h]; exact .inr hu
            · exact .inl h
      · simp only [List.singleton_append]; exact List.nodup_cons.2 ⟨by simp [Ne.symm hton], by simp⟩
      · intro m hm; simp at hm ⊢; exact .inl hm
      · intro m hm
        simp only [List.mem_append, List.mem_singleton] at hm
        rcases hm with hm | hm
        · exact .inl (by simp [hm])
        · exact .inr (by rw [hm]; exact hnu)
      · simp
      · intro m h1 h2
        simp only [List.mem_append, List.mem_singleton, not_or] at h2
        rw [upd_ne h2.2, upd_ne h2.1, hQ1 m h1 h2.2]
    · rw [putT_full hf hb ht]
      exact .inr (.inr ⟨rfl, [], Nat.le_refl _, fun m hm => .inl (hfull m hm), fun h => absurd h (by omega)⟩)
end Go.Pl
end

section
namespace Go.Pl
open Go Go.Sx
/-- what lies below a node of ways -/
def Ways (Q : Pages) (d : Nat) (n : Nd) (lo hi : ByteArray) (ps : List Gone) : Prop := ps.length = n.kids.length ∧
  ∀ (i : Nat) (kid : Int) (p : Gone), n.kids[i]? = some kid → ps[i]? = some p → TreeAt Q d kid (lowOf n.keys lo i) (highOf n.keys hi i) p ∧ p.2 ≠ []
def wg (no : Int) (ps : List Gone) : Gone := (no :: ps.flatMap Prod.fst, ps.flatMap Prod.snd)
theorem TreeAt.ways {Q : Pages} {d : Nat} {no : Int} {n : Nd} {lo hi : ByteArray} {ps : List Gone} (hp : IsPage (Q no) n) (hno : mayUse no) (hl : n.leaf = false) (h : Ways Q d n lo hi ps) : TreeAt Q (d + 1) no lo hi (wg no ps) := ⟨n, ps, hp, hno, hl, h.1, h.2, rfl⟩
theorem Ways.frame {Q Q' : Pages} {d : Nat} {n : Nd} {lo hi : ByteArray} {ps : List Gone} (h : Ways Q d n lo hi ps) (he : ∀ p ∈ ps, ∀ m ∈ p.1, Q' m = Q m) : Ways Q' d n lo hi ps :=
  ⟨h.1, fun i kid p hk hp => ⟨(h.2 i kid p hk hp).1.frame fun m hm => he p (List.mem_of_getElem? hp) m hm, (h.2 i kid p hk hp).2⟩⟩
theorem Ways.ordered {Q : Pages} {d : Nat} {n : Nd} {lo hi : ByteArray} {ps : List Gone} (h : Ways Q d n lo hi ps) {i : Nat} {p : Gone} (hp : ps[i]? = some p) : Ordered (lowOf n.keys lo i) (highOf n.keys hi i) p.2 ∧ p.2 ≠ [] := by
  obtain ⟨kid, hk⟩ : ∃ kid, n.kids[i]? = some kid := ⟨_, List.getElem?_eq_getElem (by have := (List.getElem?_eq_some_iff.1 hp).1; have := h.1; omega)⟩
  obtain ⟨h1, h2⟩ := h.2 i kid p hk hp
  exact ⟨h1.ordered, h2⟩
/-- cut in two -/
theorem Ways.halves {Q : Pages} {d : Nat} {n : Nd} {lo hi : ByteArray} {ps : List Gone} (h : Ways Q d n lo hi ps) (hkl : n.keys.length + 1 = n.kids.length) {b : Nat} (h1 : 1 ≤ b) (h2 : b < n.kids.length) {K : ByteArray} (hK : n.keys[b - 1]? = some K) :
    Ways Q d ⟨false, [], n.keys.take (b - 1), n.kids.take b⟩ lo K (ps.take b) ∧ Ways Q d ⟨false, [], n.keys.drop b, n.kids.drop b⟩ K hi (ps.drop b) := by
  refine ⟨⟨by simp only [List.length_take]; have := h.1; omega, fun i kid p hk hp => ?_⟩, ⟨by simp only [List.length_drop]; have := h.1; omega, fun i kid p hk hp => ?_⟩⟩
  · have hib : i < b := by have := (List.getElem?_eq_some_iff.1 hp).1; rw [List.length_take] at this; omega
    dsimp only at hk ⊢
    rw [List.getElem?_take_of_lt hib] at hk hp
    obtain ⟨h3, h4⟩ := h.2 i kid p hk hp
    have e1 : lowOf (n.keys.take (b - 1)) lo i = lowOf n.keys lo i := by
      unfold lowOf
      by_cases h0 : 0 < i
      · rw [if_pos h0, if_pos h0, List.getD_eq_getElem?_getD, List.getD_eq_getElem?_getD, List.getElem?_take_of_lt (by omega)]
      · rw [if_neg h0, if_neg h0]
    have e2 : highOf (n.keys.take (b - 1)) K i = highOf n.keys hi i := by
      unfold highOf
      by_cases h0 : i < b - 1
      · rw [if_pos (by rw [List.length_take]; omega), if_pos (by omega), List.getD_eq_getElem?_getD, List.getD_eq_getElem?_getD, List.getElem?_take_of_lt h0]
      · obtain rfl : i = b - 1 := by omega
        rw [if_neg (by rw [List.length_take]; omega), if_pos (by omega), List.getD_eq_getElem?_getD, hK]; rfl
    rw [e1, e2]; exact ⟨h3, h4⟩
  · dsimp only at hk ⊢
    rw [List.getElem?_drop] at hk hp
    obtain ⟨h3, h4⟩ := h.2 _ kid p hk hp
    have hil := (List.getElem?_eq_some_iff.1 hk).1
    have e1 : lowOf (n.keys.drop b) K i = lowOf n.keys lo (b + i) := by
      unfold lowOf
      by_cases h0 : 0 < i
      · rw [if_pos h0, if_pos (by omega), List.getD_eq_getElem?_getD, List.getD_eq_getElem?_getD, List.getElem?_drop, show b + (i - 1) = b + i - 1 by omega]
      · obtain rfl : i = 0 := by omega
        rw [if_neg h0, if_pos (by omega), Nat.add_zero, List.getD_eq_getElem?_getD, hK]; rfl
    have e2 : highOf (n.keys.drop b) hi i = highOf n.keys hi (b + i) := by
      unfold highOf
      by_cases h0 : b + i < n.keys.length
      · rw [if_pos (by rw [List.length_drop]; omega), if_pos h0, List.getD_eq_getElem?_getD, List.getD_eq_getElem?_getD, List.getElem?_drop]
      · rw [if_neg (by rw [List.length_drop]; omega), if_neg h0]
    rw [e1, e2]; exact ⟨h3, h4⟩
/-- what lies below but at one way -/
def WaysBut (Q : Pages) (d : Nat) (n : Nd) (lo hi : ByteArray) (ps : List Gone) (i : Nat) : Prop := ps.length = n.kids.length ∧
  ∀ (j : Nat) (kid : Int) (p : Gone), j ≠ i → n.kids[j]? = some kid → ps[j]? = some p → TreeAt Q d kid (lowOf n.keys lo j) (highOf n.keys hi j) p ∧ p.2 ≠ []
theorem Ways.but {Q Q' : Pages} {d : Nat} {n : Nd} {lo hi : ByteArray} {ps : List Gone} (h : Ways Q d n lo hi ps) {i : Nat} (he : ∀ (j : Nat) (q : Gone), j ≠ i → ps[j]? = some q → ∀ m ∈ q.1, Q' m = Q m) : WaysBut Q' d n lo hi ps i :=
  ⟨h.1, fun j kid p hj hk hp => ⟨(h.2 j kid p hk hp).1.frame (he j p hj hp), (h.2 j kid p hk hp).2⟩⟩
/-- one part in another's place -/
theorem WaysBut.set {Q : Pages} {d : Nat} {n : Nd} {lo hi : ByteArray} {ps : List Gone} {i : Nat} (h : WaysBut Q d n lo hi ps i) {kid : Int} {q : Gone} (hk : n.kids[i]? = some kid) (hq : TreeAt Q d kid (lowOf n.keys lo i) (highOf n.keys hi i) q) (hq0 : q.2 ≠ []) : Ways Q d n lo hi (ps.set i q) := by
  refine ⟨by rw [List.length_set]; exact h.1, fun j kj p hkj hp => ?_⟩
  by_cases e : i = j
  · subst e
    have hil : i < ps.length := by have := (List.getElem?_eq_some_iff.1 hk).1; have := h.1; omega
    rw [List.getElem?_set_self hil] at hp
    injection hp with hp; subst hp
    rw [hk] at hkj; injection hkj with hkj; subst hkj
    exact ⟨hq, hq0⟩
  · rw [List.getElem?_set_ne e] at hp
    exact h.2 j kj p (Ne.symm e) hkj hp
theorem insAt_get {α : Type} {l : List α} {i : Nat} {y : α} (hi : i ≤ l.length) (j : Nat) : (insAt l i y)[j]? = if j < i then l[j]? else if j = i then some y else l[j - 1]? := by
  unfold insAt
  by_cases h1 : j < i
  · rw [if_pos h1, List.getElem?_append_left (by rw [List.length_take]; omega), List.getElem?_take_of_lt h1]
  · rw [if_neg h1, List.getElem?_append_right (by rw [List.length_take]; omega), List.length_take, Nat.min_eq_left hi]
    by_cases h2 : j = i
    · subst h2; rw [if_pos rfl, Nat.sub_self]; rfl
    · rw [if_neg h2]
      obtain ⟨k, hk⟩ : ∃ k, j - i = k + 1 := ⟨j - i - 1, by omega⟩
      rw [hk, List.getElem?_cons_succ, List.getElem?_drop, show i + k = j - 1 by omega]
/-- one part becomes two -/
theorem WaysBut.two {Q : Pages} {d : Nat} {n : Nd} {lo hi : ByteArray} {ps : List Gone} {i : Nat} (h : WaysBut Q d n lo hi ps i) (hkl : n.keys.length + 1 = n.kids.length) {kid to : Int} {k : ByteArray} {ga gb : Gone} (hk : n.kids[i]? = some kid)
    (ha : TreeAt Q d kid (lowOf n.keys lo i) k ga) (hb : TreeAt Q d to k (highOf n.keys hi i) gb) (ha0 : ga.2 ≠ []) (hb0 : gb.2 ≠ []) :
    Ways Q d { n with keys := insAt n.keys i k, kids := insAt n.kids (i + 1) to } lo hi (insAt (ps.set i ga) (i + 1) gb) := by
  have hil := (List.getElem?_eq_some_iff.1 hk).1
  have hps := h.1
  refine ⟨by rw [insAt_len, List.length_set]; dsimp only; rw [insAt_len, hps], fun j kj p hkj hp => ?_⟩
  dsimp only at hkj ⊢
  rw [insAt_get (by omega)] at hkj
  rw [insAt_get (by rw [List.length_set]; omega)] at hp
  have hlow : lowOf (insAt n.keys i k) lo j = if j ≤ i then lowOf n.keys lo j else if j = i + 1 then k else lowOf n.keys lo (j - 1) := by
    unfold lowOf
    rw [List.getD_eq_getElem?_getD, insAt_get (by omega)]
    by_cases h1 : j ≤ i
    · rw [if_pos h1]
      by_cases h0 : 0 < j
      · rw [if_pos h0, if_pos h0, if_pos (by omega), List.getD_eq_getElem?_getD]
      · rw [if_neg h0, if_neg h0]
    · rw [if_neg h1, if_pos (by omega), if_neg (by omega)]
      by_cases h2 : j = i + 1
      · rw [if_pos h2, if_pos (by omega)]; rfl
      · rw [if_neg h2, if_neg (by omega), if_pos (by omega), List.getD_eq_getElem?_getD]
  have hhigh : highOf (insAt n.keys i k) hi j = if j < i then highOf n.keys hi j else if j = i then k else highOf n.keys hi (j - 1) := by
    unfold highOf
    rw [List.getD_eq_getElem?_getD, insAt_get (by omega), insAt_len]
    by_cases h1 : j < i
    · rw [if_pos h1, if_pos (by omega), if_pos h1, if_pos (by omega), List.getD_eq_getElem?_getD]
    · rw [if_neg h1, if_neg h1]
      by_cases h2 : j = i
      · rw [if_pos h2, if_pos h2, if_pos (by omega)]; rfl
      · rw [if_neg h2, if_neg h2]
        by_cases h3 : j - 1 < n.keys.length
        · rw [if_pos (by omega), if_pos h3, List.getD_eq_getElem?_getD]
        · rw [if_neg (by omega), if_neg h3]
  rw [hlow, hhigh]
  rcases Nat.lt_trichotomy j i with h1 | h1 | h1
  · rw [if_pos (show j < i + 1 by omega)] at hkj hp
    rw [List.getElem?_set_ne (by omega)] at hp
    rw [if_pos (show j ≤ i by omega), if_pos h1]
    exact h.2 j kj p (by omega) hkj hp
  · subst h1
    rw [if_pos (show j < j + 1 by omega)] at hkj hp
    rw [List.getElem?_set_self (by omega)] at hp
    rw [hk] at hkj; injection hkj with hkj; subst hkj
    injection hp with hp; subst hp
    rw [if_pos (Nat.le_refl _), if_neg (Nat.lt_irrefl _), if_pos rfl]
    exact ⟨ha, ha0⟩
  · rw [if_neg (show ¬ j ≤ i by omega), if_neg (show ¬ j < i by omega), if_neg (show ¬ j = i by omega)]
    by_cases h2 : j = i + 1
    · rw [if_neg (show ¬ j < i + 1 by omega), if_pos h2] at hkj hp
      injection hkj with hkj; subst hkj
      injection hp with hp; subst hp
      rw [if_pos h2, show j - 1 = i by omega]
      exact ⟨hb, hb0⟩
    · rw [if_neg (show ¬ j < i + 1 by omega), if_neg h2] at hkj hp
      rw [List.getElem?_set_ne (by omega)] at hp
      rw [if_neg h2]
      exact h.2 (j - 1) kj p (by omega) hkj hp
end Go.Pl
end

section
namespace Go.Pl
open Go Go.Sx
section
variable {α β : Type}
theorem flat_at {ps : List α} {f : α → List β} {i : Nat} {p : α} (hp : ps[i]? = some p) : ps.flatMap f = (ps.take i).flatMap f ++ (f p ++ (ps.drop (i + 1)).flatMap f) := by
  obtain ⟨hlt, rfl⟩ := List.getElem?_eq_some_iff.1 hp
  conv => lhs; rw [← List.take_append_drop i ps, List.drop_eq_getElem_cons hlt]
  rw [List.flatMap_append, List.flatMap_cons]
theorem flat_set {ps : List α} {f : α → List β} {i : Nat} {q : α} (hi : i < ps.length) : (ps.set i q).flatMap f = (ps.take i).flatMap f ++ (f q ++ (ps.drop (i + 1)).flatMap f) := by
  rw [List.set_eq_take_append_cons_drop, if_pos hi, List.flatMap_append, List.flatMap_cons]
theorem flat_two {ps : List α} {f : α → List β} {i : Nat} {a b : α} (hi : i < ps.length) : (insAt (ps.set i a) (i + 1) b).flatMap f = (ps.take i).flatMap f ++ ((f a ++ f b) ++ (ps.drop (i + 1)).flatMap f) := by
  have h1 : (ps.set i a).take (i + 1) = ps.take i ++ [a] := by
    rw [List.set_eq_take_append_cons_drop, if_pos hi, List.take_append, List.length_take, Nat.min_eq_left (by omega), List.take_of_length_le (by rw [List.length_take]; omega), show i + 1 - i = 1 by omega]; rfl
  have h2 : (ps.set i a).drop (i + 1) = ps.drop (i + 1) := by rw [List.drop_set_of_lt (by omega)]
  unfold insAt
  rw [h1, h2, List.flatMap_append, List.flatMap_append, List.flatMap_cons]
  simp
theorem nodup_mid {a p q b : List α} (h : (a ++ (p ++ b)).Nodup) (hq : q.Nodup) (hn : ∀ m ∈ q, m ∈ p ∨ m ∉ a ++ (p ++ b)) : (a ++ (q ++ b)).Nodup := by
  obtain ⟨h1, h2, h3⟩ := List.nodup_append.1 h
  obtain ⟨h4, h5, h6⟩ := List.nodup_append.1 h2
  refine List.nodup_append.2 ⟨h1, List.nodup_append.2 ⟨hq, h5, fun x hx y hy e => ?_⟩, fun x hx y hy e => ?_⟩
  · subst e
    rcases hn x hx with h | h
    · exact h6 x h x hy rfl
    · exact h (by simp [hy])
  · subst e
    rcases List.mem_append.1 hy with hy | hy
    · rcases hn x hy with h | h
      · exact h3 x hx x (by simp [h]) rfl
      · exact h (by simp [hx])
    · exact h3 x hx x (by simp [hy]) rfl
end
theorem PutIn.mid {x : Cell} {a p q b : List Cell} (h : PutIn x p q) (ha : ∀ c ∈ a, c.key ≠ x.key) (hb : ∀ c ∈ b, c.key ≠ x.key) : PutIn x (a ++ (p ++ b)) (a ++ (q ++ b)) := by
  intro c
  have := h c
  simp only [List.mem_append]
  constructor
  · rintro (h1 | h1 | h1)
    · exact .inr ⟨.inl h1, ha c h1⟩
    · rcases this.1 h1 with h2 | ⟨h2, h3⟩
      · exact .inl h2
      · exact .inr ⟨.inr (.inl h2), h3⟩
    · exact .inr ⟨.inr (.inr h1), hb c h1⟩
  · rintro (h1 | ⟨h1 | h1 | h1, h2⟩)
    · exact .inr (.inl (this.2 (.inl h1)))
    · exact .inl h1
    · exact .inr (.inl (this.2 (.inr ⟨h1, h2⟩)))
    · exact .inr (.inr h1)
theorem Same.mid {Q Q1 : Pages} {r : Int} {u : Int → Prop} {k : Nat} {p q a b : List Int} (h : Same Q Q1 r u k p q) (hu : ∀ m ∈ a ++ (p ++ b), u m) (hn : (a ++ (p ++ b)).Nodup) :
    Same Q Q1 r u k (a ++ (p ++ b)) (a ++ (q ++ b)) ∧ (∀ m, (m ∈ a ∨ m ∈ b) → mayUse m → Q1 m = Q m) := by
  have hnew : ∀ m ∈ q, m ∈ p ∨ m ∉ a ++ (p ++ b) := fun m hm => (h.new m hm).imp id fun h2 h3 => h2 (hu m h3)
  refine ⟨⟨h.fst.iff fun m => ?_, nodup_mid hn h.nodup hnew, fun m hm => ?_, fun m hm => ?_, ?_, fun m h1 h2 => h.rest m h1 fun h3 => h2 (by simp [h3])⟩, fun m hm hmu => ?_⟩
  · simp only [List.mem_append]
    constructor
    · rintro (h1 | h1)
      · exact .inl h1
      · exact .inr (.inr (.inl h1))
    · rintro (h1 | h1 | h1 | h1)
      · exact .inl h1
      · exact .inl (hu m (by simp [h1]))
      · exact .inr h1
      · exact .inl (hu m (by simp [h1]))
  · simp only [List.mem_append] at hm ⊢
    rcases hm with h1 | h1 | h1
    · exact .inl h1
    · exact .inr (.inl (h.old m h1))
    · exact .inr (.inr h1)
  · simp only [List.mem_append] at hm ⊢
    rcases hm with h1 | h1 | h1
    · exact .inl (.inl h1)
    · rcases h.new m h1 with h2 | h2
      · exact .inl (.inr (.inl h2))
      · exact .inr h2
    · exact .inl (.inr (.inr h1))
  · have := h.few; simp only [List.length_append]; omega
  · have h1 : m ≠ 1 := by unfold mayUse at hmu; omega
    refine h.rest m h1 fun h3 => ?_
    obtain ⟨n1, n2, n3⟩ := List.nodup_append.1 hn
    obtain ⟨n4, n5, n6⟩ := List.nodup_append.1 n2
    rcases hnew m h3 with h4 | h4
    · rcases hm with h5 | h5
      · exact n3 m h5 m (by simp [h4]) rfl
      · exact n6 m h4 m h5 rfl
    · exact h4 (by rcases hm with h5 | h5 <;> simp [h5])
end Go.Pl
end

section
namespace Go.Pl
open Go Go.Sx
/-- the other ways hold no such key -/
theorem Ways.other {Q : Pages} {d : Nat} {n : Nd} {lo hi : ByteArray} {ps : List Gone} (h : Ways Q d n lo hi ps) (hm : MayNd n) (hl : n.leaf = false) {k : ByteArray} (hk : keyIn k lo hi = true) {j : Nat} {q : Gone} (hj : j ≠ kidI n.keys k) (hq : ps[j]? = some q) : ∀ c ∈ q.2, c.key ≠ k := by
  obtain ⟨_, hmk, hrk, _, _, _, hkl⟩ := (may_ways hl).1 hm
  have hne : ∀ k ∈ n.keys, k ≠ ⟨#[]⟩ := fun k hk => (key_16 (hmk k hk)).2
  intro c hc e
  have hin := kid_in hrk hk
  have hil := kidI_le n.keys k
  have hjl := (List.getElem?_eq_some_iff.1 hq).1
  have hcin := (h.ordered hq).1.2 c hc
  rw [e] at hcin
  have hpl := h.1
  rcases Nat.lt_or_gt_of_ne hj with h | h
  · exact way_one hrk hne h (by omega) hcin hin
  · exact way_one hrk hne h (by omega) hin hcin
theorem mem_take_at {α : Type} {ps : List α} {i : Nat} {q : α} (h : q ∈ ps.take i) : ∃ j, j < i ∧ ps[j]? = some q := by
  obtain ⟨j, hj⟩ := List.getElem?_of_mem h
  have hji : j < i := by have := (List.getElem?_eq_some_iff.1 hj).1; rw [List.length_take] at this; omega
  exact ⟨j, hji, by rw [List.getElem?_take_of_lt hji] at hj; exact hj⟩
theorem mem_drop_at {α : Type} {ps : List α} {i : Nat} {q : α} (h : q ∈ ps.drop i) : ∃ j, i ≤ j ∧ ps[j]? = some q := by
  obtain ⟨j, hj⟩ := List.getElem?_of_mem h
  rw [List.getElem?_drop] at hj
  exact ⟨i + j, by omega, hj⟩
theorem sub_len {α : Type} [DecidableEq α] : ∀ {a b : List α}, a.Nodup → (∀ x ∈ a, x ∈ b) → a.length ≤ b.length := by
  intro a
  induction a with
  | nil => intro b _ _; simp
  | cons x a ih =>
    intro b hn hs
    obtain ⟨h1, h2⟩ := List.nodup_cons.1 hn
    have hx := hs x (by simp)
    have := ih (b := b.erase x) h2 fun y hy => by
      have hyx : y ≠ x := fun e => h1 (e ▸ hy)
      exact (List.mem_erase_of_ne hyx).2 (hs y (by simp [hy]))
    rw [List.length_erase_of_mem hx] at this
    have hpos : 0 < b.length := List.length_pos_of_mem hx
    simp only [List.length_cons]; omega
def uses : List Int := (List.range 30).map fun i => ((i + 2 : Nat) : Int)
theorem uses_len : uses.length = 30 := by unfold uses; simp
theorem mem_uses {m : Int} (h : mayUse m) : m ∈ uses := by
  obtain ⟨n, rfl, h1, h2⟩ := may_nat h
  exact List.mem_map.2 ⟨n - 2, List.mem_range.2 (by omega), by omega⟩
theorem count30 {l : List Int} (hn : l.Nodup) (h : ∀ m ∈ l, mayUse m) : l.length ≤ 30 := by
  have := sub_len hn fun m hm => mem_uses (h m hm)
  rw [uses_len] at this; exact this
theorem rising_ins {l : List ByteArray} (hr : rising l) {i : Nat} {k : ByteArray} (hi : i ≤ l.length) (h1 : ∀ a, 0 < i → l[i - 1]? = some a → kLt a k = true) (h2 : ∀ b, l[i]? = some b → kLt k b = true) : rising (insAt l i k) := by
  have hlo : ∀ a ∈ l.take i, kLt a k = true := fun a ha => by
    obtain ⟨j, hj, hja⟩ := mem_take_at ha
    obtain ⟨b, hb⟩ : ∃ b, l[i - 1]? = some b := ⟨_, List.getElem?_eq_getElem (by omega)⟩
    by_cases e : j = i - 1
    · subst e; exact h1 a (by omega) hja
    · exact kLt_trans (lt_at hr (by omega) hja hb) (h1 b (by omega) hb)
  have hhi : ∀ a ∈ l.drop i, kLt k a = true := fun a ha => by
    obtain ⟨j, hj, hja⟩ := mem_drop_at ha
    by_cases e : j = i
    · subst e; exact h2 a hja
    · obtain ⟨b, hb⟩ : ∃ b, l[i]? = some b := ⟨_, List.getElem?_eq_getElem (by have := (List.getElem?_eq_some_iff.1 hja).1; omega)⟩
      exact kLt_trans (h2 b hb) (lt_at hr (by omega) hb hja)
  unfold insAt
  refine List.pairwise_append.2 ⟨hr.sublist (List.take_sublist _ _), List.pairwise_cons.2 ⟨hhi, hr.sublist (List.drop_sublist _ _)⟩, fun a ha b hb => ?_⟩
  rcases List.mem_cons.1 hb with rfl | hb
  · exact hlo a ha
  · exact kLt_trans (hlo a ha) (hhi b hb)
theorem flat_heads {ps : List Gone} (h : ∀ p ∈ ps, p.1 ≠ []) : ps.length ≤ (ps.flatMap Prod.fst).length := by
  induction ps with
  | nil => simp
  | cons p ps ih =>
    have h1 := List.length_pos_iff.2 (h p (by simp))
    have h2 := ih fun q hq => h q (by simp [hq])
    simp only [List.flatMap_cons, List.length_append, List.length_cons]; omega
theorem Ways.heads {Q : Pages} {d : Nat} {n : Nd} {lo hi : ByteArray} {ps : List Gone} (h : Ways Q d n lo hi ps) : n.kids.length ≤ (ps.flatMap Prod.fst).length := by
  rw [← h.1]
  refine flat_heads fun p hp => ?_
  obtain ⟨i, hi⟩ := List.getElem?_of_mem hp
  obtain ⟨kid, hk⟩ : ∃ kid, n.kids[i]? = some kid := ⟨_, List.getElem?_eq_getElem (by have := (List.getElem?_eq_some_iff.1 hi).1; have := h.1; omega)⟩
  obtain ⟨l, hl⟩ := (h.2 i kid p hk hi).1.head
  rw [hl]; simp
theorem flat_many {b : Nat} : ∀ {ps : List Gone}, (∀ p ∈ ps, b ≤ p.1.length) → b * ps.length ≤ (ps.flatMap Prod.fst).length := by
  intro ps
  induction ps with
  | nil => intro _; simp
  | cons p ps ih =>
    intro h
    have h1 := h p (by simp)
    have h2 := ih fun q hq => h q (by simp [hq])
    simp only [List.flatMap_cons, List.length_append, List.length_cons, Nat.mul_succ]; omega
theorem TreeAt.pages {Q : Pages} : ∀ {d : Nat} {no : Int} {lo hi : ByteArray} {g : Gone}, TreeAt Q d no lo hi g → d + 1 ≤ g.1.length := by
  intro d
  induction d with
  | zero => rintro no lo hi g ⟨n, _, _, _, rfl, _⟩; exact Nat.le_refl _
  | succ d ih =>
    rintro no lo hi g ⟨n, ps, h1, h2, h3, h4, h5, rfl⟩
    obtain ⟨_, _, _, _, hk1, _, _⟩ := (may_ways h3).1 h1.1.nd.may
    obtain ⟨kid, hk⟩ : ∃ kid, n.kids[0]? = some kid := ⟨_, List.getElem?_eq_getElem (by omega)⟩
    obtain ⟨p, hp⟩ : ∃ p, ps[0]? = some p := ⟨_, List.getElem?_eq_getElem (by omega)⟩
    have := ih (h5 0 kid p hk hp).1
    have e := flat_at (f := Prod.fst) hp
    have := congrArg List.length e
    simp only [List.length_append, List.length_cons] at this ⊢
    omega
theorem Ways.pages {Q : Pages} {d : Nat} {n : Nd} {lo hi : ByteArray} {ps : List Gone} (h : Ways Q d n lo hi ps) : (d + 1) * n.kids.length ≤ (ps.flatMap Prod.fst).length := by
  rw [← h.1]
  refine flat_many fun p hp => ?_
  obtain ⟨i, hi⟩ := List.getElem?_of_mem hp
  obtain ⟨kid, hk⟩ : ∃ kid, n.kids[i]? = some kid := ⟨_, List.getElem?_eq_getElem (by have := (List.getElem?_eq_some_iff.1 hi).1; have := h.1; omega)⟩
  exact (h.2 i kid p hk hi).1.pages
theorem Ways.full {Q : Pages} {d : Nat} {n : Nd} {lo hi : ByteArray} {ps : List Gone} (h : Ways Q d n lo hi ps) (h0 : 0 < n.kids.length) : ps.flatMap Prod.snd ≠ [] := by
  obtain ⟨p, hp⟩ : ∃ p, ps[0]? = some p := ⟨_, List.getElem?_eq_getElem (by have := h.1; omega)⟩
  obtain ⟨c, hc⟩ := List.exists_mem_of_ne_nil _ (h.ordered hp).2
  exact List.ne_nil_of_mem (List.mem_flatMap.2 ⟨p, List.mem_of_getElem? hp, hc⟩)
theorem ways_up {Q : Pages} {r : Int} {u : Int → Prop} {d f : Nat} {no : Int} {lo hi : ByteArray} {n : Nd} {ps : List Gone} {x : Cell} {i : Nat} {kid : Int} {p : Gone} (hF : Fst Q r u) (hu : ∀ m ∈ (wg no ps).1, u m) (hn : (wg no ps).1.Nodup)
    (hp : IsPage (Q no) n) (hl : n.leaf = false) (hw : Ways Q d n lo hi ps) (hxi : keyIn x.key lo hi = true) (hie : i = kidI n.keys x.key) (hk : n.kids[i]? = some kid) (hpi : ps[i]? = some p)
    (hg : Grown Q r u d kid (lowOf n.keys lo i) (highOf n.keys hi i) p x (insertT x f Q kid)) : Grown Q r u (d + 1) no lo hi (wg no ps) x (insertT x (f + 1) Q no) := by
  have hno := hF.may (hu no (by simp [wg]))
  have hno1 : no ≠ 1 := by unfold mayUse at hno; omega
  have hrd := read_is hno hp
  have hmn := hp.1.nd.may
  obtain ⟨hc0, hmk, hrk, hkids, hk1, hk32, hkl⟩ := (may_ways hl).1 hmn
  have hgd : n.kids.getD (kidI n.keys x.key) 0 = kid := by rw [← hie, List.getD_eq_getElem?_getD, hk]; rfl
  have hil : i < ps.length := (List.getElem?_eq_some_iff.1 hpi).1
  have e1 : (wg no ps).1 = (no :: (ps.take i).flatMap Prod.fst) ++ (p.1 ++ (ps.drop (i + 1)).flatMap Prod.fst) := by show no :: ps.flatMap Prod.fst = _; rw [flat_at hpi]; rfl
  have e2 : (wg no ps).2 = (ps.take i).flatMap Prod.snd ++ (p.2 ++ (ps.drop (i + 1)).flatMap Prod.snd) := flat_at hpi
  have hua : ∀ m ∈ (no :: (ps.take i).flatMap Prod.fst) ++ (p.1 ++ (ps.drop (i + 1)).flatMap Prod.fst), u m := by rw [← e1]; exact hu
  have hna : ((no :: (ps.take i).flatMap Prod.fst) ++ (p.1 ++ (ps.drop (i + 1)).flatMap Prod.fst)).Nodup := by rw [← e1]; exact hn
  have hka : ∀ c ∈ (ps.take i).flatMap Prod.snd, c.key ≠ x.key := fun c hc => by
    obtain ⟨q, hq, hcq⟩ := List.mem_flatMap.1 hc
    obtain ⟨j, hj, hjq⟩ := mem_take_at hq
    exact hw.other hmn hl hxi (by omega) hjq c hcq
  have hkb : ∀ c ∈ (ps.drop (i + 1)).flatMap Prod.snd, c.key ≠ x.key := fun c hc => by
    obtain ⟨q, hq, hcq⟩ := List.mem_flatMap.1 hc
    obtain ⟨j, hj, hjq⟩ := mem_drop_at hq
    exact hw.other hmn hl hxi (by omega) hjq c hcq
  have hside : ∀ (j : Nat) (q : Gone), j ≠ i → ps[j]? = some q → ∀ m ∈ q.1, (m ∈ no :: (ps.take i).flatMap Prod.fst ∨ m ∈ (ps.drop (i + 1)).flatMap Prod.fst) ∧ mayUse m := fun j q hj hq m hm => by
    refine ⟨?_, hF.may (hu m (List.mem_cons_of_mem _ (List.mem_flatMap.2 ⟨q, List.mem_of_getElem? hq, hm⟩)))⟩
    rcases Nat.lt_or_gt_of_ne hj with h | h
    · exact .inl (List.mem_cons_of_mem _ (List.mem_flatMap.2 ⟨q, List.mem_of_getElem? (i := j) (by rw [List.getElem?_take_of_lt h]; exact hq), hm⟩))
    · exact .inr (List.mem_flatMap.2 ⟨q, List.mem_of_getElem? (i := j - (i + 1)) (by rw [List.getElem?_drop, show i + 1 + (j - (i + 1)) = j by omega]; exact hq), hm⟩)
  rcases hg with ⟨Q1, q, hres, hT, hP, hS, _⟩ | ⟨Q1, k, to, ga, gb, hres, hto, hTa, hTb, hmk2, ha0, hb0, hP, hS, hbig⟩ | ⟨hres, l, hll, hfull, _⟩
  · -- in place
    rw [insertT_kid_zero hrd hl (by rw [hgd]; exact hres) rfl]
    obtain ⟨hS2, hfr⟩ := hS.mid hua hna
    have hQno : Q1 no = Q no := hfr no (.inl (by simp)) hno
    have hq0 : q.2 ≠ [] := by
      intro e
      have := (hP x).2 (.inl rfl); rw [e] at this; cases this
    have hW := WaysBut.set (hw.but fun j q hj hq m hm => hfr m (hside j q hj hq m hm).1 (hside j q hj hq m hm).2) hk hT hq0
    refine .inl ⟨Q1, wg no (ps.set i q), rfl, TreeAt.ways (by rw [hQno]; exact hp) hno hl hW, ?_, ?_⟩
    · rw [e2]; show PutIn x _ ((ps.set i q).flatMap Prod.snd); rw [flat_set hil]; exact hP.mid hka hkb
    · refine ⟨?_, fun _ n1 n2 h1 h2 => .inl (by rw [hQno] at h2; rw [page_inj h1 h2]; exact Nat.le_refl _)⟩
      rw [e1]; show Same Q Q1 r u (d + 1) _ (no :: (ps.set i q).flatMap Prod.fst); rw [flat_set hil]
      exact ⟨hS2.fst, hS2.nodup, hS2.old, hS2.new, by have := hS2.few; simp only [List.cons_append] at this ⊢; omega, hS2.rest⟩
  · -- two
    have hto0 : to ≠ 0 := by unfold mayUse at hto; omega
    rw [insertT_kid hrd hl (by rw [hgd]; exact hres) hto0]
    obtain ⟨hS2, hfr⟩ := hS.mid hua hna
    rw [← hie]
    have hW := WaysBut.two (hw.but fun j q hj hq m hm => hfr m (hside j q hj hq m hm).1 (hside j q hj hq m hm).2) hkl hk hTa hTb ha0 hb0
    have f1 : (insAt (ps.set i ga) (i + 1) gb).flatMap Prod.fst = (ps.take i).flatMap Prod.fst ++ ((ga.1 ++ gb.1) ++ (ps.drop (i + 1)).flatMap Prod.fst) := flat_two hil
    have f2 : (insAt (ps.set i ga) (i + 1) gb).flatMap Prod.snd = (ps.take i).flatMap Prod.snd ++ ((ga.2 ++ gb.2) ++ (ps.drop (i + 1)).flatMap Prod.snd) := flat_two hil
    have hP2 := hP.mid hka hkb
    rw [← f2] at hP2
    rw [← e2] at hP2
    have f3 : (no :: (ps.take i).flatMap Prod.fst) ++ ((ga.1 ++ gb.1) ++ (ps.drop (i + 1)).flatMap Prod.fst) = no :: (insAt (ps.set i ga) (i + 1) gb).flatMap Prod.fst := by rw [f1]; rfl
    rw [f3, ← e1] at hS2
    generalize insAt (ps.set i ga) (i + 1) gb = ps2 at *
    have hmayb : ∀ m ∈ no :: ps2.flatMap Prod.fst, mayUse m := fun m hm => hS2.fst.may (.inr hm)
    have h30 := count30 hS2.nodup hmayb
    have hhd := hW.heads
    have hk29 : (insAt n.kids (i + 1) to).length ≤ 29 := by
      have : (insAt n.kids (i + 1) to).length ≤ (ps2.flatMap Prod.fst).length := hhd
      simp only [List.length_cons] at h30; omega
    have hkll := (List.getElem?_eq_some_iff.1 hk).1
    have hmn2 : MayNd { n with keys := insAt n.keys i k, kids := insAt n.kids (i + 1) to } := by
      refine (may_ways (n := { n with keys := insAt n.keys i k, kids := insAt n.kids (i + 1) to }) hl).2 ⟨hc0, fun y hy => ?_, ?_, fun y hy => ?_, ?_, (show (insAt n.kids (i + 1) to).length ≤ 32 by omega), ?_⟩
      · rcases mem_insAt hy with rfl | hy
        · exact hmk2
        · exact hmk y hy
      · refine rising_ins hrk (by omega) (fun a h0 ha => ?_) fun b hb => ?_
        · obtain ⟨c, hc⟩ := List.exists_mem_of_ne_nil _ ha0
          obtain ⟨h1, h2⟩ := in_spec.1 (hTa.ordered.2 c hc)
          rw [low_pos h0 ha] at h1
          exact kLe_lt h1 (h2.resolve_left (key_16 hmk2).2)
        · obtain ⟨c, hc⟩ := List.exists_mem_of_ne_nil _ hb0
          obtain ⟨h1, h2⟩ := in_spec.1 (hTb.ordered.2 c hc)
          rw [high_pos (List.getElem?_eq_some_iff.1 hb).1 hb] at h2
          exact kLe_lt h1 (h2.resolve_left (key_16 (hmk b (List.mem_of_getElem? hb))).2)
      · rcases mem_insAt hy with rfl | hy
        · exact hto
        · exact hkids y hy
      · show 1 ≤ (insAt n.kids (i + 1) to).length; rw [insAt_len]; omega
      · show (insAt n.keys i k).length + 1 = (insAt n.kids (i + 1) to).length; rw [insAt_len, insAt_len]; omega
    have hnotno : ∀ p ∈ ps2, ∀ m ∈ p.1, m ≠ no := fun p hp m hm e => (List.nodup_cons.1 hS2.nodup).1 (by rw [← e]; exact List.mem_flatMap.2 ⟨p, hp, hm⟩)
    by_cases hf : Fits { n with keys := insAt n.keys i k, kids := insAt n.kids (i + 1) to }
    · rw [putT_one hf]
      refine .inl ⟨_, wg no ps2, rfl, TreeAt.ways (page_put (n := { n with keys := insAt n.keys i k, kids := insAt n.kids (i + 1) to }) ⟨hf, fun c hc => by rw [show ({ n with keys := insAt n.keys i k, kids := insAt n.kids (i + 1) to } : Nd).cells = [] from hc0] at hc; cases hc⟩) hno hl (hW.frame fun p hp m hm => upd_ne (hnotno p hp m hm)), hP2, ?_⟩
      refine ⟨⟨hS2.fst.other (upd_ne (Ne.symm hno1)), hS2.nodup, hS2.old, hS2.new, hS2.few, fun m h1 h2 => by rw [upd_ne fun e => h2 (by rw [e]; simp [wg])]; exact hS2.rest m h1 h2⟩, fun hd n1 n2 h1 h2 => .inr ?_⟩
      rw [upd_same] at h2
      have en2 := page_inj h2 (n := n2) (m := { n with keys := insAt n.keys i k, kids := insAt n.kids (i + 1) to }) ⟨⟨hf, fun c hc => by rw [show ({ n with keys := insAt n.keys i k, kids := insAt n.kids (i + 1) to } : Nd).cells = [] from hc0] at hc; cases hc⟩, rfl⟩
      have en1 := page_inj h1 hp
      subst en1
      refine ⟨by rw [en2]; show (insAt n1.kids (i + 1) to).length = _; rw [insAt_len], ?_⟩
      have h16 := (hbig (by omega)).1
      have hta := flat_many (b := 2) (ps := ps.take i) fun q hq => by
        obtain ⟨j, hj, hjq⟩ := mem_take_at hq
        obtain ⟨kj, hkj⟩ : ∃ kj, n1.kids[j]? = some kj := ⟨_, List.getElem?_eq_getElem (by have := hw.1; omega)⟩
        have := (hw.2 j kj q hkj hjq).1.pages; omega
      have htb := flat_many (b := 2) (ps := ps.drop (i + 1)) fun q hq => by
        obtain ⟨j, hj, hjq⟩ := mem_drop_at hq
        obtain ⟨kj, hkj⟩ : ∃ kj, n1.kids[j]? = some kj := ⟨_, List.getElem?_eq_getElem (by have := hw.1; have := (List.getElem?_eq_some_iff.1 hjq).1; omega)⟩
        have := (hw.2 j kj q hkj hjq).1.pages; omega
      rw [List.length_take] at hta
      rw [List.length_drop] at htb
      have hpl := hw.1
      rw [e1]
      simp only [List.length_append, List.length_cons]
      omega
    · obtain ⟨hb, hk16⟩ := cut_ways (n := { n with keys := insAt n.keys i k, kids := insAt n.kids (i + 1) to }) hmn2 hl (show (insAt n.kids (i + 1) to).length ≤ 30 by omega) hf
      have hk16 : 16 ≤ (insAt n.kids (i + 1) to).length := hk16
      obtain ⟨hb1, hb2, hb3, hb4⟩ := best_is hb
      rcases hS2.fst.take with ⟨t2, Q2, ht, ht2, hnu, hF2, hQ2⟩ | ⟨ht, hfull⟩
      · rw [putT_two hf hb ht]
        have hcn : countN { n with keys := insAt n.keys i k, kids := insAt n.kids (i + 1) to } = (insAt n.kids (i + 1) to).length := by unfold countN; rw [if_neg (by show ¬ n.leaf = true; rw [hl]; simp)]
        rw [hcn] at hb2
        generalize bestN { n with keys := insAt n.keys i k, kids := insAt n.kids (i + 1) to } = b at *
        rw [halves_ways (n := { n with keys := insAt n.keys i k, kids := insAt n.kids (i + 1) to }) hl] at hb3 hb4 ⊢
        dsimp only at hb3 hb4 ⊢
        have hkl2 : (insAt n.keys i k).length + 1 = (insAt n.kids (i + 1) to).length := by rw [insAt_len, insAt_len]; omega
        obtain ⟨K, hK⟩ : ∃ K, (insAt n.keys i k)[b - 1]? = some K := ⟨_, List.getElem?_eq_getElem (by omega)⟩
        have hKd : (insAt n.keys i k).getD (b - 1) ⟨#[]⟩ = K := by rw [List.getD_eq_getElem?_getD, hK]; rfl
        rw [hKd]
        obtain ⟨hWa, hWb⟩ := Ways.halves hW hkl2 hb1 hb2 hK
        have ht21 : t2 ≠ 1 := by unfold mayUse at ht2; omega
        have ht2n : t2 ≠ no := fun e => hnu (.inr (by rw [e]; simp))
        have hfr2 : ∀ p ∈ ps2, ∀ m ∈ p.1, upd (upd Q2 no (encNd ⟨false, [], (insAt n.keys i k).take (b - 1), (insAt n.kids (i + 1) to).take b⟩).1) t2 (encNd ⟨false, [], (insAt n.keys i k).drop b, (insAt n.kids (i + 1) to).drop b⟩).1 m = Q1 m := fun p hp m hm => by
          have hin : m ∈ no :: ps2.flatMap Prod.fst := List.mem_cons_of_mem _ (List.mem_flatMap.2 ⟨p, hp, hm⟩)
          have h1 : m ≠ t2 := fun e => hnu (.inr (e ▸ hin))
          have h2 := hmayb m hin
          rw [upd_ne h1, upd_ne (hnotno p hp m hm), hQ2 m (by unfold mayUse at h2; omega) h1]
        have hmem : ∀ m, m ∈ (no :: (ps2.take b).flatMap Prod.fst) ++ (t2 :: (ps2.drop b).flatMap Prod.fst) ↔ m = t2 ∨ m ∈ no :: ps2.flatMap Prod.fst := fun m => by
          have : ps2.flatMap Prod.fst = (ps2.take b).flatMap Prod.fst ++ (ps2.drop b).flatMap Prod.fst := by rw [← List.flatMap_append, List.take_append_drop]
          rw [this]; simp only [List.mem_append, List.mem_cons]
          constructor
          · rintro ((h | h) | h | h)
            · exact .inr (.inl h)
            · exact .inr (.inr (.inl h))
            · exact .inl h
            · exact .inr (.inr (.inr h))
          · rintro (h | h | h | h)
            · exact .inr (.inl h)
            · exact .inl (.inl h)
            · exact .inl (.inr h)
            · exact .inr (.inr h)
        have hperm : ((no :: (ps2.take b).flatMap Prod.fst) ++ (t2 :: (ps2.drop b).flatMap Prod.fst)).Perm (t2 :: (no :: ps2.flatMap Prod.fst)) := by
          refine List.perm_middle.trans (List.Perm.cons _ (List.Perm.of_eq ?_))
          rw [List.cons_append, ← List.flatMap_append, List.take_append_drop]
        refine .inr (.inl ⟨_, K, t2, wg no (ps2.take b), wg t2 (ps2.drop b), rfl, ht2, TreeAt.ways ?_ hno rfl (hWa.frame fun p hp => hfr2 p (List.mem_of_mem_take hp)), TreeAt.ways (page_put ⟨hb4, fun c hc => by cases hc⟩) ht2 rfl (hWb.frame fun p hp => hfr2 p (List.mem_of_mem_drop hp)), ?_, ?_, ?_, ?_, ⟨?_, ?_, ?_, ?_, ?_, ?_⟩, fun _ => ?_⟩)
        · rw [upd_ne (Ne.symm ht2n)]; exact page_put ⟨hb3, fun c hc => by cases hc⟩
        · rcases mem_insAt (List.mem_of_getElem? hK) with rfl | h
          · exact hmk2
          · exact hmk K h
        · exact hWa.full (by dsimp only; rw [List.length_take]; omega)
        · exact hWb.full (by dsimp only; rw [List.length_drop]; omega)
        · show PutIn x _ ((ps2.take b).flatMap Prod.snd ++ (ps2.drop b).flatMap Prod.snd)
          rw [← List.flatMap_append, List.take_append_drop]; exact hP2
        · refine (hF2.other (by rw [upd_ne (Ne.symm ht21), upd_ne (Ne.symm hno1)])).iff fun m => ?_
          show _ ↔ u m ∨ m ∈ (no :: (ps2.take b).flatMap Prod.fst) ++ (t2 :: (ps2.drop b).flatMap Prod.fst)
          rw [hmem]
          constructor
          · rintro (h | h | h)
            · exact .inr (.inl h)
            · exact .inl h
            · exact .inr (.inr h)
          · rintro (h | h | h)
            · exact .inr (.inl h)
            · exact .inl h
            · exact .inr (.inr h)
        · exact hperm.nodup_iff.2 (List.nodup_cons.2 ⟨fun h => hnu (.inr h), hS2.nodup⟩)
        · intro m hm; exact (hmem m).2 (.inr (hS2.old m hm))
        · intro m hm
          rcases (hmem m).1 hm with h | h
          · subst h; exact .inr fun h => hnu (.inl h)
          · exact hS2.new m h
        · have h1 := hperm.length_eq
          have h2 := hS2.few
          have h1 : ((wg no (ps2.take b)).1 ++ (wg t2 (ps2.drop b)).1).length = (t2 :: (no :: ps2.flatMap Prod.fst)).length := h1
          rw [h1]; simp only [List.length_cons] at h2 ⊢; omega
        · intro m h1 h2
          have h3 := fun h => h2 ((hmem m).2 h)
          rw [upd_ne fun e => h3 (.inl e), upd_ne fun e => h3 (.inr (by rw [e]; simp)), hQ2 m h1 fun e => h3 (.inl e)]
          exact hS2.rest m h1 fun h => h3 (.inr h)
        · have h1 := hw.heads
          rw [insAt_len] at hk16
          refine ⟨?_, fun n1 h2 => by rw [page_inj h2 hp]; omega⟩
          show 16 ≤ (no :: ps.flatMap Prod.fst).length
          simp only [List.length_cons]; omega
      · rw [putT_full hf hb ht]
        refine .inr (.inr ⟨rfl, (no :: ps2.flatMap Prod.fst).filter (fun m => decide (m ∉ (wg no ps).1)), ?_, fun m hm => ?_, fun _ _ n1 h2 => by rw [page_inj h2 hp]; rw [insAt_len] at hk16; omega⟩)
        · have h1 := sub_len (a := (wg no ps).1 ++ (no :: ps2.flatMap Prod.fst).filter (fun m => decide (m ∉ (wg no ps).1))) (b := no :: ps2.flatMap Prod.fst) ?_ ?_
          · have h2 := hS2.few
            rw [List.length_append] at h1; omega
          · refine List.nodup_append.2 ⟨hn, hS2.nodup.sublist List.filter_sublist, fun a ha b hb e => ?_⟩
            subst e
            exact (of_decide_eq_true (List.mem_filter.1 hb).2) ha
          · intro m hm
            rcases List.mem_append.1 hm with h | h
            · exact hS2.old m h
            · exact (List.mem_filter.1 h).1
        · rcases hfull m hm with h | h
          · exact .inl h
          · by_cases h2 : m ∈ (wg no ps).1
            · exact .inl (hu m h2)
            · exact .inr (List.mem_filter.2 ⟨h, decide_eq_true h2⟩)
  · -- full
    rw [insertT_kid_err hrd hl (by rw [hgd]; exact hres)]
    exact .inr (.inr ⟨rfl, l, by omega, hfull, fun _ h => absurd h (by omega)⟩)
/-- a cell put into a tree -/
theorem TreeAt.insert {x : Cell} (hx : mayCell x = true) (hxf : x.val.f < 2 ^ 64 ∧ x.new.f < 2 ^ 64) : ∀ {d : Nat} {no : Int} {lo hi : ByteArray} {g : Gone} {Q : Pages} {r : Int} {u : Int → Prop}, TreeAt Q d no lo hi g → Fst Q r u → (∀ m ∈ g.1, u m) → g.1.Nodup → keyIn x.key lo hi = true →
    ∀ {f : Nat}, d < f → Grown Q r u d no lo hi g x (insertT x f Q no) := by
  intro d
  induction d with
  | zero =>
    rintro no lo hi g Q r u ⟨n, h1, h2, h3, rfl, h5⟩ hF hu hn hxi f hf
    obtain ⟨f, rfl⟩ : ∃ f', f = f' + 1 := ⟨f - 1, by omega⟩
    rw [insertT_leaf (read_is h2 h1) h3]
    exact leaf_grown hF (hu no (by simp)) h1 h3 h5 hx hxf hxi
  | succ d ih =>
    rintro no lo hi g Q r u ⟨n, ps, h1, h2, h3, h4, h5, rfl⟩ hF hu hn hxi f hf
    obtain ⟨f, rfl⟩ : ∃ f', f = f' + 1 := ⟨f - 1, by omega⟩
    obtain ⟨_, _, hrk, _, _, _, hkl⟩ := (may_ways h3).1 h1.1.nd.may
    have hil := kidI_le n.keys x.key
    obtain ⟨kid, hk⟩ : ∃ kid, n.kids[kidI n.keys x.key]? = some kid := ⟨_, List.getElem?_eq_getElem (by omega)⟩
    obtain ⟨p, hp⟩ : ∃ p, ps[kidI n.keys x.key]? = some p := ⟨_, List.getElem?_eq_getElem (by omega)⟩
    have hsub : p.1.Sublist (ps.flatMap Prod.fst) := by
      rw [flat_at hp]
      exact (List.sublist_append_left _ _).trans (List.sublist_append_right _ _)
    refine ways_up hF hu hn h1 h3 ⟨h4, h5⟩ hxi rfl hk hp (ih (h5 _ kid p hk hp).1 hF (fun m hm => hu m (List.mem_cons_of_mem _ (hsub.subset hm))) ((List.nodup_cons.1 hn).2.sublist hsub) (kid_in hrk hxi) (by omega))
end Go.Pl
end

section
namespace Go.Pl
open Go Go.Sx
abbrev noKey : ByteArray := ⟨#[]⟩
/-- how many ways go from the root -/
def RootFew (Q : Pages) (d : Nat) (no : Int) : Prop := d ≤ 2 ∧ (d = 2 → ∀ n, IsPage (Q no) n → n.kids.length ≤ 8)
/-- a right book -/
def RightT (Q : Pages) (g : Gone) : Prop :=
  (Fst Q 0 (fun _ => False) ∧ g = ([], [])) ∨ ∃ d no, TreeAt Q d no noKey noKey g ∧ g.1.Nodup ∧ Fst Q no (fun m => m ∈ g.1) ∧ g.2 ≠ [] ∧ RootFew Q d no
theorem in_all {k : ByteArray} : keyIn k noKey noKey = true := in_spec.2 ⟨kLt_nil k, .inl rfl⟩
theorem RightT.rising {Q : Pages} {g : Gone} (h : RightT Q g) : rising (keysOf g.2) := by
  rcases h with ⟨_, rfl⟩ | ⟨d, no, h, _⟩
  · exact List.Pairwise.nil
  · exact h.ordered.1
theorem RightT.fst {Q : Pages} {g : Gone} (h : RightT Q g) : ∃ r, Fst Q r (fun m => m ∈ g.1) ∧ (r = 0 ∨ mayUse r) := by
  rcases h with ⟨h, rfl⟩ | ⟨d, no, h, _, hF, _⟩
  · exact ⟨0, h.iff fun m => by simp, .inl rfl⟩
  · exact ⟨no, hF, .inr h.may⟩
theorem RightT.all {Q : Pages} {g : Gone} (h : RightT Q g) : allT (pgOf Q) = .ok g := by
  rcases h with ⟨h, rfl⟩ | ⟨d, no, h, hn, hF, _, hfew⟩
  · exact allT_none (h.rootT (.inl rfl)) rfl
  · have hm := h.may
    rw [allT_in (hF.rootT (.inr hm)) (by unfold mayUse at hm; omega)]
    have := h.through (f := 32) (st := ([], [])) (by have := hfew.1; omega) (by simpa using hn) (by
      have := count30 hn fun m hm => hF.may hm
      simp only [List.nil_append]; omega)
    simpa using this
theorem RightT.check {Q : Pages} {g : Gone} (h : RightT Q g) : checkTop (pgOf Q) = .ok () := by
  obtain ⟨r, hF, _⟩ := h.fst
  have h1 : pgOf Q 1 = (0, Q 1) := by unfold pgOf; rw [if_pos (by decide)]
  have hw : whole256 (pgOf Q 1) = (0, Q 1) := by rw [h1]; unfold whole256; rw [if_neg (by simp), if_neg (by dsimp only; rw [hF.len]; simp)]
  have hmark : marksN (whole256 (pgOf Q 1)).2 g 32 := fun no _ => by
    rw [hw]
    have := hF.bit (no : Nat)
    cases hb : hasB (Q 1) (no : Nat) with
    | true => exact (decide_eq_true (this.1 hb)).symm
    | false => exact (decide_eq_false fun e => by rw [this.2 e] at hb; cases hb).symm
  have ho : ∃ d, orderT (pgOf Q) g = .ok d := by
    rcases h with ⟨_, rfl⟩ | ⟨d, no, h, hn, hF, hne, hfew⟩
    · exact ⟨0, orderT_nil rfl⟩
    · obtain ⟨l, hl⟩ := h.head
      refine ⟨d, ?_⟩
      rw [orderT_cons (by rw [hl]; simp), show g.1.getD 0 0 = no by rw [hl]; rfl]
      exact h.check (by have := hfew.1; omega) (.inl rfl)
  obtain ⟨d, ho⟩ := ho
  exact checkTop_ok h.all ho (by rw [hw]) hmark
theorem RightT.get {Q : Pages} {g : Gone} (h : RightT Q g) (k : ByteArray) : ∃ o, getTop (pgOf Q) k = .ok o ∧ Found g.2 k o := by
  rcases h with ⟨h, rfl⟩ | ⟨d, no, h, hn, hF, _, hfew⟩
  · exact ⟨none, by rw [getTop_ok (h.rootT (.inl rfl))]; exact getT_zero rfl, fun c hc => by cases hc⟩
  · rw [getTop_ok (hF.rootT (.inr h.may))]
    exact h.get (by have := hfew.1; omega) in_all
/-! ### how many pages -/
/-- the first cell -/
theorem put_first {Q : Pages} (h : Fst Q 0 (fun _ => False)) {x : Cell} (hx : mayCell x = true) (hxf : x.val.f < 2 ^ 64 ∧ x.new.f < 2 ^ 64) : ∃ Q' n, putTop Q x = .ok Q' ∧ RightT Q' ([n], [x]) ∧ (∀ m, m ≠ 1 → m ≠ n → Q' m = Q m) := by
  rw [putTop_new (h.rootT (.inl rfl)) rfl]
  rcases h.take with ⟨n, Q1, ht, hn, _, hF, hQ⟩ | ⟨_, hf⟩
  · have hn1 : n ≠ 1 := by unfold mayUse at hn; omega
    have hfit : Fits ⟨true, [x], [], []⟩ := by
      refine ⟨(may_leaf rfl).2 ⟨rfl, rfl, fun c hc => by rw [List.mem_singleton] at hc; subst hc; exact hx, List.pairwise_singleton _ _⟩, ?_⟩
      have := cellBytes_len hx
      rw [leaf_len rfl]; dsimp only
      rw [put_len1 (by simp) (by simp)]; simp only [List.flatMap_cons, List.flatMap_nil, List.append_nil]; omega
    obtain ⟨hF2, hQ2⟩ := hF.set (no := n) (by unfold mayUse at hn; omega) (by unfold mayUse at hn; omega)
    refine ⟨upd (rootSet Q1 n) n (encNd ⟨true, [x], [], []⟩).1, n, ?_, .inr ⟨0, n, ⟨⟨true, [x], [], []⟩, page_put ⟨hfit, fun c hc => by rw [List.mem_singleton] at hc; subst hc; exact hxf⟩, hn, rfl, rfl, fun c _ => in_all⟩, by simp, ?_, by simp, by omega, fun e => by omega⟩, fun m h1 h2 => by rw [upd_ne h2, hQ2 m h1, hQ m h1 h2]⟩
    · refine (bind_ok ht).trans ?_
      unfold setT; rw [if_pos (enc_fits.2 hfit)]
    · exact (hF2.other (upd_ne (Ne.symm hn1))).iff fun m => by simp
  · exact (hf 2 (by decide)).elim
end Go.Pl
end

section
namespace Go.Pl
open Go Go.Sx
theorem cover30 {l : List Int} (h : ∀ m, mayUse m → m ∈ l) : 30 ≤ l.length := by
  have hn : uses.Nodup := by unfold uses; decide
  have := sub_len hn fun m hm => h m (by
    obtain ⟨i, hi, rfl⟩ := List.mem_map.1 hm
    have := List.mem_range.1 hi
    unfold mayUse; omega)
  rw [uses_len] at this; exact this
theorem one_cells {Q : Pages} {no : Int} {lo hi : ByteArray} {g : Gone} (h : TreeAt Q 0 no lo hi g) (h0 : g.2 ≠ []) : g.1.length = 1 ∧ g.1.length ≤ g.2.length := by
  obtain ⟨n, _, _, _, rfl, _⟩ := h
  have := List.length_pos_iff.2 h0
  exact ⟨rfl, this⟩
theorem flat_cells {b : Nat} : ∀ {ps : List Gone}, (∀ p ∈ ps, p.1.length ≤ p.2.length + b) → (ps.flatMap Prod.fst).length ≤ (ps.flatMap Prod.snd).length + b * ps.length
  | [], _ => Nat.le_refl _
  | p :: ps, h => by
    have h1 := h p (by simp)
    have h2 := flat_cells (ps := ps) fun q hq => h q (by simp [hq])
    rw [List.flatMap_cons, List.flatMap_cons, List.length_append, List.length_append, List.length_cons, Nat.mul_add]; omega
theorem two_cells {Q : Pages} {no : Int} {lo hi : ByteArray} {g : Gone} (h : TreeAt Q 1 no lo hi g) : g.1.length ≤ g.2.length + 1 := by
  obtain ⟨n, ps, _, _, _, h4, h5, rfl⟩ := h
  have := flat_cells (b := 0) (ps := ps) fun p hp => by
    obtain ⟨i, hi⟩ := List.getElem?_of_mem hp
    obtain ⟨kid, hk⟩ : ∃ kid, n.kids[i]? = some kid := ⟨_, List.getElem?_eq_getElem (by have := (List.getElem?_eq_some_iff.1 hi).1; omega)⟩
    obtain ⟨h6, h7⟩ := h5 i kid p hk hi
    exact (one_cells h6 h7).2
  simp only [List.length_cons]; omega
/-- how many cells there are, by the pages -/
theorem TreeAt.cells {Q : Pages} {d : Nat} {no : Int} {lo hi : ByteArray} {g : Gone} (h : TreeAt Q d no lo hi g) (h0 : g.2 ≠ []) :
    (d = 0 → g.1.length = 1) ∧ (d = 1 → g.1.length ≤ g.2.length + 1) ∧ (d = 2 → ∀ n, IsPage (Q no) n → g.1.length ≤ g.2.length + n.kids.length + 1) := by
  refine ⟨fun e => ?_, fun e => ?_, fun e n hn => ?_⟩
  · subst e; exact (one_cells h h0).1
  · subst e; exact two_cells h
  · subst e
    obtain ⟨n', ps, h1, _, _, h4, h5, rfl⟩ := h
    rw [page_inj hn h1]
    have := flat_cells (b := 1) (ps := ps) fun p hp => by
      obtain ⟨i, hi⟩ := List.getElem?_of_mem hp
      obtain ⟨kid, hk⟩ : ∃ kid, n'.kids[i]? = some kid := ⟨_, List.getElem?_eq_getElem (by have := (List.getElem?_eq_some_iff.1 hi).1; omega)⟩
      exact two_cells (h5 i kid p hk hi).1
    simp only [List.length_cons]; omega
theorem RightT.put {Q : Pages} {g : Gone} (h : RightT Q g) {x : Cell} (hx : mayCell x = true) (hxf : x.val.f < 2 ^ 64 ∧ x.new.f < 2 ^ 64) :
    (∃ Q' g', putTop Q x = .ok Q' ∧ RightT Q' g' ∧ PutIn x g.2 g'.2) ∨ (putTop Q x = .error 4 ∧ 28 ≤ g.1.length ∧ 20 ≤ g.2.length) := by
  rcases h with ⟨hF, rfl⟩ | ⟨d, no, hT, hn, hF, hne, hfew⟩
  · obtain ⟨Q', n, h1, h2, _⟩ := put_first hF hx hxf
    exact .inl ⟨Q', _, h1, h2, fun c => by simp⟩
  · have hno := hT.may
    have h0 : no ≠ 0 := by unfold mayUse at hno; omega
    have hrt := hF.rootT (.inr hno)
    have h30 := count30 hn fun m hm => hF.may hm
    have hd := hfew.1
    rcases hT.insert hx hxf hF (fun m hm => hm) hn in_all (f := 32) (by omega) with ⟨Q', g', hres, hT', hP, hS, hk⟩ | ⟨Q1, k, to, ga, gb, hres, hto, hTa, hTb, hmk, ha0, hb0, hP, hS, hbig⟩ | ⟨hres, l, hll, hfull, hl15⟩
    · refine .inl ⟨Q', g', putTop_one hrt h0 hres rfl, .inr ⟨d, no, hT', hS.nodup, hS.fst.iff fun m => ⟨fun h => h.elim (hS.old m) id, .inr⟩, ?_, hd, fun e n' hn' => ?_⟩, hP⟩
      · intro e; have := (hP x).2 (.inl rfl); rw [e] at this; cases this
      · subst e
        obtain ⟨n, ps, hp, _⟩ := hT
        have h8 := hfew.2 rfl n hp
        rcases hk (by omega) n n' hp hn' with h | ⟨h1, h2⟩ <;> omega
    · have hd1 : d ≤ 1 := by
        refine Nat.le_of_not_lt fun h2 => ?_
        obtain rfl : d = 2 := by omega
        obtain ⟨n, ps, hp, _⟩ := hT
        have h8 := hfew.2 rfl n hp
        have := (hbig (by omega)).2 n hp
        omega
      have hto0 : to ≠ 0 := by unfold mayUse at hto; omega
      rw [putTop_two hrt h0 hres hto0]
      rcases hS.fst.take with ⟨t, Q2, ht, htm, hnu, hF2, hQ2⟩ | ⟨ht, hfull⟩
      · have ht1 : t ≠ 1 := by unfold mayUse at htm; omega
        have hfit : Fits ⟨false, [], [k], [no, to]⟩ := ways_fit ((may_ways rfl).2 ⟨rfl, fun y hy => by rw [List.mem_singleton] at hy; subst hy; exact hmk, List.pairwise_singleton _ _, fun y hy => by
          rcases List.mem_cons.1 hy with rfl | hy
          · exact hno
          · rw [List.mem_singleton] at hy; subst hy; exact hto, by simp, by simp, by simp⟩) rfl (by simp)
        obtain ⟨hF3, hQ3⟩ := (hF2.other (Q' := upd Q2 t (encNd ⟨false, [], [k], [no, to]⟩).1) (upd_ne (Ne.symm ht1))).set (no := t) (by unfold mayUse at htm; omega) (by unfold mayUse at htm; omega)
        have hfr : ∀ m ∈ ga.1 ++ gb.1, rootSet (upd Q2 t (encNd ⟨false, [], [k], [no, to]⟩).1) t m = Q1 m := fun m hm => by
          have hmt : m ≠ t := fun e => hnu (.inr (e ▸ hm))
          have hm1 : m ≠ 1 := by have := hS.fst.may (.inr hm); unfold mayUse at this; omega
          rw [hQ3 m hm1, upd_ne hmt, hQ2 m hm1 hmt]
        have hW : Ways (rootSet (upd Q2 t (encNd ⟨false, [], [k], [no, to]⟩).1) t) d ⟨false, [], [k], [no, to]⟩ noKey noKey [ga, gb] := by
          refine ⟨rfl, fun i kid p hk hp => ?_⟩
          match i, hk, hp with
          | 0, hk, hp => injection hk with hk; injection hp with hp; subst hk hp; exact ⟨hTa.frame fun m hm => hfr m (List.mem_append_left _ hm), ha0⟩
          | 1, hk, hp => injection hk with hk; injection hp with hp; subst hk hp; exact ⟨hTb.frame fun m hm => hfr m (List.mem_append_right _ hm), hb0⟩
          | i + 2, hk, hp => cases hk
        have hpg : IsPage (rootSet (upd Q2 t (encNd ⟨false, [], [k], [no, to]⟩).1) t t) ⟨false, [], [k], [no, to]⟩ := by rw [hQ3 t ht1]; exact page_put ⟨hfit, fun c hc => by cases hc⟩
        have e1 : (wg t [ga, gb]).1 = t :: (ga.1 ++ gb.1) := by simp [wg]
        have e2 : (wg t [ga, gb]).2 = ga.2 ++ gb.2 := by simp [wg]
        refine .inl ⟨_, wg t [ga, gb], (bind_ok ht).trans ((bind_ok (by unfold setT; rw [if_pos (enc_fits.2 hfit)])).trans rfl), .inr ⟨d + 1, t, TreeAt.ways hpg htm rfl hW, ?_, ?_, ?_, by omega, fun e n' hn' => ?_⟩, by rw [e2]; exact hP⟩
        · rw [e1]; exact List.nodup_cons.2 ⟨fun h => hnu (.inr h), hS.nodup⟩
        · rw [e1]
          refine hF3.iff fun m => ?_
          rw [List.mem_cons]
          constructor
          · rintro (h | h | h)
            · exact .inl h
            · exact .inr (hS.old m h)
            · exact .inr h
          · rintro (h | h)
            · exact .inl h
            · exact .inr (.inr h)
        · rw [e2]; simp [ha0]
        · rw [page_inj hn' hpg]; show [no, to].length ≤ 8; simp
      · refine .inr ⟨(bind_err ht), ?_⟩
        have h1 := cover30 (l := ga.1 ++ gb.1) fun m hm => (hfull m hm).elim (hS.old m) id
        have h2 := hS.few
        have h3 := hT.cells hne
        rcases Nat.lt_or_ge 0 d with h4 | h4
        · obtain rfl : d = 1 := by omega
          have h5 := h3.2.1 rfl
          exact ⟨by omega, by omega⟩
        · obtain rfl : d = 0 := by omega
          have h5 := h3.1 rfl
          exact ⟨by omega, by omega⟩
    · refine .inr ⟨by rw [putTop_in hrt h0]; exact bind_err hres, ?_⟩
      have h1 := cover30 (l := g.1 ++ l) fun m hm => List.mem_append.2 (hfull m hm)
      rw [List.length_append] at h1
      have h3 := hT.cells hne
      rcases Nat.lt_trichotomy d 1 with h4 | h4 | h4
      · obtain rfl : d = 0 := by omega
        have h5 := h3.1 rfl
        exact ⟨by omega, by omega⟩
      · subst h4
        have h5 := h3.2.1 rfl
        exact ⟨by omega, by omega⟩
      · obtain rfl : d = 2 := by omega
        obtain ⟨n, ps, hp, _⟩ := hT
        have h8 := hfew.2 rfl n hp
        have h5 := h3.2.2 rfl n hp
        have h6 : l.length ≤ 1 := by
          refine Nat.le_of_not_lt fun h7 => ?_
          have := hl15 (by omega) (by omega) n hp
          omega
        exact ⟨by omega, by omega⟩
end Go.Pl
end

section
namespace Go.Pl
open Go Go.Sx
theorem delAt_cut {cells : List Cell} (hr : rising (keysOf cells)) {k : ByteArray} (he : (keysOf cells)[findI (keysOf cells) k]? = some k) : rising (keysOf (delAt cells (findI (keysOf cells) k))) ∧ CutOut k cells (delAt cells (findI (keysOf cells) k)) ∧ (delAt cells (findI (keysOf cells) k)).length + 1 = cells.length := by
  obtain ⟨z, hz1, hz2⟩ := key_cell he
  have hlt := (List.getElem?_eq_some_iff.1 hz1).1
  have hsub : (delAt cells (findI (keysOf cells) k)).Sublist cells := by
    unfold delAt
    conv => rhs; rw [← List.take_append_drop (findI (keysOf cells) k) cells]
    exact List.Sublist.append (List.Sublist.refl _) (by rw [show findI (keysOf cells) k + 1 = findI (keysOf cells) k + 1 from rfl, ← List.drop_drop]; exact (List.drop_sublist _ _))
  refine ⟨?_, fun c => ⟨fun hc => ⟨hsub.subset hc, fun e => ?_⟩, fun ⟨hc, hk⟩ => ?_⟩, ?_⟩
  · unfold keysOf; exact hr.sublist (hsub.map _)
  · have hcz := key_inj hr (hsub.subset hc) (List.mem_of_getElem? hz1) (e.trans hz2.symm)
    subst hcz
    unfold delAt at hc
    rcases List.mem_append.1 hc with hc | hc
    · obtain ⟨j, hj, hjc⟩ := mem_take_at hc
      have := lt_at hr hj (keys_at hjc) (keys_at hz1); rw [kLt_irrefl] at this; cases this
    · obtain ⟨j, hj, hjc⟩ := mem_drop_at hc
      have := lt_at hr (show findI (keysOf cells) k < j by omega) (keys_at hz1) (keys_at hjc); rw [kLt_irrefl] at this; cases this
  · obtain ⟨j, hj⟩ := List.getElem?_of_mem hc
    unfold delAt
    rcases Nat.lt_trichotomy j (findI (keysOf cells) k) with h | h | h
    · exact List.mem_append_left _ (List.mem_of_getElem? (i := j) (by rw [List.getElem?_take_of_lt h]; exact hj))
    · subst h; rw [hz1] at hj; injection hj with hj; subst hj; exact absurd hz2 hk
    · exact List.mem_append_right _ (List.mem_of_getElem? (i := j - (findI (keysOf cells) k + 1)) (by rw [List.getElem?_drop, show findI (keysOf cells) k + 1 + (j - (findI (keysOf cells) k + 1)) = j by omega]; exact hj))
  · unfold delAt; rw [List.length_append, List.length_take, List.length_drop]; omega
theorem flat_sub {α : Type} {f : α → List UInt8} {a b : List α} (h : a.Sublist b) : (a.flatMap f).length ≤ (b.flatMap f).length := by
  induction h with
  | slnil => exact Nat.le_refl _
  | cons x _ ih => rw [List.flatMap_cons, List.length_append]; omega
  | cons_cons x _ ih => rw [List.flatMap_cons, List.flatMap_cons, List.length_append, List.length_append]; omega
/-- a part of a leaf fits -/
theorem leaf_less {n : Nd} (hf : FitsF n) (hl : n.leaf = true) {cells : List Cell} (hs : cells.Sublist n.cells) : FitsF { n with cells := cells } := by
  obtain ⟨h1, h2, h3, h4⟩ := (may_leaf hl).1 hf.nd.may
  have hlen := leaf_len hl
  have hb := hf.fits.2
  have hg := flat_ge (f := cellBytes) (b := 4) (l := cells) fun c hc => cell_ge (h3 c (hs.subset hc))
  have hfl : (cells.flatMap cellBytes).length ≤ (n.cells.flatMap cellBytes).length := flat_sub hs
  have hp := put_length (n.cells.length : Int)
  refine ⟨⟨(may_leaf (n := { n with cells := cells }) hl).2 ⟨h1, h2, fun c hc => h3 c (hs.subset hc), h4.sublist (hs.map _)⟩, ?_⟩, fun c hc => hf.fl c (hs.subset hc)⟩
  rw [leaf_len (n := { n with cells := cells }) hl]
  show 1 + (put (cells.length : Int)).length + (cells.flatMap cellBytes).length ≤ 256
  rw [put_len1 (by omega) (by omega)]; omega
end Go.Pl
end

section
namespace Go.Pl
open Go Go.Sx
/-- from these pages to those: of a's pages those of b are left, nothing else is touched -/
structure Less (Q Q' : Pages) (r : Int) (u : Int → Prop) (a b : List Int) : Prop where
  fst : Fst Q' r (fun m => u m ∧ (m ∈ a → m ∈ b))
  nodup : b.Nodup
  old : ∀ m ∈ b, m ∈ a
  rest : ∀ m, m ≠ 1 → m ∉ a → Q' m = Q m
/-- what taking k out of a tree comes to: not there; a tree still; nothing is left -/
def Shrunk (Q : Pages) (r : Int) (u : Int → Prop) (d : Nat) (no : Int) (lo hi : ByteArray) (g : Gone) (k : ByteArray) (res : TE ((Bool × Bool) × Pages)) : Prop :=
  (res = .ok ((false, false), Q) ∧ ∀ c ∈ g.2, c.key ≠ k) ∨
  (∃ Q' g', res = .ok ((true, false), Q') ∧ (∃ c ∈ g.2, c.key = k) ∧ TreeAt Q' d no lo hi g' ∧ g'.2 ≠ [] ∧ CutOut k g.2 g'.2 ∧ Less Q Q' r u g.1 g'.1 ∧ ∀ n n', IsPage (Q no) n → IsPage (Q' no) n' → n'.kids.length ≤ n.kids.length) ∨
  (∃ Q', res = .ok ((true, true), Q') ∧ (∃ c ∈ g.2, c.key = k) ∧ CutOut k g.2 [] ∧ Less Q Q' r u g.1 [])
theorem leaf_shrunk {Q : Pages} {r : Int} {u : Int → Prop} {no : Int} {lo hi : ByteArray} {n : Nd} {k : ByteArray} {f : Nat} (hF : Fst Q r u) (hu : u no) (hp : IsPage (Q no) n) (hl : n.leaf = true) (hin : ∀ c ∈ n.cells, keyIn c.key lo hi = true) : Shrunk Q r u 0 no lo hi ([no], n.cells) k (removeT k (f + 1) Q no) := by
  have hno := hF.may hu
  have hno1 : no ≠ 1 := by unfold mayUse at hno; omega
  have hrd := read_is hno hp
  have hr := hp.1.nd.rise
  have e : removeT k (f + 1) Q no = (readT (pgOf Q) no).bind fun n =>
    if n.leaf = true then
      if (keysOf n.cells)[findI (keysOf n.cells) k]? = some k then
        (restT Q no { n with cells := delAt n.cells (findI (keysOf n.cells) k) } (n.cells.length - 1)).bind fun x => .ok ((true, x.1), x.2)
      else .ok ((false, false), Q)
    else (removeT k f Q (n.kids.getD (kidI n.keys k) 0)).bind fun x =>
      if x.1.2 = false then .ok ((x.1.1, false), x.2)
      else (restT x.2 no { n with keys := if 0 < n.keys.length then delAt n.keys (kidI n.keys k - 1) else n.keys, kids := delAt n.kids (kidI n.keys k) } (n.kids.length - 1)).bind fun y => .ok ((x.1.1, y.1), y.2) := rfl
  rw [e, show (readT (pgOf Q) no).bind _ = _ from bind_ok hrd, if_pos hl]
  by_cases he : (keysOf n.cells)[findI (keysOf n.cells) k]? = some k
  · rw [if_pos he]
    obtain ⟨h1, h2, h3⟩ := delAt_cut hr he
    obtain ⟨z, hz1, hz2⟩ := key_cell he
    have hex : ∃ c ∈ n.cells, c.key = k := ⟨z, List.mem_of_getElem? hz1, hz2⟩
    by_cases hlast : n.cells.length - 1 = 0
    · obtain ⟨Q', hfr, hF', hQ'⟩ := hF.free hu
      have hnil : delAt n.cells (findI (keysOf n.cells) k) = [] := List.length_eq_zero_iff.1 (by omega)
      rw [hnil] at h2
      refine .inr (.inr ⟨Q', ?_, hex, h2, ⟨hF'.iff fun m => ⟨fun h => ⟨h.1, fun h4 => absurd (List.mem_singleton.1 h4) h.2⟩, fun h => ⟨h.1, fun h4 => by have := h.2 (by rw [h4]; simp); cases this⟩⟩, by simp, fun m hm => (by cases hm), fun m h4 _ => hQ' m h4⟩⟩)
      rw [restT_gone hlast, hfr]; rfl
    · have hsub : (delAt n.cells (findI (keysOf n.cells) k)).Sublist n.cells := by
        unfold delAt
        conv => rhs; rw [← List.take_append_drop (findI (keysOf n.cells) k) n.cells]
        exact List.Sublist.append (List.Sublist.refl _) (by rw [← List.drop_drop]; exact (List.drop_sublist _ _))
      have hfit := leaf_less hp.1 hl hsub
      refine .inr (.inl ⟨upd Q no (encNd { n with cells := delAt n.cells (findI (keysOf n.cells) k) }).1, ([no], delAt n.cells (findI (keysOf n.cells) k)), ?_, hex, ⟨{ n with cells := delAt n.cells (findI (keysOf n.cells) k) }, page_put hfit, hno, hl, rfl, fun c hc => hin c (hsub.subset hc)⟩, ?_, h2, ⟨(hF.other (upd_ne (Ne.symm hno1))).iff fun m => ⟨fun h => ⟨h, id⟩, fun h => h.1⟩, by simp, fun m hm => hm, fun m h4 h5 => upd_ne fun e => h5 (by rw [e]; simp)⟩, fun n1 n2 g1 g2 => ?_⟩)
      · rw [restT_left hlast, show setT Q no { n with cells := delAt n.cells (findI (keysOf n.cells) k) } = .ok (upd Q no (encNd { n with cells := delAt n.cells (findI (keysOf n.cells) k) }).1) by unfold setT; rw [if_pos (enc_fits.2 hfit.fits)]]; rfl
      · intro e; have := congrArg List.length e; simp only [List.length_nil] at this; omega
      · rw [upd_same] at g2
        rw [page_inj g1 hp, page_inj (m := { n with cells := delAt n.cells (findI (keysOf n.cells) k) }) g2 ⟨hfit, rfl⟩]; exact Nat.le_refl _
  · rw [if_neg he]
    refine .inl ⟨rfl, fun c hc e => ?_⟩
    have := found_leaf hr k
    rw [cellOf_none he] at this
    exact this c hc e
end Go.Pl
end

section
namespace Go.Pl
open Go Go.Sx
theorem delAt_get {α : Type} {l : List α} {i : Nat} (hi : i < l.length) (j : Nat) : (delAt l i)[j]? = if j < i then l[j]? else l[j + 1]? := by
  unfold delAt
  by_cases h : j < i
  · rw [if_pos h, List.getElem?_append_left (by rw [List.length_take]; omega), List.getElem?_take_of_lt h]
  · rw [if_neg h, List.getElem?_append_right (by rw [List.length_take]; omega), List.length_take, Nat.min_eq_left (by omega), List.getElem?_drop, show i + 1 + (j - i) = j + 1 by omega]
theorem delAt_sub {α : Type} (l : List α) (i : Nat) : (delAt l i).Sublist l := by
  unfold delAt
  conv => rhs; rw [← List.take_append_drop i l]
  exact List.Sublist.append (List.Sublist.refl _) (by rw [← List.drop_drop]; exact (List.drop_sublist _ _))
theorem flat_del {α β : Type} {ps : List α} {f : α → List β} {i : Nat} : (delAt ps i).flatMap f = (ps.take i).flatMap f ++ (ps.drop (i + 1)).flatMap f := by
  unfold delAt; rw [List.flatMap_append]
theorem getD_ne {l : List ByteArray} (h : ∀ k ∈ l, k ≠ ⟨#[]⟩) {i : Nat} (hi : i < l.length) : l.getD i ⟨#[]⟩ ≠ ⟨#[]⟩ := by
  rw [List.getD_eq_getElem?_getD, List.getElem?_eq_getElem hi]; exact h _ (List.getElem_mem hi)
/-- wider bounds -/
theorem TreeAt.widen {Q : Pages} : ∀ {d : Nat} {no : Int} {lo hi lo' hi' : ByteArray} {g : Gone}, TreeAt Q d no lo hi g → (∀ k, kLt k lo = false → kLt k lo' = false) → (∀ k, (hi = ⟨#[]⟩ ∨ kLt k hi = true) → hi' = ⟨#[]⟩ ∨ kLt k hi' = true) → TreeAt Q d no lo' hi' g := by
  intro d
  induction d with
  | zero =>
    rintro no lo hi lo' hi' g ⟨n, h1, h2, h3, h4, h5⟩ hL hH
    refine ⟨n, h1, h2, h3, h4, fun c hc => ?_⟩
    obtain ⟨h6, h7⟩ := in_spec.1 (h5 c hc)
    exact in_spec.2 ⟨hL _ h6, hH _ h7⟩
  | succ d ih =>
    rintro no lo hi lo' hi' g ⟨n, ps, h1, h2, h3, h4, h5, h6⟩ hL hH
    refine ⟨n, ps, h1, h2, h3, h4, fun i kid p hk hp => ?_, h6⟩
    obtain ⟨h7, h8⟩ := h5 i kid p hk hp
    refine ⟨ih h7 (fun k hk => ?_) (fun k hk => ?_), h8⟩
    · unfold lowOf at hk ⊢
      by_cases h0 : 0 < i
      · rw [if_pos h0] at hk ⊢; exact hk
      · rw [if_neg h0] at hk ⊢; exact hL k hk
    · unfold highOf at hk ⊢
      by_cases h0 : i < n.keys.length
      · rw [if_pos h0] at hk ⊢; exact hk
      · rw [if_neg h0] at hk ⊢; exact hH k hk
/-- one way is gone -/
theorem WaysBut.cut {Q Q0 : Pages} {d : Nat} {n : Nd} {lo hi : ByteArray} {ps : List Gone} {i : Nat} (h : WaysBut Q d n lo hi ps i) (hkl : n.keys.length + 1 = n.kids.length) (h2 : 2 ≤ n.kids.length) (hi0 : i < n.kids.length) (hne : ∀ k ∈ n.keys, k ≠ ⟨#[]⟩)
    (hw : Ways Q0 d n lo hi ps) : Ways Q d (cutKid n i) lo hi (delAt ps i) := by
  have hps := h.1
  obtain ⟨kid0, hk0⟩ : ∃ kid, n.kids[i]? = some kid := ⟨_, List.getElem?_eq_getElem hi0⟩
  obtain ⟨p0, hp0⟩ : ∃ p, ps[i]? = some p := ⟨_, List.getElem?_eq_getElem (by omega)⟩
  obtain ⟨hT0, hne0⟩ := hw.2 i kid0 p0 hk0 hp0
  obtain ⟨c, hc⟩ := List.exists_mem_of_ne_nil _ hne0
  obtain ⟨hcl, hch⟩ := in_spec.1 (hT0.ordered.2 c hc)
  have hkeys : (cutKid n i).keys = delAt n.keys (i - 1) := by unfold cutKid; dsimp only; rw [if_pos (by omega)]
  have hkids : (cutKid n i).kids = delAt n.kids i := rfl
  refine ⟨by rw [hkids, delAt_len hi0, delAt_len (by omega), hps], fun j kj p hkj hp => ?_⟩
  rw [hkids, delAt_get hi0] at hkj
  rw [delAt_get (by omega)] at hp
  rw [hkeys]
  have hklen : (delAt n.keys (i - 1)).length = n.keys.length - 1 := delAt_len (by omega)
  by_cases hj : j < i
  · rw [if_pos hj] at hkj hp
    obtain ⟨h3, h4⟩ := h.2 j kj p (by omega) hkj hp
    have e1 : lowOf (delAt n.keys (i - 1)) lo j = lowOf n.keys lo j := by
      unfold lowOf
      by_cases h0 : 0 < j
      · rw [if_pos h0, if_pos h0, List.getD_eq_getElem?_getD, delAt_get (by omega), if_pos (by omega), List.getD_eq_getElem?_getD]
      · rw [if_neg h0, if_neg h0]
    refine ⟨h3.widen (fun k hk => by rw [e1]; exact hk) (fun k hk => ?_), h4⟩
    unfold highOf
    rw [hklen, List.getD_eq_getElem?_getD, delAt_get (by omega)]
    by_cases h5 : j < i - 1
    · rw [if_pos (by omega), if_pos h5]
      unfold highOf at hk
      rw [if_pos (by omega), List.getD_eq_getElem?_getD] at hk; exact hk
    · obtain rfl : j = i - 1 := by omega
      rw [if_neg (Nat.lt_irrefl _), show i - 1 + 1 = i by omega]
      unfold highOf at hk hch
      rw [if_pos (by omega)] at hk
      unfold lowOf at hcl
      rw [if_pos (by omega)] at hcl
      have hlast : ∀ z, (z = (⟨#[]⟩ : ByteArray) ∨ kLt c.key z = true) → z = ⟨#[]⟩ ∨ kLt k z = true := fun z hz => by
        rcases hz with hz | hz
        · exact .inl hz
        · rcases hk with hk | hk
          · exact absurd hk (getD_ne hne (by omega))
          · exact .inr (kLt_trans hk (kLe_lt hcl hz))
      by_cases h6 : i < n.keys.length
      · rw [if_pos h6] at hch
        rw [if_pos (by omega), ← List.getD_eq_getElem?_getD]; exact hlast _ hch
      · rw [if_neg h6] at hch
        rw [if_neg (by omega)]; exact hlast _ hch
  · rw [if_neg hj] at hkj hp
    obtain ⟨h3, h4⟩ := h.2 (j + 1) kj p (by omega) hkj hp
    refine ⟨h3.widen (fun k hk => ?_) (fun k hk => ?_), h4⟩
    · unfold lowOf at hk ⊢
      rw [if_pos (by omega), show j + 1 - 1 = j by omega] at hk
      by_cases h0 : 0 < j
      · rw [if_pos h0, List.getD_eq_getElem?_getD, delAt_get (by omega), if_neg (by omega), show j - 1 + 1 = j by omega, ← List.getD_eq_getElem?_getD]; exact hk
      · obtain rfl : j = 0 := by omega
        obtain rfl : i = 0 := by omega
        rw [if_neg (Nat.lt_irrefl _)]
        unfold lowOf at hcl
        rw [if_neg (Nat.lt_irrefl _)] at hcl
        unfold highOf at hch
        rw [if_pos (by omega)] at hch
        rcases hch with hch | hch
        · exact absurd hch (getD_ne hne (by omega))
        · refine Bool.eq_false_iff.2 fun h7 => ?_
          have := kLt_trans (kLt_le h7 hcl) hch
          rw [hk] at this; cases this
    · unfold highOf at hk ⊢
      rw [hklen]
      by_cases h6 : j + 1 < n.keys.length
      · rw [if_pos (by omega), List.getD_eq_getElem?_getD, delAt_get (by omega), if_neg (by omega), ← List.getD_eq_getElem?_getD]; rw [if_pos h6] at hk; exact hk
      · rw [if_neg (by omega)]; rw [if_neg h6] at hk; exact hk
/-! ### fewer pages -/
theorem CutOut.mid {k : ByteArray} {a p q b : List Cell} (h : CutOut k p q) (ha : ∀ c ∈ a, c.key ≠ k) (hb : ∀ c ∈ b, c.key ≠ k) : CutOut k (a ++ (p ++ b)) (a ++ (q ++ b)) := by
  intro c
  have := h c
  simp only [List.mem_append]
  constructor
  · rintro (h1 | h1 | h1)
    · exact ⟨.inl h1, ha c h1⟩
    · obtain ⟨h2, h3⟩ := this.1 h1; exact ⟨.inr (.inl h2), h3⟩
    · exact ⟨.inr (.inr h1), hb c h1⟩
  · rintro ⟨h1 | h1 | h1, h2⟩
    · exact .inl h1
    · exact .inr (.inl (this.2 ⟨h1, h2⟩))
    · exact .inr (.inr h1)
theorem Less.mid {Q Q1 : Pages} {r : Int} {u : Int → Prop} {p q a b : List Int} (h : Less Q Q1 r u p q) (hn : (a ++ (p ++ b)).Nodup) :
    Less Q Q1 r u (a ++ (p ++ b)) (a ++ (q ++ b)) ∧ (∀ m, (m ∈ a ∨ m ∈ b) → m ≠ 1 → Q1 m = Q m) := by
  obtain ⟨n1, n2, n3⟩ := List.nodup_append.1 hn
  obtain ⟨n4, n5, n6⟩ := List.nodup_append.1 n2
  have hside : ∀ m, (m ∈ a ∨ m ∈ b) → m ∉ p := fun m hm hp => by
    rcases hm with h5 | h5
    · exact n3 m h5 m (by simp [hp]) rfl
    · exact n6 m hp m h5 rfl
  refine ⟨⟨h.fst.iff fun m => ?_, nodup_mid hn h.nodup fun m hm => .inl (h.old m hm), fun m hm => ?_, fun m h1 h2 => h.rest m h1 fun h3 => h2 (by simp [h3])⟩, fun m hm h1 => h.rest m h1 (hside m hm)⟩
  · simp only [List.mem_append]
    constructor
    · rintro ⟨h1, h2⟩
      refine ⟨h1, fun h3 => ?_⟩
      rcases h3 with h3 | h3 | h3
      · exact .inl h3
      · exact .inr (.inl (h2 h3))
      · exact .inr (.inr h3)
    · rintro ⟨h1, h2⟩
      refine ⟨h1, fun h3 => ?_⟩
      rcases h2 (.inr (.inl h3)) with h4 | h4 | h4
      · exact absurd h3 (hside m (.inl h4))
      · exact h4
      · exact absurd h3 (hside m (.inr h4))
  · simp only [List.mem_append] at hm ⊢
    rcases hm with h1 | h1 | h1
    · exact .inl h1
    · exact .inr (.inl (h.old m h1))
    · exact .inr (.inr h1)
/-- a part of the ways fits -/
theorem ways_less {n : Nd} (hf : FitsF n) (hl : n.leaf = false) {keys : List ByteArray} {kids : List Int} (hs : keys.Sublist n.keys) (ht : kids.Sublist n.kids) (h1 : 1 ≤ kids.length) (h2 : keys.length + 1 = kids.length) : FitsF { n with keys := keys, kids := kids } := by
  obtain ⟨g1, g2, g3, g4, g5, g6, g7⟩ := (may_ways hl).1 hf.nd.may
  have hlen := ways_len hl
  have hb := hf.fits.2
  have hfl : (kids.flatMap put).length ≤ (n.kids.flatMap put).length := flat_sub (f := fun x : Int => put x) ht
  have hfk : (keys.flatMap putText).length ≤ (n.keys.flatMap putText).length := flat_sub hs
  have hp := put_length (n.kids.length : Int)
  have hle := ht.length_le
  refine ⟨⟨(may_ways (n := { n with keys := keys, kids := kids }) hl).2 ⟨g1, fun c hc => g2 c (hs.subset hc), g3.sublist hs, fun x hx => g4 x (ht.subset hx), h1, (by show kids.length ≤ 32; omega), h2⟩, ?_⟩, fun c hc => hf.fl c hc⟩
  rw [ways_len (n := { n with keys := keys, kids := kids }) hl]
  show 1 + (put (kids.length : Int)).length + (kids.flatMap put).length + (keys.flatMap putText).length ≤ 256
  rw [put_len1 (by omega) (by omega)]; omega
end Go.Pl
end

section
namespace Go.Pl
open Go Go.Sx
theorem ways_cutout {Q : Pages} {r : Int} {u : Int → Prop} {d f : Nat} {no : Int} {lo hi : ByteArray} {n : Nd} {ps : List Gone} {k : ByteArray} {i : Nat} {kid : Int} {p : Gone} (hF : Fst Q r u) (hu : ∀ m ∈ (wg no ps).1, u m) (hn : (wg no ps).1.Nodup)
    (hp : IsPage (Q no) n) (hl : n.leaf = false) (hw : Ways Q d n lo hi ps) (hki : keyIn k lo hi = true) (hie : i = kidI n.keys k) (hk : n.kids[i]? = some kid) (hpi : ps[i]? = some p)
    (hg : Shrunk Q r u d kid (lowOf n.keys lo i) (highOf n.keys hi i) p k (removeT k f Q kid)) : Shrunk Q r u (d + 1) no lo hi (wg no ps) k (removeT k (f + 1) Q no) := by
  have hno := hF.may (hu no (by simp [wg]))
  have hno1 : no ≠ 1 := by unfold mayUse at hno; omega
  have hrd := read_is hno hp
  have hmn := hp.1.nd.may
  obtain ⟨hc0, hmk, hrk, hkids, hk1, hk32, hkl⟩ := (may_ways hl).1 hmn
  have hgd : n.kids.getD (kidI n.keys k) 0 = kid := by rw [← hie, List.getD_eq_getElem?_getD, hk]; rfl
  have hil : i < ps.length := (List.getElem?_eq_some_iff.1 hpi).1
  have hik : i < n.kids.length := (List.getElem?_eq_some_iff.1 hk).1
  have e1 : (wg no ps).1 = (no :: (ps.take i).flatMap Prod.fst) ++ (p.1 ++ (ps.drop (i + 1)).flatMap Prod.fst) := by show no :: ps.flatMap Prod.fst = _; rw [flat_at hpi]; rfl
  have e2 : (wg no ps).2 = (ps.take i).flatMap Prod.snd ++ (p.2 ++ (ps.drop (i + 1)).flatMap Prod.snd) := flat_at hpi
  have hna : ((no :: (ps.take i).flatMap Prod.fst) ++ (p.1 ++ (ps.drop (i + 1)).flatMap Prod.fst)).Nodup := by rw [← e1]; exact hn
  have hka : ∀ c ∈ (ps.take i).flatMap Prod.snd, c.key ≠ k := fun c hc => by
    obtain ⟨q, hq, hcq⟩ := List.mem_flatMap.1 hc
    obtain ⟨j, hj, hjq⟩ := mem_take_at hq
    exact hw.other hmn hl hki (by omega) hjq c hcq
  have hkb : ∀ c ∈ (ps.drop (i + 1)).flatMap Prod.snd, c.key ≠ k := fun c hc => by
    obtain ⟨q, hq, hcq⟩ := List.mem_flatMap.1 hc
    obtain ⟨j, hj, hjq⟩ := mem_drop_at hq
    exact hw.other hmn hl hki (by omega) hjq c hcq
  have hside : ∀ (j : Nat) (q : Gone), j ≠ i → ps[j]? = some q → ∀ m ∈ q.1, (m ∈ no :: (ps.take i).flatMap Prod.fst ∨ m ∈ (ps.drop (i + 1)).flatMap Prod.fst) ∧ m ≠ 1 := fun j q hj hq m hm => by
    refine ⟨?_, by have := hF.may (hu m (List.mem_cons_of_mem _ (List.mem_flatMap.2 ⟨q, List.mem_of_getElem? hq, hm⟩))); unfold mayUse at this; omega⟩
    rcases Nat.lt_or_gt_of_ne hj with h | h
    · exact .inl (List.mem_cons_of_mem _ (List.mem_flatMap.2 ⟨q, List.mem_of_getElem? (i := j) (by rw [List.getElem?_take_of_lt h]; exact hq), hm⟩))
    · exact .inr (List.mem_flatMap.2 ⟨q, List.mem_of_getElem? (i := j - (i + 1)) (by rw [List.getElem?_drop, show i + 1 + (j - (i + 1)) = j by omega]; exact hq), hm⟩)
  have hin : ∀ c ∈ p.2, c ∈ (wg no ps).2 := fun c hc => by rw [e2]; simp [hc]
  rcases hg with ⟨hres, hnone⟩ | ⟨Q1, q, hres, ⟨c0, hc0m, hc0k⟩, hT, hq0, hP, hS, _⟩ | ⟨Q1, hres, ⟨c0, hc0m, hc0k⟩, hP, hS⟩
  · -- not there
    rw [removeT_kid_stay hrd hl (by rw [hgd]; exact hres) rfl]
    refine .inl ⟨rfl, fun c hc => ?_⟩
    rw [e2] at hc
    rcases List.mem_append.1 hc with h | h
    · exact hka c h
    · rcases List.mem_append.1 h with h | h
      · exact hnone c h
      · exact hkb c h
  · -- the kid stays
    rw [removeT_kid_stay hrd hl (by rw [hgd]; exact hres) rfl]
    obtain ⟨hS2, hfr⟩ := hS.mid hna
    have hQno : Q1 no = Q no := hfr no (.inl (by simp)) hno1
    have hW := WaysBut.set (hw.but fun j q hj hq m hm => hfr m (hside j q hj hq m hm).1 (hside j q hj hq m hm).2) hk hT hq0
    refine .inr (.inl ⟨Q1, wg no (ps.set i q), rfl, ⟨c0, hin c0 hc0m, hc0k⟩, TreeAt.ways (by rw [hQno]; exact hp) hno hl hW, ?_, ?_, ?_, fun n1 n2 g1 g2 => by rw [hQno] at g2; rw [page_inj g1 g2]; exact Nat.le_refl _⟩)
    · exact hW.full (by omega)
    · rw [e2]; show CutOut k _ ((ps.set i q).flatMap Prod.snd); rw [flat_set hil]; exact hP.mid hka hkb
    · rw [e1]; show Less Q Q1 r u _ (no :: (ps.set i q).flatMap Prod.fst); rw [flat_set hil]; exact hS2
  · -- the kid is gone
    rw [removeT_kid hrd hl (by rw [hgd]; exact hres) (by simp), ← hie]
    obtain ⟨hS2, hfr⟩ := hS.mid hna
    have hQno : Q1 no = Q no := hfr no (.inl (by simp)) hno1
    have hP2 := hP.mid hka hkb
    rw [← e2, List.nil_append] at hP2
    rw [← e1, List.nil_append] at hS2
    have hnn : no ∈ (wg no ps).1 := by simp [wg]
    by_cases hlast : n.kids.length - 1 = 0
    · have hu1 : u no ∧ (no ∈ (wg no ps).1 → no ∈ no :: (ps.take i).flatMap Prod.fst ++ (ps.drop (i + 1)).flatMap Prod.fst) := ⟨hu no hnn, fun _ => by simp⟩
      obtain ⟨Q2, hfree, hF2, hQ2⟩ := hS2.fst.free hu1
      have hdel : ps.take i = [] ∧ ps.drop (i + 1) = [] := by
        have := hw.1
        exact ⟨List.length_eq_zero_iff.1 (by rw [List.length_take]; omega), List.length_eq_zero_iff.1 (by rw [List.length_drop]; omega)⟩
      rw [hdel.1, hdel.2] at hP2 hF2
      refine .inr (.inr ⟨Q2, by rw [restT_gone hlast, hfree]; rfl, ⟨c0, hin c0 hc0m, hc0k⟩, hP2, ⟨hF2.iff fun m => ?_, by simp, fun m hm => (by cases hm), fun m h1 h2 => (hQ2 m h1).trans (hS2.rest m h1 h2)⟩⟩)
      constructor
      · rintro ⟨⟨h1, h2⟩, h3⟩
        exact ⟨h1, fun h4 => absurd (List.mem_singleton.1 (h2 h4)) h3⟩
      · rintro ⟨h1, h2⟩
        refine ⟨⟨h1, fun h4 => absurd (h2 h4) (by simp)⟩, fun h4 => ?_⟩
        subst h4; exact absurd (h2 hnn) (by simp)
    · have hW := WaysBut.cut (hw.but fun j q hj hq m hm => hfr m (hside j q hj hq m hm).1 (hside j q hj hq m hm).2) hkl (by omega) hik (fun k hk => (key_16 (hmk k hk)).2) hw
      have hckl : (cutKid n i).keys = delAt n.keys (i - 1) := by unfold cutKid; dsimp only; rw [if_pos (by omega)]
      have hfit : FitsF (cutKid n i) := by
        have e : cutKid n i = { n with keys := delAt n.keys (i - 1), kids := delAt n.kids i } := by unfold cutKid; rw [if_pos (by omega)]
        rw [e]
        exact ways_less hp.1 hl (delAt_sub _ _) (delAt_sub _ _) (by rw [delAt_len hik]; omega) (by rw [delAt_len hik, delAt_len (by omega)]; omega)
      have f1 : (delAt ps i).flatMap Prod.fst = (ps.take i).flatMap Prod.fst ++ (ps.drop (i + 1)).flatMap Prod.fst := flat_del
      have f2 : (delAt ps i).flatMap Prod.snd = (ps.take i).flatMap Prod.snd ++ (ps.drop (i + 1)).flatMap Prod.snd := flat_del
      rw [← f2] at hP2
      have hS3 : Less Q Q1 r u (wg no ps).1 (wg no (delAt ps i)).1 := by show Less Q Q1 r u _ (no :: (delAt ps i).flatMap Prod.fst); rw [f1]; exact hS2
      have hnot : ∀ p ∈ delAt ps i, ∀ m ∈ p.1, m ≠ no := fun p hp m hm e => (List.nodup_cons.1 hS3.nodup).1 (by rw [← e]; exact List.mem_flatMap.2 ⟨p, hp, hm⟩)
      refine .inr (.inl ⟨upd Q1 no (encNd (cutKid n i)).1, wg no (delAt ps i), ?_, ⟨c0, hin c0 hc0m, hc0k⟩, TreeAt.ways (page_put hfit) hno hl (hW.frame fun p hp m hm => upd_ne (hnot p hp m hm)), ?_, hP2, ⟨(hS3.fst.other (upd_ne (Ne.symm hno1))), hS3.nodup, hS3.old, fun m h1 h2 => by rw [upd_ne fun e => h2 (by rw [e]; exact hnn)]; exact hS3.rest m h1 h2⟩, fun n1 n2 g1 g2 => ?_⟩)
      · rw [restT_left hlast, show setT Q1 no (cutKid n i) = .ok (upd Q1 no (encNd (cutKid n i)).1) by unfold setT; rw [if_pos (enc_fits.2 hfit.fits)]]; rfl
      · exact hW.full (by show 0 < (delAt n.kids i).length; rw [delAt_len hik]; omega)
      · rw [upd_same] at g2
        rw [page_inj g1 hp, page_inj (m := cutKid n i) g2 ⟨hfit, rfl⟩]; show (delAt n.kids i).length ≤ _; rw [delAt_len hik]; omega
/-- a key taken out of a tree -/
theorem TreeAt.remove {k : ByteArray} : ∀ {d : Nat} {no : Int} {lo hi : ByteArray} {g : Gone} {Q : Pages} {r : Int} {u : Int → Prop}, TreeAt Q d no lo hi g → Fst Q r u → (∀ m ∈ g.1, u m) → g.1.Nodup → keyIn k lo hi = true →
    ∀ {f : Nat}, d < f → Shrunk Q r u d no lo hi g k (removeT k f Q no) := by
  intro d
  induction d with
  | zero =>
    rintro no lo hi g Q r u ⟨n, h1, h2, h3, rfl, h5⟩ hF hu hn hxi f hf
    obtain ⟨f, rfl⟩ : ∃ f', f = f' + 1 := ⟨f - 1, by omega⟩
    exact leaf_shrunk hF (hu no (by simp)) h1 h3 h5
  | succ d ih =>
    rintro no lo hi g Q r u ⟨n, ps, h1, h2, h3, h4, h5, rfl⟩ hF hu hn hxi f hf
    obtain ⟨f, rfl⟩ : ∃ f', f = f' + 1 := ⟨f - 1, by omega⟩
    obtain ⟨_, _, hrk, _, _, _, hkl⟩ := (may_ways h3).1 h1.1.nd.may
    have hil := kidI_le n.keys k
    obtain ⟨kid, hk⟩ : ∃ kid, n.kids[kidI n.keys k]? = some kid := ⟨_, List.getElem?_eq_getElem (by omega)⟩
    obtain ⟨p, hp⟩ : ∃ p, ps[kidI n.keys k]? = some p := ⟨_, List.getElem?_eq_getElem (by omega)⟩
    have hsub : p.1.Sublist (ps.flatMap Prod.fst) := by
      rw [flat_at hp]
      exact (List.sublist_append_left _ _).trans (List.sublist_append_right _ _)
    refine ways_cutout hF hu hn h1 h3 ⟨h4, h5⟩ hxi rfl hk hp (ih (h5 _ kid p hk hp).1 hF (fun m hm => hu m (List.mem_cons_of_mem _ (hsub.subset hm))) ((List.nodup_cons.1 hn).2.sublist hsub) (kid_in hrk hxi) (by omega))
end Go.Pl
end

section
namespace Go.Pl
open Go Go.Sx
/-- the first page is let be one that is a leaf, or has two kids or more -/
theorem RightT.shrink {Q0 : Pages} : ∀ {d : Nat} {no : Int} {g : Gone} {Q : Pages} {f : Nat}, d < f → TreeAt Q d no noKey noKey g → g.1.Nodup → Fst Q no (fun m => m ∈ g.1) → g.2 ≠ [] → RootFew Q d no → ∃ Q' g', shrinkT f Q no = .ok Q' ∧ RightT Q' g' ∧ g'.2 = g.2 ∧ g'.1.length ≤ g.1.length := by
  intro d
  induction d with
  | zero =>
    intro no g Q f hf hT hn hF hne hfew
    obtain ⟨f, rfl⟩ : ∃ f', f = f' + 1 := ⟨f - 1, by omega⟩
    obtain ⟨n, h1, h2, h3, h4, h5⟩ := id hT
    exact ⟨Q, g, shrinkT_done (read_is h2 h1) (.inl h3), .inr ⟨0, no, hT, hn, hF, hne, hfew⟩, rfl, Nat.le_refl _⟩
  | succ d ih =>
    intro no g Q f hf hT hn hF hne hfew
    obtain ⟨f, rfl⟩ : ∃ f', f = f' + 1 := ⟨f - 1, by omega⟩
    obtain ⟨n, ps, h1, h2, h3, h4, h5, h6⟩ := id hT
    by_cases hk : n.leaf = true ∨ 1 < n.kids.length
    · exact ⟨Q, g, shrinkT_done (read_is h2 h1) hk, .inr ⟨d + 1, no, hT, hn, hF, hne, hfew⟩, rfl, Nat.le_refl _⟩
    · obtain ⟨_, _, _, _, hk1, _, hkl⟩ := (may_ways h3).1 h1.1.nd.may
      have hk2 : n.kids.length = 1 := by
        have : ¬ 1 < n.kids.length := fun h => hk (.inr h)
        omega
      obtain ⟨kid, hkid⟩ := List.length_eq_one_iff.1 hk2
      obtain ⟨p, hp⟩ := List.length_eq_one_iff.1 (h4.trans hk2)
      have hks : n.keys = [] := List.length_eq_zero_iff.1 (by omega)
      obtain ⟨hTk, hp0⟩ := h5 0 kid p (by rw [hkid]; rfl) (by rw [hp]; rfl)
      have e1 : lowOf n.keys noKey 0 = noKey := rfl
      have e2 : highOf n.keys noKey 0 = noKey := by rw [hks]; rfl
      rw [e1, e2] at hTk
      have hg : g = (no :: p.1, p.2) := by rw [h6, hp]; simp
      have hno1 : no ≠ 1 := by unfold mayUse at h2; omega
      obtain ⟨Q1, hfree, hF1, hQ1⟩ := hF.free (no := no) (by rw [hg]; simp)
      have hmk := hTk.may
      obtain ⟨hF2, hQ2⟩ := hF1.set (no := kid) (by unfold mayUse at hmk; omega) (by unfold mayUse at hmk; omega)
      rw [hg] at hn hF1 hF2
      have hnn := List.nodup_cons.1 hn
      have hfr : ∀ m ∈ p.1, rootSet Q1 kid m = Q m := fun m hm => by
        have hm1 : m ≠ 1 := by
          have := hF.may (m := m) (by rw [hg]; exact List.mem_cons_of_mem _ hm); unfold mayUse at this; omega
        rw [hQ2 m hm1, hQ1 m hm1]
      have hgd : n.kids.getD 0 0 = kid := by rw [hkid]; rfl
      obtain ⟨Q', g', h7, h8, h9, h10⟩ := ih (f := f) (by omega) (hTk.frame hfr) hnn.2 (hF2.iff fun m => ⟨fun h => (List.mem_cons.1 h.1).resolve_left h.2, fun h => ⟨List.mem_cons_of_mem _ h, fun e => hnn.1 (e ▸ h)⟩⟩) hp0 ⟨by have := hfew.1; omega, fun e => by have := hfew.1; omega⟩
      refine ⟨Q', g', ?_, h8, by rw [h9, hg], by rw [hg]; simp only [List.length_cons]; omega⟩
      rw [shrinkT_more (read_is h2 h1) hk, hfree, hgd]; exact h7
/-- a key taken out of a right book -/
theorem RightT.del {Q : Pages} {g : Gone} (h : RightT Q g) (k : ByteArray) :
    (delTop Q k = .ok (false, Q) ∧ ∀ c ∈ g.2, c.key ≠ k) ∨ ∃ Q' g', delTop Q k = .ok (true, Q') ∧ RightT Q' g' ∧ CutOut k g.2 g'.2 ∧ (∃ c ∈ g.2, c.key = k) ∧ g'.1.length ≤ g.1.length := by
  rcases h with ⟨hF, rfl⟩ | ⟨d, no, hT, hn, hF, hne, hfew⟩
  · exact .inl ⟨delTop_none (hF.rootT (.inl rfl)) rfl, fun c hc => by cases hc⟩
  · have hno := hT.may
    have h0 : no ≠ 0 := by unfold mayUse at hno; omega
    have hrt := hF.rootT (.inr hno)
    have hd := hfew.1
    rcases hT.remove hF (fun m hm => hm) hn (in_all (k := k)) (f := 32) (by omega) with ⟨hres, hnone⟩ | ⟨Q1, g1, hres, hex, hT1, hne1, hC, hL, hkk⟩ | ⟨Q1, hres, hex, hC, hL⟩
    · exact .inl ⟨delTop_not hrt h0 hres rfl rfl, hnone⟩
    · have hF1 : Fst Q1 no (fun m => m ∈ g1.1) := hL.fst.iff fun m => ⟨fun h => h.2 h.1, fun h => ⟨hL.old m h, fun _ => h⟩⟩
      obtain ⟨Q2, g2, h1, h2, h3, h4⟩ := RightT.shrink (Q0 := Q) (f := 32) (by omega) hT1 hL.nodup hF1 hne1 ⟨hd, fun e n' hn' => by
        subst e
        obtain ⟨n, ps, hp, _⟩ := hT
        exact Nat.le_trans (hkk n n' hp hn') (hfew.2 rfl n hp)⟩
      have h5 := sub_len hL.nodup hL.old
      exact .inr ⟨Q2, g2, (delTop_has hrt h0 hres rfl rfl).trans (bind_ok h1), h2, by rw [h3]; exact hC, hex, by omega⟩
    · have hF1 : Fst Q1 no (fun _ => False) := hL.fst.iff fun m => ⟨fun h => (by have := h.2 h.1; cases this), False.elim⟩
      exact .inr ⟨rootSet Q1 0, ([], []), delTop_gone hrt h0 hres rfl, .inl ⟨(hF1.set (by omega) (by omega)).1, rfl⟩, hC, hex, by simp⟩
end Go.Pl
end

section
namespace Go.Pl
open Go Go.Sx
/-- what that comes to: the same pages -/
def Placed (Q : Pages) (r : Int) (u : Int → Prop) (d : Nat) (no : Int) (lo hi : ByteArray) (g : Gone) (x : Cell) (res : TE (Part × Pages)) : Prop :=
  ∃ Q' g', res = .ok (noPart, Q') ∧ TreeAt Q' d no lo hi g' ∧ PutIn x g.2 g'.2 ∧ g'.1 = g.1 ∧ Fst Q' r u ∧ (∀ m, m ≠ 1 → m ∉ g.1 → Q' m = Q m) ∧ ∀ n n', IsPage (Q no) n → IsPage (Q' no) n' → n'.kids.length ≤ n.kids.length
theorem leaf_placed {Q : Pages} {r : Int} {u : Int → Prop} {no : Int} {lo hi : ByteArray} {n : Nd} {x : Cell} (hF : Fst Q r u) (hu : u no) (hp : IsPage (Q no) n) (hl : n.leaf = true) (hin : ∀ c ∈ n.cells, keyIn c.key lo hi = true)
    (hx : mayCell x = true) (hxf : x.val.f < 2 ^ 64 ∧ x.new.f < 2 ^ 64) (hxi : keyIn x.key lo hi = true) {c : Cell} (hc : c ∈ n.cells) (hck : c.key = x.key) (hlen : (cellBytes x).length ≤ (cellBytes c).length) :
    Placed Q r u 0 no lo hi ([no], n.cells) x (putT Q no { n with cells := insC n.cells x }) := by
  have hno := hF.may hu
  have hno1 : no ≠ 1 := by unfold mayUse at hno; omega
  obtain ⟨hk1, hk2, hmc, hr⟩ := (may_leaf hl).1 hp.1.nd.may
  obtain ⟨hr2, hput⟩ := insC_put hr x
  have hmay : ∀ c ∈ insC n.cells x, mayCell c = true ∧ (c.val.f < 2 ^ 64 ∧ c.new.f < 2 ^ 64) ∧ keyIn c.key lo hi = true := fun c hc => by
    rcases (hput c).1 hc with rfl | ⟨h, _⟩
    · exact ⟨hx, hxf, hxi⟩
    · exact ⟨hmc c h, hp.1.fl c h, hin c h⟩
  have hmn : MayNd { n with cells := insC n.cells x } := (may_leaf (n := { n with cells := insC n.cells x }) hl).2 ⟨hk1, hk2, fun c hc => (hmay c hc).1, hr2⟩
  have he : (keysOf n.cells)[findI (keysOf n.cells) x.key]? = some x.key := by
    by_cases he : (keysOf n.cells)[findI (keysOf n.cells) x.key]? = some x.key
    · exact he
    · have := found_leaf hr x.key
      rw [cellOf_none he] at this
      exact absurd hck (this c hc)
  obtain ⟨z, hz, hzk⟩ := key_cell he
  have hzc := key_inj hr (List.mem_of_getElem? hz) hc (hzk.trans hck.symm)
  subst hzc
  obtain ⟨hlt, hz2⟩ := List.getElem?_eq_some_iff.1 hz
  have hfl : ((insC n.cells x).flatMap cellBytes).length ≤ (n.cells.flatMap cellBytes).length ∧ (insC n.cells x).length = n.cells.length := by
    rw [insC_at he]
    refine ⟨?_, List.length_set⟩
    rw [flat_set hlt, flat_at hz]
    simp only [List.length_append]; omega
  have hf : Fits { n with cells := insC n.cells x } := by
    refine ⟨hmn, ?_⟩
    have hold := leaf_len hl
    have hob := hp.1.fits.2
    rw [leaf_len (n := { n with cells := insC n.cells x }) hl]; dsimp only
    rw [hfl.2]; have := hfl.1; omega
  rw [putT_one hf]
  refine ⟨_, ([no], insC n.cells x), rfl, ⟨{ n with cells := insC n.cells x }, page_put (n := { n with cells := insC n.cells x }) ⟨hf, fun c hc => (hmay c hc).2.1⟩, hno, hl, rfl, fun c hc => (hmay c hc).2.2⟩, hput, rfl, hF.other (upd_ne (Ne.symm hno1)), fun m h1 h2 => upd_ne fun e => h2 (by rw [e]; simp), fun n1 n2 g1 g2 => ?_⟩
  rw [upd_same] at g2
  rw [page_inj g1 hp, page_inj (m := { n with cells := insC n.cells x }) g2 ⟨⟨hf, fun c hc => (hmay c hc).2.1⟩, rfl⟩]; exact Nat.le_refl _
theorem ways_placed {Q : Pages} {r : Int} {u : Int → Prop} {d f : Nat} {no : Int} {lo hi : ByteArray} {n : Nd} {ps : List Gone} {x : Cell} {i : Nat} {kid : Int} {p : Gone} (hF : Fst Q r u) (hu : ∀ m ∈ (wg no ps).1, u m) (hn : (wg no ps).1.Nodup)
    (hp : IsPage (Q no) n) (hl : n.leaf = false) (hw : Ways Q d n lo hi ps) (hxi : keyIn x.key lo hi = true) (hie : i = kidI n.keys x.key) (hk : n.kids[i]? = some kid) (hpi : ps[i]? = some p)
    (hg : Placed Q r u d kid (lowOf n.keys lo i) (highOf n.keys hi i) p x (insertT x f Q kid)) : Placed Q r u (d + 1) no lo hi (wg no ps) x (insertT x (f + 1) Q no) := by
  have hno := hF.may (hu no (by simp [wg]))
  have hno1 : no ≠ 1 := by unfold mayUse at hno; omega
  have hrd := read_is hno hp
  have hmn := hp.1.nd.may
  have hgd : n.kids.getD (kidI n.keys x.key) 0 = kid := by rw [← hie, List.getD_eq_getElem?_getD, hk]; rfl
  have hil : i < ps.length := (List.getElem?_eq_some_iff.1 hpi).1
  have e1 : (wg no ps).1 = (no :: (ps.take i).flatMap Prod.fst) ++ (p.1 ++ (ps.drop (i + 1)).flatMap Prod.fst) := by show no :: ps.flatMap Prod.fst = _; rw [flat_at hpi]; rfl
  have e2 : (wg no ps).2 = (ps.take i).flatMap Prod.snd ++ (p.2 ++ (ps.drop (i + 1)).flatMap Prod.snd) := flat_at hpi
  have hna : ((no :: (ps.take i).flatMap Prod.fst) ++ (p.1 ++ (ps.drop (i + 1)).flatMap Prod.fst)).Nodup := by rw [← e1]; exact hn
  obtain ⟨n1, n2, n3⟩ := List.nodup_append.1 hna
  obtain ⟨n4, n5, n6⟩ := List.nodup_append.1 n2
  have hka : ∀ c ∈ (ps.take i).flatMap Prod.snd, c.key ≠ x.key := fun c hc => by
    obtain ⟨q, hq, hcq⟩ := List.mem_flatMap.1 hc
    obtain ⟨j, hj, hjq⟩ := mem_take_at hq
    exact hw.other hmn hl hxi (by omega) hjq c hcq
  have hkb : ∀ c ∈ (ps.drop (i + 1)).flatMap Prod.snd, c.key ≠ x.key := fun c hc => by
    obtain ⟨q, hq, hcq⟩ := List.mem_flatMap.1 hc
    obtain ⟨j, hj, hjq⟩ := mem_drop_at hq
    exact hw.other hmn hl hxi (by omega) hjq c hcq
  have hside : ∀ (j : Nat) (q : Gone), j ≠ i → ps[j]? = some q → ∀ m ∈ q.1, m ∉ p.1 ∧ m ≠ 1 := fun j q hj hq m hm => by
    refine ⟨fun hmp => ?_, by have := hF.may (hu m (List.mem_cons_of_mem _ (List.mem_flatMap.2 ⟨q, List.mem_of_getElem? hq, hm⟩))); unfold mayUse at this; omega⟩
    rcases Nat.lt_or_gt_of_ne hj with h | h
    · exact n3 m (List.mem_cons_of_mem _ (List.mem_flatMap.2 ⟨q, List.mem_of_getElem? (i := j) (by rw [List.getElem?_take_of_lt h]; exact hq), hm⟩)) m (List.mem_append_left _ hmp) rfl
    · exact n6 m hmp m (List.mem_flatMap.2 ⟨q, List.mem_of_getElem? (i := j - (i + 1)) (by rw [List.getElem?_drop, show i + 1 + (j - (i + 1)) = j by omega]; exact hq), hm⟩) rfl
  obtain ⟨Q1, q, hres, hT, hP, hpp, hF1, hfr, _⟩ := hg
  rw [insertT_kid_zero hrd hl (by rw [hgd]; exact hres) rfl]
  have hQno : Q1 no = Q no := hfr no hno1 fun h => n3 no (by simp) no (List.mem_append_left _ h) rfl
  have hq0 : q.2 ≠ [] := by
    intro e
    have := (hP x).2 (.inl rfl); rw [e] at this; cases this
  have hW := WaysBut.set (hw.but fun j q hj hq m hm => hfr m (hside j q hj hq m hm).2 (hside j q hj hq m hm).1) hk hT hq0
  refine ⟨Q1, wg no (ps.set i q), rfl, TreeAt.ways (by rw [hQno]; exact hp) hno hl hW, ?_, ?_, hF1, fun m h1 h2 => hfr m h1 fun h3 => h2 (by rw [e1]; simp [h3]), fun n1 n2 g1 g2 => by rw [hQno] at g2; rw [page_inj g1 g2]; exact Nat.le_refl _⟩
  · rw [e2]; show PutIn x _ ((ps.set i q).flatMap Prod.snd); rw [flat_set hil]; exact hP.mid hka hkb
  · rw [e1]; show no :: (ps.set i q).flatMap Prod.fst = _; rw [flat_set hil, hpp]; rfl
/-- a cell put into a tree that has a longer one of its key -/
theorem TreeAt.place {x : Cell} (hx : mayCell x = true) (hxf : x.val.f < 2 ^ 64 ∧ x.new.f < 2 ^ 64) : ∀ {d : Nat} {no : Int} {lo hi : ByteArray} {g : Gone} {Q : Pages} {r : Int} {u : Int → Prop}, TreeAt Q d no lo hi g → Fst Q r u → (∀ m ∈ g.1, u m) → g.1.Nodup → keyIn x.key lo hi = true →
    (∃ c ∈ g.2, c.key = x.key ∧ (cellBytes x).length ≤ (cellBytes c).length) → ∀ {f : Nat}, d < f → Placed Q r u d no lo hi g x (insertT x f Q no) := by
  intro d
  induction d with
  | zero =>
    rintro no lo hi g Q r u ⟨n, h1, h2, h3, rfl, h5⟩ hF hu hn hxi ⟨c, hc, hck, hcl⟩ f hf
    obtain ⟨f, rfl⟩ : ∃ f', f = f' + 1 := ⟨f - 1, by omega⟩
    rw [insertT_leaf (read_is h2 h1) h3]
    exact leaf_placed hF (hu no (by simp)) h1 h3 h5 hx hxf hxi hc hck hcl
  | succ d ih =>
    rintro no lo hi g Q r u ⟨n, ps, h1, h2, h3, h4, h5, rfl⟩ hF hu hn hxi ⟨c, hc, hck, hcl⟩ f hf
    obtain ⟨f, rfl⟩ : ∃ f', f = f' + 1 := ⟨f - 1, by omega⟩
    obtain ⟨_, _, hrk, _, _, _, hkl⟩ := (may_ways h3).1 h1.1.nd.may
    have hil := kidI_le n.keys x.key
    obtain ⟨kid, hk⟩ : ∃ kid, n.kids[kidI n.keys x.key]? = some kid := ⟨_, List.getElem?_eq_getElem (by omega)⟩
    obtain ⟨p, hp⟩ : ∃ p, ps[kidI n.keys x.key]? = some p := ⟨_, List.getElem?_eq_getElem (by omega)⟩
    have hsub : p.1.Sublist (ps.flatMap Prod.fst) := by
      rw [flat_at hp]
      exact (List.sublist_append_left _ _).trans (List.sublist_append_right _ _)
    have hcp : c ∈ p.2 := by
      obtain ⟨q, hq, hcq⟩ := List.mem_flatMap.1 hc
      obtain ⟨j, hj⟩ := List.getElem?_of_mem hq
      by_cases e : j = kidI n.keys x.key
      · subst e; rw [hp] at hj; injection hj with hj; subst hj; exact hcq
      · exact absurd hck (Ways.other ⟨h4, h5⟩ h1.1.nd.may h3 hxi e hj c hcq)
    refine ways_placed hF hu hn h1 h3 ⟨h4, h5⟩ hxi rfl hk hp (ih (h5 _ kid p hk hp).1 hF (fun m hm => hu m (List.mem_cons_of_mem _ (hsub.subset hm))) ((List.nodup_cons.1 hn).2.sublist hsub) (kid_in hrk hxi) ⟨c, hcp, hck, hcl⟩ (by omega))
/-- a cell put into a right book that has a longer one of its key -/
theorem RightT.place {Q : Pages} {g : Gone} (h : RightT Q g) {x : Cell} (hx : mayCell x = true) (hxf : x.val.f < 2 ^ 64 ∧ x.new.f < 2 ^ 64) {c : Cell} (hc : c ∈ g.2) (hck : c.key = x.key) (hlen : (cellBytes x).length ≤ (cellBytes c).length) :
    ∃ Q' g', putTop Q x = .ok Q' ∧ RightT Q' g' ∧ PutIn x g.2 g'.2 ∧ g'.1 = g.1 := by
  rcases h with ⟨hF, rfl⟩ | ⟨d, no, hT, hn, hF, hne, hfew⟩
  · cases hc
  · have hno := hT.may
    have h0 : no ≠ 0 := by unfold mayUse at hno; omega
    have hrt := hF.rootT (.inr hno)
    have hd := hfew.1
    obtain ⟨Q', g', hres, hT', hP, hpp, hF', _, hk⟩ := hT.place hx hxf hF (fun m hm => hm) hn in_all ⟨c, hc, hck, hlen⟩ (f := 32) (by omega)
    refine ⟨Q', g', putTop_one hrt h0 hres rfl, .inr ⟨d, no, hT', by rw [hpp]; exact hn, by rw [hpp]; exact hF', ?_, hd, fun e n' hn' => ?_⟩, hP, hpp⟩
    · intro e; have := (hP x).2 (.inl rfl); rw [e] at this; cases this
    · subst e
      obtain ⟨n, ps, hp, _⟩ := hT
      exact Nat.le_trans (hk n n' hp hn') (hfew.2 rfl n hp)
end Go.Pl
end

section
namespace Go.Pl
open Go Go.Sx
/-! ### rising cells -/
def cutC (l : List Cell) (k : ByteArray) : List Cell := l.filter fun c => decide (c.key ≠ k)
def getC (l : List Cell) (k : ByteArray) : Option Cell := l.find? fun c => decide (c.key = k)
theorem cutC_rising {l : List Cell} (h : rising (keysOf l)) (k : ByteArray) : rising (keysOf (cutC l k)) := h.sublist (List.filter_sublist.map _)
theorem cutC_is (l : List Cell) (k : ByteArray) : CutOut k l (cutC l k) := fun c => by unfold cutC; rw [List.mem_filter]; simp
theorem put_is {l l' : List Cell} {x : Cell} (h : rising (keysOf l)) (h' : rising (keysOf l')) (hp : PutIn x l l') : l' = insC l x := by
  obtain ⟨h1, h2⟩ := insC_put h x
  exact rising_ext h' h1 fun c => (hp c).trans (h2 c).symm
theorem cut_is {l l' : List Cell} {k : ByteArray} (h : rising (keysOf l)) (h' : rising (keysOf l')) (hp : CutOut k l l') : l' = cutC l k :=
  rising_ext h' (cutC_rising h k) fun c => (hp c).trans (cutC_is l k c).symm
theorem cutC_none {l : List Cell} {k : ByteArray} (h : ∀ c ∈ l, c.key ≠ k) : cutC l k = l := by
  unfold cutC; rw [List.filter_eq_self]; intro c hc; simpa using h c hc
theorem getC_is {l : List Cell} {k : ByteArray} {o : Option Cell} (h : rising (keysOf l)) (hf : Found l k o) : o = getC l k := by
  cases o with
  | none =>
    refine (List.find?_eq_none.2 fun c hc => ?_).symm
    simpa using hf c hc
  | some z =>
    obtain ⟨h1, h2⟩ := hf
    cases hg : getC l k with
    | none => have := List.find?_eq_none.1 hg z h1; simp [h2] at this
    | some w =>
      have hw := List.find?_some hg
      exact congrArg some (key_inj h h1 (List.mem_of_find?_eq_some hg) (h2.trans (of_decide_eq_true hw).symm))
theorem getC_some {l : List Cell} {k : ByteArray} : (getC l k).isSome = true ↔ ∃ c ∈ l, c.key = k := by
  unfold getC; rw [List.find?_isSome]
  constructor
  · rintro ⟨c, h1, h2⟩; exact ⟨c, h1, of_decide_eq_true h2⟩
  · rintro ⟨c, h1, h2⟩; exact ⟨c, h1, decide_eq_true h2⟩
theorem getC_not {l : List Cell} {k : ByteArray} (h : ∀ c ∈ l, c.key ≠ k) : getC l k = none := by
  unfold getC; rw [List.find?_eq_none]; intro c hc; simpa using h c hc
/-! ### a right book -/
theorem nodup_len {α : Type} [DecidableEq α] {a b : List α} (ha : a.Nodup) (hb : b.Nodup) (h : ∀ x, x ∈ a ↔ x ∈ b) : a.length = b.length :=
  Nat.le_antisymm (sub_len ha fun x hx => (h x).1 hx) (sub_len hb fun x hx => (h x).2 hx)
theorem RightT.nodup {Q : Pages} {g : Gone} (h : RightT Q g) : g.1.Nodup := by
  rcases h with ⟨_, rfl⟩ | ⟨_, _, _, h, _⟩
  · exact List.nodup_nil
  · exact h
theorem RightT.may {Q : Pages} {g : Gone} (h : RightT Q g) : ∀ m ∈ g.1, mayUse m := by
  obtain ⟨r, hF, _⟩ := h.fst
  exact fun m hm => hF.may hm
theorem RightT.few {Q : Pages} {g : Gone} (h : RightT Q g) : g.1.length ≤ 30 := count30 h.nodup h.may
theorem RightT.none {Q : Pages} {g : Gone} (h : RightT Q g) (h0 : g.2 = []) : g = ([], []) := by
  rcases h with ⟨_, h⟩ | ⟨_, _, _, _, _, h, _⟩
  · exact h
  · exact absurd h0 h
theorem RightT.some {Q : Pages} {g : Gone} (h : RightT Q g) (h0 : g.1 = []) : g.2 = [] := by
  rcases h with ⟨_, rfl⟩ | ⟨_, _, h, _⟩
  · rfl
  · obtain ⟨l, hl⟩ := h.head; rw [h0] at hl; cases hl
theorem RightT.one {Q : Pages} {g : Gone} (h : RightT Q g) : whole256 (pgOf Q 1) = (0, Q 1) := by
  obtain ⟨r, hF, _⟩ := h.fst
  have h1 : pgOf Q 1 = (0, Q 1) := by unfold pgOf; rw [if_pos (by decide)]
  rw [h1]; unfold whole256; rw [if_neg (by simp), if_neg (by dsimp only; rw [hF.len]; simp)]
/-! ### a right book on a sheet -/
theorem no_bad {sT b : Nat} {v : Value} {e : Int} {H : Chunk} : ¬ ShBad sT b v (fun _ _ => False) e H := by
  rintro ⟨m, h⟩
  obtain ⟨_, _, _, _, _, _, _, h⟩ := h.is
  exact h
/-- the sheet at b above pages Qb holds the tree g -/
def TrIn (sT b : Nat) (P : Value) (I : Chunk → Prop) (Qb : Pages) (g : Gone) (H : Chunk) : Prop := ∃ Qt, ShAt sT b P I Qb Qt H ∧ RightT Qt g
theorem zero_right : RightT (fun _ => noughts 256) ([], []) := by
  refine .inl ⟨⟨noughts_length 256, rfl, fun m => ⟨fun h => ?_, False.elim⟩⟩, rfl⟩
  have hm := hasB_may h
  obtain ⟨n, rfl, h1, h2⟩ := may_nat hm
  have : ∀ k : Fin 32, hasB (noughts 256) ((k.val : Nat) : Int) = false := by decide
  rw [this ⟨n, h2⟩] at h; cases h
end Go.Pl
end

section
namespace Go.Pl
open Go Go.Sx
theorem and_hi (u : Nat) : u &&& 9218868437227405312 = (u / 2 ^ 52 % 2 ^ 11) * 2 ^ 52 := by
  have e : (9218868437227405312 : Nat) = (2 ^ 11 - 1) <<< 52 := by decide
  rw [e, ← Nat.and_two_pow_sub_one_eq_mod, ← Nat.shiftRight_eq_div_pow, ← Nat.shiftLeft_eq]
  apply Nat.eq_of_testBit_eq
  intro i
  simp only [Nat.testBit_and, Nat.testBit_shiftLeft, Nat.testBit_shiftRight]
  by_cases h : 52 ≤ i
  · rw [decide_eq_true h, show 52 + (i - 52) = i by omega]; simp
  · rw [decide_eq_false h]; simp
theorem and_lo (u : Nat) : u &&& 4503599627370495 = u % 2 ^ 52 := Nat.and_two_pow_sub_one_eq_mod u 52
theorem w_and {u : Nat} (h : u < 2 ^ 64) {k : Nat} (hk : k < 2 ^ 64) : IntKind.u64.wrap ((BitVec.ofInt IntKind.u64.bits (u : Int) &&& BitVec.ofInt IntKind.u64.bits ((k : Nat) : Int)).toNat : Int) = ((u &&& k : Nat) : Int) := by
  show IntKind.u64.wrap ((BitVec.ofInt 64 (u : Int) &&& BitVec.ofInt 64 ((k : Nat) : Int)).toNat : Int) = _
  rw [BitVec.toNat_and, of64 h, of64 hk, wrap_u64 (by omega) (by have := Nat.and_le_left (n := u) (m := k); omega)]
theorem nan_is {u : Nat} : nanN u = (decide (u &&& 9218868437227405312 = 9218868437227405312) && decide (u &&& 4503599627370495 ≠ 0)) := by
  rw [nanN_bits, and_hi, and_lo]
  congr 1
  exact decide_eq_decide.2 (by omega)
/-- a float's place, from below -/
def placeI (u : Nat) : Int := (placeN u : Nat) - 9223372036854775808
theorem placeI_eq {a b : Nat} : placeI a = placeI b ↔ placeN a = placeN b := by unfold placeI; omega
theorem top63 {u : Nat} (hu : u < 2 ^ 64) : (u : Int).fdiv (2 ^ min (Int.toNat 63) IntKind.u64.bits) = 1 ↔ 2 ^ 63 ≤ u := by
  have e : (2 : Int) ^ min (Int.toNat 63) IntKind.u64.bits = 9223372036854775808 := by decide
  rw [e, Int.fdiv_eq_ediv_of_nonneg _ (by decide)]; omega
theorem place_neg {u : Nat} (hu : u < 2 ^ 64) (hn : nanN u = false) (h : (u : Int).fdiv (2 ^ min (Int.toNat 63) IntKind.u64.bits) = 1) :
    IntKind.i64.wrap (IntKind.i64.wrap (0 - IntKind.i64.wrap (IntKind.u64.wrap ((BitVec.ofInt IntKind.u64.bits (u : Int) &&& BitVec.ofInt IntKind.u64.bits 9223372036854775807).toNat : Int))) - 1) = placeI u := by
  have h := (top63 hu).1 h
  have e : IntKind.u64.wrap ((BitVec.ofInt IntKind.u64.bits (u : Int) &&& BitVec.ofInt IntKind.u64.bits 9223372036854775807).toNat : Int) = ((u &&& 9223372036854775807 : Nat) : Int) := w_and hu (k := 9223372036854775807) (by decide)
  rw [e, show u &&& 9223372036854775807 = u % 2 ^ 63 from Nat.and_two_pow_sub_one_eq_mod u 63]
  unfold placeI placeN
  rw [hn, if_neg (by simp), if_pos h, wrap_i64 (n := ((u % 2 ^ 63 : Nat) : Int)) (by omega) (by omega), wrap_i64 (n := 0 - ((u % 2 ^ 63 : Nat) : Int)) (by omega) (by omega), wrap_i64 (by omega) (by omega)]
  omega
theorem place_pos {u : Nat} (hu : u < 2 ^ 64) (hn : nanN u = false) (h : ¬ (u : Int).fdiv (2 ^ min (Int.toNat 63) IntKind.u64.bits) = 1) : IntKind.i64.wrap (u : Int) = placeI u := by
  have h : ¬ 2 ^ 63 ≤ u := fun h2 => h ((top63 hu).2 h2)
  unfold placeI placeN
  rw [hn, if_neg (by simp), if_neg h, wrap_i64 (by omega) (by omega)]
  omega
/-! ### keys by numbers -/
def keyN (i : Nat) : ByteArray := ⟨#[107, UInt8.ofNat (48 + i / 100 % 10), UInt8.ofNat (48 + i / 10 % 10), UInt8.ofNat (48 + i % 10), 97, 98, 99, 100, 101, 102, 103, 104, 105, 106, 107, 108]⟩
theorem ofNat_inj {a b : Nat} (ha : a < 256) (hb : b < 256) (h : UInt8.ofNat a = UInt8.ofNat b) : a = b := by
  have := congrArg UInt8.toNat h
  rw [UInt8.toNat_ofNat', UInt8.toNat_ofNat'] at this; omega
/-- texts of noughts -/
def textN (n : Nat) : ByteArray := ⟨⟨List.replicate n 0⟩⟩
def valN (n : Nat) : Vl := ⟨2, 0, textN n⟩
end Go.Pl
end

section
namespace Go.Pl
open Go Go.Sx
def midP (c : Cell) (st : List Cell × Bool) (x : Cell) : List Cell × Bool := if st.2 = false ∧ kLt x.key c.key = false then (st.1 ++ [c], true) else st
def stepP (c : Cell) (st : List Cell × Bool) (x : Cell) : List Cell × Bool := if x.key ≠ c.key then ((midP c st x).1 ++ [x], (midP c st x).2) else midP c st x
def lawTo (l : List Cell) (c : Cell) (i : Nat) : List Cell × Bool := (l.take i).foldl (stepP c) ([], false)
def lawPut (l : List Cell) (c : Cell) : List Cell := if (lawTo l c l.length).2 = false then (lawTo l c l.length).1 ++ [c] else (lawTo l c l.length).1
theorem foldl_done {c : Cell} : ∀ {l : List Cell} {out : List Cell}, (∀ x ∈ l, kLt c.key x.key = true) → l.foldl (stepP c) (out, true) = (out ++ l, true)
  | [], out, _ => by simp
  | x :: l, out, h => by
    have h1 := h x (by simp)
    have e : stepP c (out, true) x = (out ++ [x], true) := by
      have h2 : x.key ≠ c.key := fun e => by rw [e, kLt_irrefl] at h1; cases h1
      simp [stepP, midP, h2]
    rw [List.foldl_cons, e, foldl_done fun y hy => h y (by simp [hy])]; simp
theorem foldl_is {c : Cell} : ∀ {l : List Cell} {out : List Cell}, rising (keysOf l) →
    (if (l.foldl (stepP c) (out, false)).2 = false then (l.foldl (stepP c) (out, false)).1 ++ [c] else (l.foldl (stepP c) (out, false)).1) = out ++ (l.filter (fun x => kLt x.key c.key) ++ c :: l.filter (fun x => kLt c.key x.key))
  | [], out, _ => by simp
  | x :: l, out, h => by
    have h' := List.pairwise_cons.1 h
    have hgt : ∀ y ∈ l, kLt x.key y.key = true := fun y hy => h'.1 _ (List.mem_map.2 ⟨y, hy, rfl⟩)
    rw [List.foldl_cons, List.filter_cons, List.filter_cons]
    rcases kLt_total x.key c.key with h1 | h1 | h1
    · have e : stepP c (out, false) x = (out ++ [x], false) := by
        have h2 : x.key ≠ c.key := fun e => by rw [e, kLt_irrefl] at h1; cases h1
        simp [stepP, midP, h1, h2]
      rw [e, foldl_is h'.2, if_pos h1, if_neg (by rw [kLt_asymm h1]; simp)]
      simp
    · have e : stepP c (out, false) x = (out ++ [c], true) := by
        simp [stepP, midP, h1, kLt_irrefl]
      have hl : ∀ y ∈ l, kLt c.key y.key = true := fun y hy => by rw [← h1]; exact hgt y hy
      rw [e, foldl_done hl, if_neg (by simp), if_neg (by rw [h1, kLt_irrefl]; simp), if_neg (by rw [h1, kLt_irrefl]; simp), List.filter_eq_nil_iff.2 (fun y hy => by rw [kLt_asymm (hl y hy)]; simp), List.filter_eq_self.2 hl]
      simp
    · have e : stepP c (out, false) x = (out ++ [c, x], true) := by
        have h2 : x.key ≠ c.key := fun e => by rw [e, kLt_irrefl] at h1; cases h1
        simp [stepP, midP, kLt_asymm h1, h2]
      have hl : ∀ y ∈ l, kLt c.key y.key = true := fun y hy => kLt_trans h1 (hgt y hy)
      rw [e, foldl_done hl, if_neg (by simp), if_neg (by rw [kLt_asymm h1]; simp), if_pos h1, List.filter_eq_nil_iff.2 (fun y hy => by rw [kLt_asymm (hl y hy)]; simp), List.filter_eq_self.2 hl]
      simp
theorem lawPut_is {l : List Cell} {c : Cell} (h : rising (keysOf l)) : lawPut l c = insC l c := by
  have e : lawPut l c = l.filter (fun x => kLt x.key c.key) ++ c :: l.filter (fun x => kLt c.key x.key) := by
    have := foldl_is (c := c) (l := l) (out := []) h
    unfold lawPut lawTo
    rw [List.take_of_length_le (Nat.le_refl _), this]; simp
  have hr : rising (keysOf (lawPut l c)) := by
    rw [e]
    unfold keysOf rising
    rw [List.map_append, List.pairwise_append, List.map_cons, List.pairwise_cons]
    refine ⟨h.sublist (List.filter_sublist.map _), ⟨fun k hk => ?_, h.sublist (List.filter_sublist.map _)⟩, fun a ha b hb => ?_⟩
    · obtain ⟨y, hy, rfl⟩ := List.mem_map.1 hk
      exact (List.mem_filter.1 hy).2
    · obtain ⟨x, hx, rfl⟩ := List.mem_map.1 ha
      have hx := (List.mem_filter.1 hx).2
      rcases List.mem_cons.1 hb with rfl | hb
      · exact hx
      · obtain ⟨y, hy, rfl⟩ := List.mem_map.1 hb
        exact kLt_trans hx (List.mem_filter.1 hy).2
  refine put_is h hr fun z => ?_
  rw [e, List.mem_append, List.mem_cons, List.mem_filter, List.mem_filter]
  constructor
  · rintro (⟨h1, h2⟩ | h1 | ⟨h1, h2⟩)
    · exact .inr ⟨h1, kLt_ne h2⟩
    · exact .inl h1
    · exact .inr ⟨h1, fun e => by rw [e, kLt_irrefl] at h2; cases h2⟩
  · rintro (h1 | ⟨h1, h2⟩)
    · exact .inr (.inl h1)
    · rcases kLt_total z.key c.key with h3 | h3 | h3
      · exact .inl ⟨h1, h3⟩
      · exact absurd h3 h2
      · exact .inr (.inr ⟨h1, h3⟩)
/-! ### values cut short -/
/-- was a turn's place there ahead of it? -/
def goneN (i n : Nat) : Bool := decide (∃ k, k < i ∧ (k * 7 + 3) % n = (i * 7 + 3) % n)
theorem tdiv_nat {i : Nat} (hi : i ≤ 1000000) (k : Nat) : IntKind.i64.wrap ((i : Int).tdiv (k : Int)) = ((i / k : Nat) : Int) := by
  have h1 : (i : Int).tdiv (k : Int) = ((i / k : Nat) : Int) := by rw [Int.tdiv_eq_ediv_of_nonneg (by omega)]; rfl
  have := Nat.div_le_self i k
  rw [h1]
  generalize i / k = q at *
  rw [wrap_i64 (by omega) (by omega)]
theorem tmod_nat (i k : Nat) : (i : Int).tmod (k : Int) = ((i % k : Nat) : Int) := by rw [Int.tmod_eq_emod_of_nonneg (by omega)]; rfl
end Go.Pl
end

section
namespace Go.Pl
open Go Go.Sx
/-- no cell of its key is as long -/
def Longer (x : Cell) (l : List Cell) : Prop := ∀ c ∈ l, c.key = x.key → (cellBytes c).length < (cellBytes x).length
/-- what Put comes to -/
def PutR (x : Cell) (g g' : Gone) (e : Int) : Prop :=
  (mayCell x = false ∧ e = 1 ∧ g' = g) ∨ (mayCell x = true ∧ e = 0 ∧ g'.2 = insC g.2 x ∧ ((∃ c ∈ g.2, c.key = x.key ∧ (cellBytes x).length ≤ (cellBytes c).length) → g'.1 = g.1)) ∨
  (mayCell x = true ∧ e = 4 ∧ g' = g ∧ 28 ≤ g.1.length ∧ 20 ≤ g.2.length ∧ Longer x g.2)
theorem RightT.putR {Q Q' : Pages} {g : Gone} (h : RightT Q g) {x : Cell} (hx : mayCell x = true) (hxf : x.val.f < 2 ^ 64 ∧ x.new.f < 2 ^ 64) (hp : putTop Q x = .ok Q') :
    ∃ g', RightT Q' g' ∧ g'.2 = insC g.2 x ∧ ((∃ c ∈ g.2, c.key = x.key ∧ (cellBytes x).length ≤ (cellBytes c).length) → g'.1 = g.1) := by
  by_cases hc : ∃ c ∈ g.2, c.key = x.key ∧ (cellBytes x).length ≤ (cellBytes c).length
  · obtain ⟨c, hc1, hc2, hc3⟩ := hc
    obtain ⟨Q2, g', h1, h2, h3, h4⟩ := h.place hx hxf hc1 hc2 hc3
    rw [hp] at h1; injection h1 with h1; subst h1
    exact ⟨g', h2, put_is h.rising h2.rising h3, fun _ => h4⟩
  · rcases h.put hx hxf with ⟨Q2, g', h1, h2, h3⟩ | ⟨h1, _⟩
    · rw [hp] at h1; injection h1 with h1; subst h1
      exact ⟨g', h2, put_is h.rising h2.rising h3, fun h => absurd h hc⟩
    · rw [hp] at h1; cases h1
theorem RightT.putE {Q : Pages} {g : Gone} (h : RightT Q g) {x : Cell} (hx : mayCell x = true) (hxf : x.val.f < 2 ^ 64 ∧ x.new.f < 2 ^ 64) {e : Int} (hp : putTop Q x = .error e) :
    e = 4 ∧ 28 ≤ g.1.length ∧ 20 ≤ g.2.length ∧ Longer x g.2 := by
  rcases h.put hx hxf with ⟨Q2, g', h1, _⟩ | ⟨h1, h2, h3⟩
  · rw [hp] at h1; cases h1
  · rw [hp] at h1; injection h1 with h1
    refine ⟨h1, h2, h3, fun c hc hk => ?_⟩
    refine Nat.lt_of_not_le fun hl => ?_
    obtain ⟨Q2, g', h4, _⟩ := h.place hx hxf hc hk hl
    rw [hp] at h4; cases h4
theorem RightT.delR {Q Q' : Pages} {g : Gone} (h : RightT Q g) {k : ByteArray} {has : Bool} (hp : delTop Q k = .ok (has, Q')) : ∃ g', RightT Q' g' ∧ g'.2 = cutC g.2 k ∧ has = (getC g.2 k).isSome ∧ g'.1.length ≤ g.1.length := by
  rcases h.del k with ⟨h1, h2⟩ | ⟨Q2, g', h1, h2, h3, h4, h5⟩
  · rw [hp] at h1; injection h1 with h1; injection h1 with h1 h3; subst h1 h3
    exact ⟨g, h, (cutC_none h2).symm, by rw [getC_not h2]; rfl, Nat.le_refl _⟩
  · rw [hp] at h1; injection h1 with h1; injection h1 with h1 h6; subst h1 h6
    exact ⟨g', h2, cut_is h.rising h2.rising h3, (getC_some.2 h4).symm, h5⟩
theorem RightT.delE {Q : Pages} {g : Gone} (h : RightT Q g) {k : ByteArray} {e : Int} : delTop Q k ≠ .error e := by
  rcases h.del k with ⟨h1, _⟩ | ⟨Q2, g', h1, _⟩ <;> rw [h1] <;> intro h <;> cases h
theorem RightT.getR {Q : Pages} {g : Gone} (h : RightT Q g) {k : ByteArray} {o : Option Cell} (hp : getTop (pgOf Q) k = .ok o) : o = getC g.2 k := by
  obtain ⟨o2, h1, h2⟩ := h.get k
  rw [hp] at h1; injection h1 with h1; subst h1
  exact getC_is h.rising h2
theorem RightT.getE {Q : Pages} {g : Gone} (h : RightT Q g) {k : ByteArray} {e : Int} : getTop (pgOf Q) k ≠ .error e := by
  obtain ⟨o2, h1, h2⟩ := h.get k
  rw [h1]; intro h; cases h
/-- cells as they may be laid -/
def GoodL (l : List Cell) : Prop := ∀ c ∈ l, mayCell c = true ∧ c.val.f < 2 ^ 64 ∧ c.new.f < 2 ^ 64
theorem insC_mem {l : List Cell} (h : rising (keysOf l)) {x c : Cell} : c ∈ insC l x ↔ c = x ∨ (c ∈ l ∧ c.key ≠ x.key) := (insC_put h x).2 c
theorem insC_rising {l : List Cell} (h : rising (keysOf l)) (x : Cell) : rising (keysOf (insC l x)) := (insC_put h x).1
theorem insC_len_le (l : List Cell) (x : Cell) : (insC l x).length ≤ l.length + 1 := by
  unfold insC
  dsimp only
  split
  · rw [List.length_set]; omega
  · exact Nat.le_of_eq (insAt_len ..)
theorem all_in (l : List Cell) : (l.filter fun c => keyIn c.key ⟨#[]⟩ ⟨#[]⟩) = l := List.filter_eq_self.2 fun _ _ => in_all
theorem RightT.small {Q : Pages} {g : Gone} (h : RightT Q g) : g.2.length ≤ 8192 := by
  have := (allT_len h.all).2
  exact this
theorem TrIn.small {sT b : Nat} {P : Value} {I : Chunk → Prop} {Qb : Pages} {g : Gone} {H : Chunk} (h : TrIn sT b P I Qb g H) : g.1.length ≤ 30 ∧ g.2.length ≤ 8192 ∧ rising (keysOf g.2) ∧ g.1.Nodup ∧ (∀ m ∈ g.1, mayUse m) := by
  obtain ⟨Q, _, h⟩ := h
  exact ⟨h.few, h.small, h.rising, h.nodup, h.may⟩
theorem TrIn.any {sT b : Nat} {P : Value} {I : Chunk → Prop} {Qb : Pages} {g : Gone} {H : Chunk} (h : TrIn sT b P I Qb g H) (h0 : 0 < g.2.length) : 0 < g.1.length := by
  obtain ⟨Q, _, h⟩ := h
  rcases Nat.eq_zero_or_pos g.1.length with h1 | h1
  · have := h.some (List.length_eq_zero_iff.1 h1); rw [this] at h0; exact absurd h0 (Nat.lt_irrefl 0)
  · exact h1
theorem TrIn.nil {sT b : Nat} {P : Value} {I : Chunk → Prop} {Qb : Pages} {g : Gone} {H : Chunk} (h : TrIn sT b P I Qb g H) (h0 : g.2 = []) : g = ([], []) := by
  obtain ⟨Q, _, h⟩ := h
  exact h.none h0
def noP : Pages := fun _ => noughts 256
theorem noP_long : Long noP := fun _ _ => noughts_length 256
end Go.Pl
end

section
namespace Go.Sx
open Go
section
variable [Outer] {X : Cx} {k : Kont} {R : Reg} {hs : List Chunk} {ops : Array Oper} {l : List Oper} {T : Tab} {d ty' : Nat} {pos : String} {after : Array Edge} {gd : Option (Nat × Bool)}
/-- x == x, of a float that is a number -/
theorem OT.feq {x y : Operand} {t t2 : Nat} {u : Nat} (hu : nanN u = false) (hg : grd ops R gd = some true) (hx : ev R x = some (.float .f64 u)) (hy : ev R y = some (.float .f64 u)) (hdn : Nat.ble (d + 1) X.n = true)
    (h : OT X ops l k ((d, .bool true) :: R) hs) : OT X ops (⟨some d, .binOp .eql t x y t2, ty', pos, after, gd⟩ :: l) k R hs := by
  refine OT.value hg rfl hdn fun a w ha hm => ⟨_, hs, w, ?_, hm, h⟩
  have h1 := order_self u
  rw [hu] at h1
  have h2 : (FloatKind.f64.format.order u u == some .eq) = true := by
    unfold bne at h1; simpa using h1
  simp only [execOp, ha.ev hx, ha.ev hy]
  simp [eqGuard, binOp, Op.floatCmp, h2]
end
end Go.Sx
namespace Go.Pl
open Go Go.Sx
def kA : ByteArray := ⟨#[97]⟩
def kB : ByteArray := ⟨#[98]⟩
def cA : Cell := ⟨kA, ⟨2, 0, ⟨#[120]⟩⟩, 0, noVl⟩
def cB : Cell := ⟨kB, ⟨1, 4611686018427387904, ⟨#[]⟩⟩, 0, noVl⟩
theorem two_num : nanN 4611686018427387904 = false := by unfold nanN; decide
theorem begun1 {g : Gone} {e : Int} (h : PutR cB ([], []) g e) : e = 0 ∧ g.2 = [cB] := by
  have hm : mayCell cB = true := by decide
  rcases h with ⟨h, _⟩ | ⟨_, h1, h2, _⟩ | ⟨_, _, _, h, _⟩
  · rw [hm] at h; cases h
  · exact ⟨h1, h2⟩
  · exact absurd h (by decide)
theorem begun2 {g g' : Gone} {e : Int} (hg : g.2 = [cB]) (h : PutR cA g g' e) : e = 0 ∧ g'.2 = [cA, cB] := by
  have hm : mayCell cA = true := by decide
  rcases h with ⟨h, _⟩ | ⟨_, h1, h2, _⟩ | ⟨_, _, _, _, h, _⟩
  · rw [hm] at h; cases h
  · refine ⟨h1, ?_⟩
    rw [h2, hg, ← lawPut_is (l := [cB]) (c := cA) (show rising [kB] from List.pairwise_singleton _ _)]; decide
  · rw [hg] at h; exact absurd h (by decide)
theorem begun3 {g g' : Gone} {e : Int} (h : PutR noCell g g' e) : e = 1 := by
  have hm : mayCell noCell = false := by decide
  rcases h with ⟨_, h, _⟩ | ⟨h, _⟩ | ⟨h, _⟩
  · exact h
  · rw [hm] at h; cases h
  · rw [hm] at h; cases h
theorem begun_get : getC [cA, cB] kB = some cB := by decide
theorem begun_has : getC [cA, cB] kA = some cA := by decide
end Go.Pl
end

section
namespace Go.Pl
open Go Go.Sx
def fillL (f : Nat → Cell) : Nat → List Cell
  | 0 => []
  | i + 1 => insC (fillL f i) (f i)
theorem fillL_rising (f : Nat → Cell) : ∀ i, rising (keysOf (fillL f i))
  | 0 => List.Pairwise.nil
  | i + 1 => insC_rising (fillL_rising f i) _
theorem fillL_mem {f : Nat → Cell} : ∀ {i : Nat} {c : Cell}, c ∈ fillL f i → ∃ j, j < i ∧ c = f j
  | 0, c, h => by cases h
  | i + 1, c, h => by
    rcases (insC_mem (fillL_rising f i)).1 h with h | ⟨h, _⟩
    · exact ⟨i, by omega, h⟩
    · obtain ⟨j, h1, h2⟩ := fillL_mem h; exact ⟨j, by omega, h2⟩
theorem fillL_has {f : Nat → Cell} : ∀ {i j : Nat}, j < i → (∀ k, j < k → k < i → (f k).key ≠ (f j).key) → f j ∈ fillL f i
  | 0, j, h, _ => by omega
  | i + 1, j, h, hk => by
    refine (insC_mem (fillL_rising f i)).2 ?_
    by_cases e : j = i
    · exact .inl (by rw [e])
    · exact .inr ⟨fillL_has (by omega) fun k h1 h2 => hk k h1 (by omega), fun h2 => hk i (by omega) (by omega) h2.symm⟩
theorem put_may {x : Cell} {g g' : Gone} {e : Int} (hm : mayCell x = true) (h : PutR x g g' e) : (e = 0 ∧ g'.2 = insC g.2 x) ∨ (e = 4 ∧ g' = g ∧ 28 ≤ g.1.length ∧ 20 ≤ g.2.length) := by
  rcases h with ⟨h, _⟩ | ⟨_, h1, h2, _⟩ | ⟨_, h1, h2, h3, h4, _⟩
  · rw [hm] at h; cases h
  · exact .inl ⟨h1, h2⟩
  · exact .inr ⟨h1, h2, h3, h4⟩
/-- a cell of one version -/
def oneC' (k v : Nat) : Cell := ⟨keyN k, valN v, 0, noVl⟩
end Go.Pl
end

section
namespace Go.Pl
open Go Go.Sx
/-- the cells from the i-th one on are left -/
def LeftC (f : Nat → Cell) (i n : Nat) (l : List Cell) : Prop := ∀ c, c ∈ l ↔ ∃ j, i ≤ j ∧ j < n ∧ c = f j
def KeysApart (f : Nat → Cell) (n : Nat) : Prop := ∀ i j, i < n → j < n → (f i).key = (f j).key → i = j
theorem LeftC.fill {f : Nat → Cell} {n : Nat} (h : KeysApart f n) : LeftC f 0 n (fillL f n) := fun c => by
  constructor
  · intro hc; obtain ⟨j, h1, h2⟩ := fillL_mem hc; exact ⟨j, by omega, h1, h2⟩
  · rintro ⟨j, _, h1, rfl⟩
    exact fillL_has h1 fun k h2 h3 e => by have := h k j h3 h1 e; omega
theorem LeftC.has {f : Nat → Cell} {i n : Nat} {l : List Cell} (h : LeftC f i n l) (hi : i < n) : (getC l (f i).key).isSome = true :=
  getC_some.2 ⟨f i, (h _).2 ⟨i, Nat.le_refl _, hi, rfl⟩, rfl⟩
theorem LeftC.cut {f : Nat → Cell} {i n : Nat} {l : List Cell} (h : LeftC f i n l) (hk : KeysApart f n) (hi : i < n) : LeftC f (i + 1) n (cutC l (f i).key) := fun c => by
  rw [cutC_is l (f i).key c, h c]
  constructor
  · rintro ⟨⟨j, h1, h2, rfl⟩, h3⟩
    exact ⟨j, by have : j ≠ i := fun e => h3 (by rw [e]); omega, h2, rfl⟩
  · rintro ⟨j, h1, h2, rfl⟩
    exact ⟨⟨j, by omega, h2, rfl⟩, fun e => by have := hk j i h2 hi e; omega⟩
theorem LeftC.none {f : Nat → Cell} {n : Nat} {l : List Cell} (h : LeftC f n n l) : l = [] := by
  refine List.eq_nil_iff_forall_not_mem.2 fun c hc => ?_
  obtain ⟨j, h1, h2, _⟩ := (h c).1 hc
  omega
/-! ### an array of numbers -/
/-! ### numbers by a prime -/
end Go.Pl
end

section
namespace Go.Sx
open Go
section
variable [Outer] {α : Type} {enc : α → List Value} {sz : Nat} {hs : List Chunk} {T : Tab} {t : Nat}
/-- a struct in what lies at ad, loaded -/
theorem El.ld_sub {P : Program} (hT : T.ok P) {x : α} {b o : Nat} (h : El enc sz hs x ⟨b, o, none⟩) {offs : List (Nat × Nat)} {m : Nat} (ht : ty T t = some (.struct offs m)) (j : Nat) {vs : List Value} (hv : ((enc x).drop j).take m = vs) (hj : j + m ≤ sz) :
    Ld P hs t ⟨b, o + j, none⟩ (.agg ⟨vs⟩) := by
  obtain ⟨h1, b', o', cs, t', fr, ha, hb, hr⟩ := h
  injection ha with e1 e2
  subst e1; subst e2
  refine Ld.struct hT ht hb ?_ (by rw [← hv, List.length_take, List.length_drop]; omega)
  rw [← hv, ← hr, List.drop_take, List.drop_drop, List.take_take, Nat.min_eq_left (by omega)]
end
end Go.Sx
namespace Go.Pl
open Go Go.Sx
/-! ### a cell in place of another one -/
theorem insC_set {l : List Cell} (h : rising (keysOf l)) {i : Nat} {c x : Cell} (hi : l[i]? = some c) (hk : x.key = c.key) : insC l x = l.set i x := by
  have hks : keysOf (l.set i x) = keysOf l := by
    unfold keysOf
    rw [List.map_set, hk]
    obtain ⟨hlt, rfl⟩ := List.getElem?_eq_some_iff.1 hi
    apply List.ext_getElem?
    intro j
    rw [List.getElem?_set]
    by_cases e : i = j
    · subst e; rw [if_pos rfl, if_pos (by simpa using hlt), List.getElem?_map, List.getElem?_eq_getElem hlt]; rfl
    · rw [if_neg e]
  refine (put_is h (by rw [hks]; exact h) fun z => ?_).symm
  obtain ⟨hlt, hc⟩ := List.getElem?_eq_some_iff.1 hi
  constructor
  · intro hz
    obtain ⟨j, hj⟩ := List.getElem?_of_mem hz
    rw [List.getElem?_set] at hj
    by_cases e : i = j
    · rw [if_pos e, if_pos hlt] at hj; injection hj with hj; exact .inl hj.symm
    · rw [if_neg e] at hj
      refine .inr ⟨List.mem_of_getElem? hj, fun ek => ?_⟩
      rw [hk] at ek
      rcases Nat.lt_or_gt_of_ne e with h1 | h1
      · have := lt_at h h1 (keys_at hi) (keys_at hj); rw [ek, kLt_irrefl] at this; cases this
      · have := lt_at h h1 (keys_at hj) (keys_at hi); rw [ek, kLt_irrefl] at this; cases this
  · rintro (rfl | ⟨hz, hne⟩)
    · exact List.mem_of_getElem? (i := i) (by rw [List.getElem?_set, if_pos rfl, if_pos hlt])
    · obtain ⟨j, hj⟩ := List.getElem?_of_mem hz
      have e : i ≠ j := fun e => by subst e; rw [hi] at hj; injection hj with hj; exact hne (by rw [← hj, hk])
      exact List.mem_of_getElem? (i := j) (by rw [List.getElem?_set_ne e]; exact hj)
/-- cells of one length -/
def OfLen (l v : Nat) (L : List Cell) : Prop := ∀ c ∈ L, ∃ j, j < l ∧ c = oneC' j v
theorem OfLen.put {l v : Nat} {L : List Cell} (h : OfLen l v L) (hr : rising (keysOf L)) : OfLen (l + 1) v (insC L (oneC' l v)) := fun c hc => by
  rcases (insC_mem hr).1 hc with rfl | ⟨hc, _⟩
  · exact ⟨l, by omega, rfl⟩
  · obtain ⟨j, hj, e⟩ := h c hc; exact ⟨j, by omega, e⟩
/-- the first of them are shorter now -/
def Shorter (n s v i : Nat) (L : List Cell) : Prop := ∀ (q : Nat) (c : Cell), L[q]? = some c → ∃ j, j < n ∧ c = oneC' j (if q < i then s else v)
theorem Shorter.zero {n s v : Nat} {L : List Cell} (h : OfLen n v L) : Shorter n s v 0 L := fun q c hc => by
  obtain ⟨j, hj, e⟩ := h c (List.mem_of_getElem? hc)
  exact ⟨j, hj, by rw [if_neg (by omega)]; exact e⟩
theorem Shorter.step {n s v i k : Nat} {L : List Cell} (h : Shorter n s v i L) (hi : L[i]? = some (oneC' k v)) (hk : k < n) : Shorter n s v (i + 1) (L.set i (oneC' k s)) := fun q c hc => by
  rw [List.getElem?_set] at hc
  by_cases e : i = q
  · subst e
    rw [if_pos rfl, if_pos (List.getElem?_eq_some_iff.1 hi).1] at hc
    injection hc with hc
    exact ⟨k, hk, by rw [if_pos (by omega)]; exact hc.symm⟩
  · rw [if_neg e] at hc
    obtain ⟨j, hj, e2⟩ := h q c hc
    refine ⟨j, hj, e2.trans ?_⟩
    congr 1
    by_cases h1 : q < i
    · rw [if_pos h1, if_pos (by omega)]
    · rw [if_neg h1, if_neg (by omega)]
def FlL (L : List Cell) : Prop := ∀ x ∈ L, x.val.f < 2 ^ 64 ∧ x.new.f < 2 ^ 64
theorem FlL.put {L : List Cell} (h : FlL L) (hr : rising (keysOf L)) {x : Cell} (hx : x.val.f < 2 ^ 64 ∧ x.new.f < 2 ^ 64) : FlL (insC L x) := fun c hc => by
  rcases (insC_mem hr).1 hc with rfl | ⟨hc, _⟩
  · exact hx
  · exact h c hc
theorem FlL.cut {L : List Cell} (h : FlL L) (k : ByteArray) : FlL (cutC L k) := fun c hc => h c ((cutC_is L k c).1 hc).1
/-! ### by sevens -/
/-- what is left behind i turns by sevens -/
def Sevens (L : List Cell) (i : Nat) (l : List Cell) : Prop := ∀ c, c ∈ l ↔ ∃ q, L[q]? = some c ∧ ¬ ∃ k, k < i ∧ (k * 7 + 3) % L.length = q
theorem at_inj {L : List Cell} (h : rising (keysOf L)) {p q : Nat} {a b : Cell} (ha : L[p]? = some a) (hb : L[q]? = some b) (hk : a.key = b.key) : p = q := by
  rcases Nat.lt_trichotomy p q with h1 | h1 | h1
  · have := lt_at h h1 (keys_at ha) (keys_at hb); rw [hk, kLt_irrefl] at this; cases this
  · exact h1
  · have := lt_at h h1 (keys_at hb) (keys_at ha); rw [hk, kLt_irrefl] at this; cases this
theorem Sevens.has {L l : List Cell} {i : Nat} (hs : Sevens L i l) (h : rising (keysOf L)) {c : Cell} (hc : L[(i * 7 + 3) % L.length]? = some c) : (getC l c.key).isSome = !goneN i L.length := by
  rw [Bool.eq_iff_iff, getC_some, Bool.not_eq_true', goneN, decide_eq_false_iff_not]
  constructor
  · rintro ⟨z, hz, hk⟩
    obtain ⟨q, hq, hn⟩ := (hs z).1 hz
    have := at_inj h hq hc hk
    subst this; exact hn
  · intro hn; exact ⟨c, (hs c).2 ⟨_, hc, hn⟩, rfl⟩
theorem Sevens.cut {L l : List Cell} {i : Nat} (hs : Sevens L i l) (h : rising (keysOf L)) {c : Cell} (hc : L[(i * 7 + 3) % L.length]? = some c) : Sevens L (i + 1) (cutC l c.key) := fun z => by
  rw [cutC_is l c.key z, hs z]
  constructor
  · rintro ⟨⟨q, hq, hn⟩, hk⟩
    refine ⟨q, hq, ?_⟩
    rintro ⟨k, h1, h2⟩
    by_cases e : k = i
    · subst e
      subst h2; rw [hc] at hq; injection hq with hq; exact hk (by rw [hq])
    · exact hn ⟨k, by omega, h2⟩
  · rintro ⟨q, hq, hn⟩
    refine ⟨⟨q, hq, fun ⟨k, h1, h2⟩ => hn ⟨k, by omega, h2⟩⟩, fun hk => ?_⟩
    exact hn ⟨i, by omega, (at_inj h hc hq hk.symm)⟩
/-- what is left is from the i-th cell on -/
def FromOn (L : List Cell) (i : Nat) (l : List Cell) : Prop := ∀ c ∈ l, ∃ q, i ≤ q ∧ L[q]? = some c
theorem Sevens.from {L l : List Cell} {i : Nat} (hs : Sevens L i l) : FromOn L 0 l := fun c hc => by
  obtain ⟨q, hq, _⟩ := (hs c).1 hc; exact ⟨q, Nat.zero_le _, hq⟩
theorem FromOn.cut {L l : List Cell} {i : Nat} (h : FromOn L i l) {c : Cell} (hc : L[i]? = some c) : FromOn L (i + 1) (cutC l c.key) := fun z hz => by
  obtain ⟨h1, h2⟩ := (cutC_is l c.key z).1 hz
  obtain ⟨q, hq, hqz⟩ := h z h1
  refine ⟨q, ?_, hqz⟩
  rcases Nat.eq_or_lt_of_le hq with e | e
  · subst e; rw [hc] at hqz; injection hqz with hqz; exact absurd (by rw [hqz]) h2
  · exact e
theorem FromOn.none {L l : List Cell} (h : FromOn L L.length l) : l = [] := by
  refine List.eq_nil_iff_forall_not_mem.2 fun c hc => ?_
  obtain ⟨q, hq, hqc⟩ := h c hc
  have := (List.getElem?_eq_some_iff.1 hqc).1
  omega
end Go.Pl
end
