/- How far the log was forced ahead of the pages, plainly. No program in sight. -/
import Derived.Test.YtoalhcodigpgkaaPhB
namespace Go.Pl
open Go Go.Sx

/-- each page's record is forced, or its frame is dirty and knows it -/
def LInv (ls : Int → Int) (fs : List Fr) (l : Log) : Prop :=
  ∀ no, mayPage no → ls no ≤ l.forced ∨ ((∃ e ∈ l.ends, ls no = (e : Int)) ∧ ∃ f ∈ fs, f.no = no ∧ f.dirty = true ∧ ls no ≤ f.lsn)
theorem far_ge {l : Log} (hl : l.ok) {to : Int} {e : Nat} (he : e ∈ l.ends) (hto : (e : Int) ≤ to) : e ≤ l.far to := by
  obtain ⟨i, hi, rfl⟩ := List.getElem_of_mem he
  have hlt : i < lead to l.ends := by
    refine Classical.byContradiction fun h => ?_
    have hle := lead_le to l.ends
    have hend : l.ends[lead to l.ends]? = some (l.ends[lead to l.ends]'(by omega)) := List.getElem?_eq_getElem (by omega)
    have := lead_end hend
    have hm : l.ends[lead to l.ends]'(by omega) ≤ l.ends[i] := by
      rcases Nat.lt_or_ge (lead to l.ends) i with h1 | h1
      · exact Nat.le_of_lt (List.pairwise_iff_getElem.1 hl.sorted _ _ _ _ h1)
      · have : lead to l.ends = i := by omega
        simp only [this]; exact Nat.le_refl _
    omega
  have hle := lead_le to l.ends
  rw [Log.far_eq]
  unfold Log.farAt
  rw [if_neg (by omega), List.getD_eq_getElem?_getD, List.getElem?_eq_getElem (by omega)]
  simp only [Option.getD_some]
  rcases Nat.lt_or_ge i (lead to l.ends - 1) with h1 | h1
  · exact Nat.le_of_lt (List.pairwise_iff_getElem.1 hl.sorted _ _ _ _ h1)
  · have : i = lead to l.ends - 1 := by omega
    simp only [this]; exact Nat.le_refl _
theorem force_ends {l : Log} {d : Dev} (h : Free d) (hl : l.ok) (hs : 0 ≤ l.sup.slot ∧ l.sup.slot ≤ 1) (hb : l.bad = false) (to : Int) :
    l.forced ≤ (l.force d to).1.forced ∧ (∀ e ∈ l.ends, (e : Int) ≤ to → e ≤ (l.force d to).1.forced) ∧ (∀ e ∈ l.ends, e ≤ (l.force d to).1.forced ∨ e ∈ (l.force d to).1.ends) := by
  obtain ⟨f1, f2, _⟩ := Log.force_free h hl hs hb to
  have hr := Log.farAt_range hl (lead_le to l.ends)
  rw [← Log.far_eq] at hr
  refine ⟨by rw [f2]; exact hr.1, fun e he hto => by rw [f2]; exact far_ge hl he hto, fun e he => ?_⟩
  by_cases hto : (e : Int) ≤ to
  · left; rw [f2]; exact far_ge hl he hto
  · have hmem : e ∈ l.ends.drop (lead to l.ends) := by
      obtain ⟨i, hi, rfl⟩ := List.getElem_of_mem he
      have hge : lead to l.ends ≤ i := by
        refine Classical.byContradiction fun hlt => hto ?_
        exact lead_at (by omega) (List.getElem?_eq_getElem hi)
      have e1 : (l.ends.drop (lead to l.ends))[i - lead to l.ends]? = some l.ends[i] := by
        rw [List.getElem?_drop, show lead to l.ends + (i - lead to l.ends) = i by omega, List.getElem?_eq_getElem hi]
      exact List.mem_of_getElem? e1
    unfold Log.force
    split
    · exact .inr he
    · split
      · exact .inr he
      · split
        · exact .inr he
        · exact .inr hmem
theorem topLsn_ge {l : List Fr} {f : Fr} (h : f ∈ l) : f.lsn ≤ topLsn l := by
  have key : ∀ (l : List Fr) (m : Int), m ≤ l.foldl (fun m f => max m f.lsn) m ∧ ∀ f ∈ l, f.lsn ≤ l.foldl (fun m f => max m f.lsn) m := by
    intro l
    induction l with
    | nil => intro m; exact ⟨Int.le_refl _, by simp⟩
    | cons x l ih =>
      intro m
      obtain ⟨h1, h2⟩ := ih (max m x.lsn)
      rw [List.foldl_cons]
      refine ⟨by omega, fun f hf => ?_⟩
      rcases List.mem_cons.1 hf with rfl | hf
      · omega
      · exact h2 f hf
  exact (key l 0).2 f h
theorem LInv.perm {ls : Int → Int} {fs gs : List Fr} {l : Log} (h : LInv ls fs l) (hp : fs.Perm gs) : LInv ls gs l := fun no hn => (h no hn).imp id fun ⟨h1, f, hf, h2⟩ => ⟨h1, f, hp.subset hf, h2⟩
theorem LInv.clean {now : Int → List UInt8} {ls : Int → Int} {fs : List Fr} {l : Log} {d : Dev} (h : PInv now fs l d) (hL : LInv ls fs l) (is : List Nat) : LInv ls (cleaned fs is) (poolClean fs is l d).2.1 ∧ l.forced ≤ (poolClean fs is l d).2.1.forced := by
  by_cases his : is = []
  · subst his
    unfold poolClean
    rw [if_pos rfl]
    exact ⟨hL, Nat.le_refl _⟩
  · obtain ⟨e1, e2, e3⟩ := force_ends h.free h.lok h.slot h.bad (topLsn (picks fs is))
    have hlog : (poolClean fs is l d).2.1 = (l.force d (topLsn (picks fs is))).1 := by
      unfold poolClean
      rw [if_neg his]
      split
      · rfl
      · split
        · rfl
        · split <;> rfl
    rw [hlog]
    refine ⟨fun no hn => ?_, e1⟩
    rcases hL no hn with h0 | ⟨⟨e, he, hle⟩, f, hf, hfn, hfd, hfl⟩
    · left; omega
    · obtain ⟨k, hk, hkf⟩ := List.getElem_of_mem hf
      have hg : fs[k]? = some f := by rw [List.getElem?_eq_getElem hk, hkf]
      by_cases hki : k ∈ is
      · left
        have := topLsn_ge (mem_picks hki hg)
        have := e2 e he (by omega)
        omega
      · have hm : (cleaned fs is)[k]? = some f := by rw [cleaned_get, if_neg hki, hg]
        rcases e3 e he with h1 | h1
        · left; omega
        · exact .inr ⟨⟨e, h1, hle⟩, f, List.mem_of_getElem? hm, hfn, hfd, hfl⟩
theorem LInv.cut {ls : Int → Int} {fs : List Fr} {l : Log} (hL : LInv ls fs l) {k : Nat} {g : Fr} (hg : fs[k]? = some g) (hc : g.dirty = false) : LInv ls (Go.Pl.cut fs k) l := fun no hn => (hL no hn).imp id fun ⟨h1, f, hf, h2, h3, h4⟩ => by
  rcases List.mem_cons.1 ((cut_perm hg).subset hf) with rfl | hf
  · rw [hc] at h3; cases h3
  · exact ⟨h1, f, hf, h2, h3, h4⟩
theorem LInv.step {now : Int → List UInt8} {ls : Int → Int} {fs : List Fr} {l : Log} {d : Dev} (h : PInv now fs l d) (hL : LInv ls fs l) (hl : 1 < fs.length) : LInv ls (roomStep fs l d).1 (roomStep fs l d).2.1 := by
  unfold roomStep
  split
  · obtain ⟨c1, c2, c3, c4, c5⟩ := h.clean [0]
    rw [if_neg (by omega)]
    obtain ⟨g, hg⟩ := nth (l := fs) (i := 0) (by omega)
    have hg2 : (cleaned fs [0])[0]? = some g.clean := by rw [cleaned_get, if_pos (by simp), hg]; rfl
    rw [c2]
    exact (LInv.clean h hL [0]).1.cut hg2 rfl
  · rename_i hc
    obtain ⟨i, hi, hil⟩ := firstAt_some hc
    rw [List.length_take] at hil
    obtain ⟨g, hg⟩ := nth (l := fs) (i := i) (by omega)
    have hgt : (fs.take (fs.length - 1))[i]? = some g := by rw [List.getElem?_take, if_pos (by omega)]; exact hg
    have hq := firstAt_true (q := isClean) (k := 0) (i := i) (by rw [hi]; simp) hgt
    rw [hi, Int.toNat_natCast]
    exact hL.cut hg (by unfold isClean at hq; simpa using hq)
theorem LInv.rooms {now : Int → List UInt8} {ls : Int → Int} {n : Nat} (hn : 1 ≤ n) : ∀ (k : Nat) {fs : List Fr} {l : Log} {d : Dev}, PInv now fs l d → LInv ls fs l → fs.length = n + k → LInv ls (poolRoom n k fs l d).1 (poolRoom n k fs l d).2.1 := by
  intro k
  induction k with
  | zero => intro fs l d _ hL _; exact hL
  | succ k ih =>
    intro fs l d h hL hl
    obtain ⟨s1, s2, _⟩ := h.step (by omega)
    have hsl := (roomStep_last (fs := fs) (l := l) (d := d) (by omega)).2 s1
    rw [poolRoom, if_neg (by omega)]
    exact ih s2 (hL.step h (by omega)) (by rw [hsl]; omega)
theorem LInv.room {now : Int → List UInt8} {ls : Int → Int} {n : Nat} (hn : 1 ≤ n) {fs : List Fr} {l : Log} {d : Dev} (h : PInv now fs l d) (hL : LInv ls fs l) : LInv ls (Go.Pl.room n fs l d).1 (Go.Pl.room n fs l d).2.1 := by
  by_cases hl : fs.length ≤ n
  · rw [room_small hl]; exact hL
  · unfold Go.Pl.room; exact hL.rooms hn _ h (by omega)
/-! ### the calls -/
def updI (ls : Int → Int) (no : Int) (n : Int) : Int → Int := fun k => if k = no then n else ls k
theorem LInv.put {now : Int → List UInt8} {ls : Int → Int} {fs : List Fr} {l : Log} {d : Dev} (h : PInv now fs l d) (hL : LInv ls fs l) (hf : fs.length ≤ 6) {no : Int} (hn : mayPage no) {b : List UInt8} (hb : b.length = 256) {e : Nat} (he : e ∈ l.ends) :
    LInv (updI ls no (e : Int)) (poolPut fs l d no b (e : Int)).2.1 (poolPut fs l d no b (e : Int)).2.2.1 := by
  have key : PInv (upd now no b) (putAt fs no b (e : Int)) l d ∧ LInv (updI ls no (e : Int)) (putAt fs no b (e : Int)) l := by
    refine ⟨?_, ?_⟩
    · have := h.put hf hn hb (e : Int)
      -- the pool's state ahead of the room
      exact PInv.putAt h hf hn hb (e : Int)
    · unfold putAt
      split
      · intro k hk
        unfold updI
        by_cases hke : k = no
        · rw [if_pos hke]
          exact .inr ⟨⟨e, he, rfl⟩, ⟨no, b, true, max 0 (e : Int)⟩, by simp, hke.symm, rfl, by dsimp only; omega⟩
        · rw [if_neg hke]
          exact (hL k hk).imp id fun ⟨h1, f, hf', h2⟩ => ⟨h1, f, by simp [hf'], h2⟩
      · rename_i h0
        obtain ⟨us, t, ea, ht, hp⟩ := asked_some h0
        rw [ea]
        simp only [List.dropLast_concat, lastFr, List.getLast?_concat, Option.getD_some]
        intro k hk
        unfold updI
        by_cases hke : k = no
        · rw [if_pos hke]
          exact .inr ⟨⟨e, he, rfl⟩, ⟨t.no, b, true, max t.lsn (e : Int)⟩, by simp, by rw [hke]; exact ht, rfl, by dsimp only; omega⟩
        · rw [if_neg hke]
          refine (hL k hk).imp id fun ⟨h1, f, hf', h2, h3⟩ => ⟨h1, f, ?_, h2, h3⟩
          rcases List.mem_append.1 (hp.subset hf') with hf' | hf'
          · simp [hf']
          · rw [List.mem_singleton] at hf'; subst hf'; exact absurd (h2.symm.trans ht) hke
  unfold poolPut
  rw [if_neg (by simpa using hn), if_neg (by omega)]
  exact key.2.room (n := 6) (by omega) key.1
theorem LInv.page {now : Int → List UInt8} {ls : Int → Int} {fs : List Fr} {l : Log} {d : Dev} (h : PInv now fs l d) (hL : LInv ls fs l) {no : Int} (hn : mayPage no) : LInv ls (poolPage fs l d no).2.2.1 (poolPage fs l d no).2.2.2.1 := by
  unfold poolPage
  rw [if_neg (by simpa using hn)]
  by_cases h0 : found fs no < 0
  · have hnot := found_not h0
    have hpg : pageNow d no = now no := h.on no hn fun f hf' he => absurd he (hnot f hf')
    have hrd := readPage_free h.free hn
    rw [if_pos h0, hrd, hpg]
    simp only
    rw [if_neg (by simp)]
    have hk := PInv.pageAt h hn h0
    have hLn : LInv ls (fs ++ [⟨no, now no, false, 0⟩]) l := fun k hk => (hL k hk).imp id fun ⟨h1, f, hf', h2⟩ => ⟨h1, f, by simp [hf'], h2⟩
    have := hLn.room (n := 6) (by omega) hk
    have he := (hk.room (n := 6) (by omega)).1
    rw [if_neg (by omega)]
    exact this
  · rw [if_neg h0]
    obtain ⟨us, t, e, ht, hp⟩ := asked_some h0
    dsimp only
    rw [e]
    exact hL.perm hp
end Go.Pl
