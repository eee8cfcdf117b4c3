/- BufAll's state, plainly: what was put, how far its log; what is dirty, in order. No program in sight. -/
import Derived.Test.YtoalhcodigpgkaaPhC
namespace Go.Pl
open Go Go.Sx

/-! ### a record more -/
theorem PInv.append {now : Int → List UInt8} {fs : List Fr} {l l' : Log} {d : Dev} (h : PInv now fs l d) (hok : l'.ok) (hb : l'.bad = false) (hs : l'.sup = l.sup) : PInv now fs l' d :=
  ⟨h.free, h.rest, hok, hb, by rw [hs]; exact h.slot, h.fr, h.on, h.nodup⟩
theorem LInv.append {ls : Int → Int} {fs : List Fr} {l l' : Log} {x : List Nat} (h : LInv ls fs l) (he : l'.ends = l.ends ++ x) (hf : l'.forced = l.forced) : LInv ls fs l' := fun no hn => by
  rw [hf, he]
  exact (h no hn).imp id fun ⟨⟨e, h1, h2⟩, h3⟩ => ⟨⟨e, by simp [h1], h2⟩, h3⟩
theorem PInv.flush {now : Int → List UInt8} {fs : List Fr} {l : Log} {d : Dev} (h : PInv now fs l d) {no : Int} (hn : mayPage no) :
    (poolFlush fs l d no).1 = 0 ∧ PInv now (poolFlush fs l d no).2.1 (poolFlush fs l d no).2.2.1 (poolFlush fs l d no).2.2.2 ∧ (poolFlush fs l d no).2.1.length = fs.length ∧ (poolFlush fs l d no).2.2.1.end_ = l.end_ ∧ (poolFlush fs l d no).2.2.1.base = l.base ∧ (poolFlush fs l d no).2.2.1.sup.turn ≤ l.sup.turn + 1 := by
  unfold poolFlush
  rw [if_neg (by simpa using hn)]
  split
  · exact ⟨rfl, h, rfl, rfl, rfl, Nat.le_succ _⟩
  · obtain ⟨c1, c2, c3, c4, c5⟩ := h.clean [(firstAt (isNoDirty no) 0 fs).toNat]
    rw [c2]
    exact ⟨c1, c3, cleaned_length _ _, c4, c5, poolClean_turn ..⟩
theorem LInv.flush {now : Int → List UInt8} {ls : Int → Int} {fs : List Fr} {l : Log} {d : Dev} (h : PInv now fs l d) (hL : LInv ls fs l) {no : Int} (hn : mayPage no) : LInv ls (poolFlush fs l d no).2.1 (poolFlush fs l d no).2.2.1 := by
  unfold poolFlush
  rw [if_neg (by simpa using hn)]
  split
  · exact hL
  · obtain ⟨c1, c2, c3, c4, c5⟩ := h.clean [(firstAt (isNoDirty no) 0 fs).toNat]
    rw [c2]
    exact (LInv.clean h hL _).1
theorem LInv.all {now : Int → List UInt8} {ls : Int → Int} {fs : List Fr} {l : Log} {d : Dev} (h : PInv now fs l d) (hL : LInv ls fs l) : LInv ls (poolAll fs l d).2.1 (poolAll fs l d).2.2.1 := by
  obtain ⟨c1, c2, c3, c4, c5⟩ := h.clean (dirtyAt 0 fs)
  unfold poolAll
  rw [c2]
  exact (LInv.clean h hL _).1

/-! ### what is dirty, in order -/
def below (l : List Int) (n : Int) : Nat := (l.filter (fun x => decide (x < n))).length
theorem below_all {l : List Int} {n : Int} (h : ∀ x ∈ l, x < n) : below l n = l.length := by
  unfold below; rw [List.filter_eq_self.2 (fun x hx => by simpa using h x hx)]
/-- in a rising list: what stands behind those below n -/
theorem below_step : ∀ {l : List Int} {n : Int}, l.Pairwise (· < ·) → (l[below l n]? = some n → below l (n + 1) = below l n + 1 ∧ n ∈ l) ∧ (l[below l n]? ≠ some n → below l (n + 1) = below l n ∧ n ∉ l) := by
  intro l
  induction l with
  | nil => intro n _; simp [below]
  | cons x l ih =>
    intro n hp
    obtain ⟨hx, hp'⟩ := List.pairwise_cons.1 hp
    obtain ⟨i1, i2⟩ := ih (n := n) hp'
    by_cases h : x < n
    · have e1 : below (x :: l) n = below l n + 1 := by unfold below; rw [List.filter_cons, if_pos (by simpa using h), List.length_cons]
      have e2 : below (x :: l) (n + 1) = below l (n + 1) + 1 := by unfold below; rw [List.filter_cons, if_pos (by simp; omega), List.length_cons]
      rw [e1, e2, List.getElem?_cons_succ]
      refine ⟨fun hh => ?_, fun hh => ?_⟩
      · obtain ⟨a, b⟩ := i1 hh; exact ⟨by omega, by simp [b]⟩
      · obtain ⟨a, b⟩ := i2 hh; exact ⟨by omega, by simp only [List.mem_cons, not_or]; exact ⟨by omega, b⟩⟩
    · have hge : ∀ y ∈ l, ¬ y < n := fun y hy => by have := hx y hy; omega
      have e0 : below l n = 0 := by unfold below; rw [List.filter_eq_nil_iff.2 (fun y hy => by simpa using hge y hy)]; rfl
      have e1 : below (x :: l) n = 0 := by unfold below at e0 ⊢; rw [List.filter_cons, if_neg (by simpa using h)]; exact e0
      rw [e1]
      refine ⟨fun hh => ?_, fun hh => ?_⟩
      · simp at hh
        subst hh
        have e2 : below l (x + 1) = 0 := by unfold below; rw [List.filter_eq_nil_iff.2 (fun y hy => by have := hx y hy; simp; omega)]; rfl
        have e3 : below (x :: l) (x + 1) = below l (x + 1) + 1 := by unfold below; rw [List.filter_cons, if_pos (by simp; omega), List.length_cons]
        exact ⟨by omega, by simp⟩
      · have hne : x ≠ n := fun he => hh (by simp [he])
        have hall : ∀ y ∈ x :: l, ¬ y < n + 1 := fun y hy => by
          rcases List.mem_cons.1 hy with he | hy
          · subst he; omega
          · have := hx y hy; omega
        have e2 : below (x :: l) (n + 1) = 0 := by unfold below; rw [List.filter_eq_nil_iff.2 (fun y hy => by simpa using hall y hy)]; rfl
        refine ⟨e2, ?_⟩
        simp only [List.mem_cons, not_or]
        exact ⟨fun he => hne he.symm, fun hm => by have := hx n hm; omega⟩
theorem poolDirty_rises {fs : List Fr} (h : (nos fs).Nodup) : (poolDirty fs).Pairwise (· < ·) := by
  have hd : (dirties fs).Nodup := by
    unfold dirties
    exact ((List.filter_sublist (p := fun f : Fr => f.dirty)).map Fr.no).nodup h
  have hn : (poolDirty fs).Nodup := (List.mergeSort_perm _ _).nodup_iff.2 hd
  have hs : (poolDirty fs).Pairwise (fun a b => decide (a ≤ b) = true) := List.pairwise_mergeSort (le := fun x y : Int => decide (x ≤ y)) (fun a b c h1 h2 => by simp at *; omega) (fun a b => by simp; omega) _
  exact (hs.and hn).imp fun ⟨h1, h2⟩ => by simp at h1; omega
theorem poolDirty_mem {fs : List Fr} {no : Int} : no ∈ poolDirty fs ↔ ∃ f ∈ fs, f.dirty = true ∧ f.no = no := by
  unfold poolDirty
  rw [(List.mergeSort_perm _ _).mem_iff]
  unfold dirties
  simp only [List.mem_map, List.mem_filter]
  constructor
  · rintro ⟨f, ⟨h1, h2⟩, h3⟩; exact ⟨f, h1, h2, h3⟩
  · rintro ⟨f, h1, h2, h3⟩; exact ⟨f, ⟨h1, h2⟩, h3⟩
/-- a page that is not dirty lasts, and its record, too -/
theorem PInv.lasts {now : Int → List UInt8} {ls : Int → Int} {fs : List Fr} {l : Log} {d : Dev} (h : PInv now fs l d) (hL : LInv ls fs l) {no : Int} (hn : mayPage no) (hd : no ∉ poolDirty fs) :
    readPage (d.crash []) no = (now no, 0) ∧ ls no ≤ l.forced := by
  have hcl : ∀ f ∈ fs, f.no = no → f.dirty = false := fun f hf he => by
    cases hfd : f.dirty with
    | false => rfl
    | true => exact absurd (poolDirty_mem.2 ⟨f, hf, hfd, he⟩) hd
  refine ⟨?_, ?_⟩
  · rw [readPage_free (crash_free h.free []) hn, ← h.on no hn hcl]
    congr 1
    refine pageNow_keeps (fun k h0 h1 => ?_) hn
    have := crash_sec (d := d) (k := k) (by omega) (by rw [h.free.len]; omega)
    rw [this.1, h.rest k h0 h1]
  · rcases hL no hn with h0 | ⟨_, f, hf, he, hfd, _⟩
    · exact h0
    · rw [hcl f hf he] at hfd; cases hfd
end Go.Pl
