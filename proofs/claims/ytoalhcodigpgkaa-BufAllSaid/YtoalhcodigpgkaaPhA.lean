/- A pool over a device that does not die, plainly: what is told is what was put last. No program in sight. -/
import Derived.Test.YtoalhcodigpgkaaPgA
namespace Go.Pl
open Go Go.Sx

/-- what is, lasts -/
def Rest (d : Dev) : Prop := ∀ k, 2 ≤ k → k < 386 → (d.sec k).lasts = (d.sec k).now
theorem Rest.flush {d : Dev} (h : Free d) : Rest d.flush.1 := fun k h0 h1 => by rw [h.flush_sec (by omega) (by omega)]; rfl
theorem supWrite_rest {s : Sup} {d : Dev} (h : Free d) {slot : Int} (hsl : 0 ≤ slot ∧ slot ≤ 1) {n : Nat} {b : List UInt8} (hb : b.length ≤ 40) : Rest (supWrite s d 0 slot n b).2.1 := by
  have hs := supSec_length (n := n) (b := b) (by omega)
  have he := h.write_err (i := 0 + slot) (b := supSec n b) (by omega) (by omega) (by omega)
  have hw := h.write_free (0 + slot) (supSec n b)
  have hf := hw.flush_err
  unfold supWrite
  rw [if_neg (by omega), if_neg (by omega)]
  exact Rest.flush hw
theorem Log.write_rest {l : Log} {d : Dev} (h : Free d) (hl : l.ok) (hs : 0 ≤ l.sup.slot ∧ l.sup.slot ≤ 1) {to : Nat} (hto : to ≤ 1152921504606846976) : Rest (l.write d to).2.1 := by
  obtain ⟨h1, h2, h3⟩ := wrSecs_free hl.ring (secsTo (l.forced / 64) to) (l.forced / 64) h
  have hf := h2.flush_err
  have ht := logText_length (a := l.base) (b := to) (by have := hl.order; have := hl.most; omega) hto
  unfold Log.write
  rw [if_neg (by omega), if_neg (by omega)]
  unfold Sup.save
  rw [if_neg (by omega)]
  exact supWrite_rest h2.flush_free (by omega) (by omega)
theorem Log.force_rest {l : Log} {d : Dev} (h : Free d) (hr : Rest d) (hl : l.ok) (hs : 0 ≤ l.sup.slot ∧ l.sup.slot ≤ 1) (to : Int) : Rest (l.force d to).2.1 := by
  have hrg := Log.farAt_range hl (lead_le to l.ends)
  rw [← Log.far_eq] at hrg
  have hw := Log.write_rest (to := l.far to) h hl hs (by have := hl.most; omega)
  unfold Log.force
  split
  · exact hr
  · split
    · exact hr
    · split
      · exact hw
      · exact hw
theorem Log.force_ok {l : Log} (hl : l.ok) (d : Dev) (to : Int) : (l.force d to).1.ok := by
  unfold Log.force
  split
  · exact hl
  · split
    · exact hl
    · split
      · exact Log.bad_ok hl _
      · exact Log.drop_ok hl (lead_le to l.ends) _
theorem Log.force_sup {l : Log} (d : Dev) (to : Int) : (l.force d to).1.end_ = l.end_ ∧ (l.force d to).1.base = l.base := by
  unfold Log.force
  split
  · exact ⟨rfl, rfl⟩
  · split
    · exact ⟨rfl, rfl⟩
    · split
      · exact ⟨rfl, rfl⟩
      · exact ⟨rfl, rfl⟩
theorem wrFrames_free (now : Int → List UInt8) : ∀ (l : List Fr) {d : Dev}, Free d → (∀ f ∈ l, mayPage f.no ∧ f.b.length = 256 ∧ f.b = now f.no) →
    (wrFrames d l).2 = 0 ∧ Free (wrFrames d l).1 ∧ ∀ no, mayPage no → (pageNow d no = now no ∨ ∃ f ∈ l, f.no = no) → pageNow (wrFrames d l).1 no = now no := by
  intro l
  induction l with
  | nil => intro d h _; exact ⟨rfl, h, fun no _ hh => by rcases hh with hh | ⟨f, hf, _⟩; exact hh; cases hf⟩
  | cons f l ih =>
    intro d h hl
    obtain ⟨hm, hb, hn⟩ := hl f (by simp)
    obtain ⟨w1, w2, w3, _⟩ := writePage_free h hm hb
    obtain ⟨k1, k2, k3⟩ := ih w2 (fun g hg => hl g (by simp [hg]))
    rw [wrFrames, if_neg (by omega)]
    refine ⟨k1, k2, fun no hno hh => k3 no hno ?_⟩
    by_cases he : no = f.no
    · left; rw [he, w3, hn]
    · rcases hh with hh | ⟨g, hg, rfl⟩
      · left; rw [writePage_other h hm hb hno he]; exact hh
      · rcases List.mem_cons.1 hg with rfl | hg
        · exact absurd rfl he
        · exact .inr ⟨g, hg, rfl⟩

theorem cleaned_get (fs : List Fr) (is : List Nat) : ∀ k, (cleaned fs is)[k]? = if k ∈ is then (fs[k]?).map Fr.clean else fs[k]? := by
  induction is generalizing fs with
  | nil => intro k; rfl
  | cons i is ih =>
    intro k
    have e : cleaned fs (i :: is) = cleaned (fs.modify i Fr.clean) is := rfl
    rw [e, ih, List.getElem?_modify]
    by_cases hk : i = k
    · subst hk
      simp only [if_pos rfl, List.mem_cons, true_or, if_true]
      split
      · cases fs[i]? <;> rfl
      · rfl
    · simp only [List.mem_cons, show ¬ k = i from fun h => hk h.symm, false_or, if_neg hk]
      cases fs[k]? <;> rfl
theorem cleaned_mem {fs : List Fr} {is : List Nat} {f : Fr} (h : f ∈ cleaned fs is) : ∃ k g, fs[k]? = some g ∧ ((k ∈ is ∧ f = g.clean) ∨ (k ∉ is ∧ f = g)) := by
  obtain ⟨k, hk, hf⟩ := List.getElem_of_mem h
  have h1 : (cleaned fs is)[k]? = some f := by rw [List.getElem?_eq_getElem hk, hf]
  rw [cleaned_get] at h1
  split at h1
  · rename_i hin
    cases hg : fs[k]? with
    | none => rw [hg] at h1; cases h1
    | some g => rw [hg] at h1; exact ⟨k, g, hg, .inl ⟨hin, (Option.some.inj h1).symm⟩⟩
  · rename_i hin; exact ⟨k, f, h1, .inr ⟨hin, rfl⟩⟩
def nos (fs : List Fr) : List Int := fs.map (·.no)
theorem cleaned_nos (fs : List Fr) (is : List Nat) : nos (cleaned fs is) = nos fs := by
  unfold nos
  apply List.ext_getElem?
  intro k
  rw [List.getElem?_map, List.getElem?_map, cleaned_get]
  split
  · cases fs[k]? <;> rfl
  · rfl
theorem picks_mem {fs : List Fr} {is : List Nat} {f : Fr} (h : f ∈ picks fs is) : ∃ k ∈ is, fs[k]? = some f := by
  unfold picks at h
  obtain ⟨k, hk, hf⟩ := List.mem_filterMap.1 h
  exact ⟨k, hk, hf⟩
theorem mem_picks {fs : List Fr} {is : List Nat} {k : Nat} {f : Fr} (hk : k ∈ is) (hf : fs[k]? = some f) : f ∈ picks fs is := by
  unfold picks; exact List.mem_filterMap.2 ⟨k, hk, hf⟩

/-- all is as it was put last -/
structure PInv (now : Int → List UInt8) (fs : List Fr) (l : Log) (d : Dev) : Prop where
  free : Free d
  rest : Rest d
  lok : l.ok
  bad : l.bad = false
  slot : 0 ≤ l.sup.slot ∧ l.sup.slot ≤ 1
  fr : ∀ f ∈ fs, mayPage f.no ∧ f.b.length = 256 ∧ f.b = now f.no
  on : ∀ no, mayPage no → (∀ f ∈ fs, f.no = no → f.dirty = false) → pageNow d no = now no
  nodup : (nos fs).Nodup
theorem PInv.perm {now : Int → List UInt8} {fs gs : List Fr} {l : Log} {d : Dev} (h : PInv now fs l d) (hp : fs.Perm gs) : PInv now gs l d :=
  ⟨h.free, h.rest, h.lok, h.bad, h.slot, fun f hf => h.fr f (hp.symm.subset hf), fun no hn hh => h.on no hn fun f hf => hh f (hp.subset hf), (hp.map _).nodup_iff.1 h.nodup⟩
/-- some frames are cleaned -/
theorem PInv.clean {now : Int → List UInt8} {fs : List Fr} {l : Log} {d : Dev} (h : PInv now fs l d) (is : List Nat) :
    (poolClean fs is l d).2.2.2 = 0 ∧ (poolClean fs is l d).1 = cleaned fs is ∧ PInv now (cleaned fs is) (poolClean fs is l d).2.1 (poolClean fs is l d).2.2.1 ∧ (poolClean fs is l d).2.1.end_ = l.end_ ∧ (poolClean fs is l d).2.1.base = l.base := by
  by_cases his : is = []
  · subst his
    unfold poolClean
    rw [if_pos rfl]
    exact ⟨rfl, rfl, h, rfl, rfl⟩
  · obtain ⟨f1, f2, f3, f4, f5, f6, f7, f8⟩ := Log.force_free h.free h.lok h.slot h.bad (topLsn (picks fs is))
    have hpk : ∀ f ∈ picks fs is, mayPage f.no ∧ f.b.length = 256 ∧ f.b = now f.no := fun f hf => by
      obtain ⟨k, _, hk⟩ := picks_mem hf
      exact h.fr f (List.mem_of_getElem? hk)
    obtain ⟨w1, w2, w3⟩ := wrFrames_free now (picks fs is) f7 hpk
    have hfl := w2.flush_err
    have e : poolClean fs is l d = (cleaned fs is, (l.force d (topLsn (picks fs is))).1, (wrFrames (l.force d (topLsn (picks fs is))).2.1 (picks fs is)).1.flush.1, 0) := by
      unfold poolClean
      rw [if_neg his, if_neg (by omega), if_neg (by omega), if_neg (by omega)]
    rw [e]
    refine ⟨rfl, rfl, ⟨w2.flush_free, Rest.flush w2, Log.force_ok h.lok d _, f5, f6, ?_, ?_, by rw [cleaned_nos]; exact h.nodup⟩, f4, f3⟩
    · intro f hf
      obtain ⟨k, g, hg, ⟨_, rfl⟩ | ⟨_, rfl⟩⟩ := cleaned_mem hf
      · exact h.fr g (List.mem_of_getElem? hg)
      · exact h.fr f (List.mem_of_getElem? hg)
    · intro no hn hh
      rw [pageNow_keeps (Keeps.flush w2 (by omega) (by omega)) hn]
      refine w3 no hn ?_
      by_cases hp : ∃ f ∈ picks fs is, f.no = no
      · exact .inr hp
      · left
        rw [pageNow_keeps f8 hn]
        refine h.on no hn fun f hf hfn => ?_
        obtain ⟨k, hk, hkf⟩ := List.getElem_of_mem hf
        have hg : fs[k]? = some f := by rw [List.getElem?_eq_getElem hk, hkf]
        have hki : k ∉ is := fun hki => hp ⟨f, mem_picks hki hg, hfn⟩
        have hm : (cleaned fs is)[k]? = some f := by rw [cleaned_get, if_neg hki, hg]
        exact hh f (List.mem_of_getElem? hm) hfn
/-- a clean frame goes -/
theorem PInv.cut {now : Int → List UInt8} {fs : List Fr} {l : Log} {d : Dev} (h : PInv now fs l d) {k : Nat} {g : Fr} (hg : fs[k]? = some g) (hc : g.dirty = false) : PInv now (Go.Pl.cut fs k) l d := by
  have hp := cut_perm hg
  refine ⟨h.free, h.rest, h.lok, h.bad, h.slot, fun f hf => h.fr f (cut_mem hf), fun no hn hh => h.on no hn fun f hf hfn => ?_, ?_⟩
  · rcases List.mem_cons.1 (hp.subset hf) with rfl | hf
    · exact hc
    · exact hh f hf hfn
  · have := (hp.map Fr.no).nodup_iff.1 (show (fs.map Fr.no).Nodup from h.nodup)
    exact (List.nodup_cons.1 this).2
theorem PInv.step {now : Int → List UInt8} {fs : List Fr} {l : Log} {d : Dev} (h : PInv now fs l d) (hl : 1 < fs.length) :
    (roomStep fs l d).2.2.2 = 0 ∧ PInv now (roomStep fs l d).1 (roomStep fs l d).2.1 (roomStep fs l d).2.2.1 ∧ (roomStep fs l d).2.1.end_ = l.end_ ∧ (roomStep fs l d).2.1.base = l.base ∧ (roomStep fs l d).2.1.sup.turn ≤ l.sup.turn + 1 ∧
      ((∀ f ∈ fs, f.dirty = false) → (∀ f ∈ (roomStep fs l d).1, f.dirty = false)) := by
  unfold roomStep
  split
  · rename_i hc
    obtain ⟨c1, c2, c3, c4, c5⟩ := h.clean [0]
    rw [if_neg (by omega)]
    obtain ⟨g, hg⟩ := nth (l := fs) (i := 0) (by omega)
    have hg2 : (cleaned fs [0])[0]? = some g.clean := by rw [cleaned_get, if_pos (by simp), hg]; rfl
    rw [c2]
    refine ⟨rfl, c3.cut hg2 rfl, c4, c5, poolClean_turn .., fun hall f hf => ?_⟩
    obtain ⟨k, g', hg', ⟨_, rfl⟩ | ⟨_, rfl⟩⟩ := cleaned_mem (cut_mem hf)
    · rfl
    · exact hall f (List.mem_of_getElem? hg')
  · rename_i hc
    obtain ⟨i, hi, hil⟩ := firstAt_some hc
    rw [List.length_take] at hil
    obtain ⟨g, hg⟩ := nth (l := fs) (i := i) (by omega)
    have hgt : (fs.take (fs.length - 1))[i]? = some g := by rw [List.getElem?_take, if_pos (by omega)]; exact hg
    have hq := firstAt_true (q := isClean) (k := 0) (i := i) (by rw [hi]; simp) hgt
    rw [hi, Int.toNat_natCast]
    exact ⟨rfl, h.cut hg (by unfold isClean at hq; simpa using hq), rfl, rfl, Nat.le_succ _, fun hall f hf => hall f (cut_mem hf)⟩
theorem PInv.rooms {now : Int → List UInt8} {n : Nat} (hn : 1 ≤ n) : ∀ (k : Nat) {fs : List Fr} {l : Log} {d : Dev}, PInv now fs l d → fs.length = n + k →
    (poolRoom n k fs l d).2.2.2 = 0 ∧ PInv now (poolRoom n k fs l d).1 (poolRoom n k fs l d).2.1 (poolRoom n k fs l d).2.2.1 ∧ (poolRoom n k fs l d).1.length = n ∧ (poolRoom n k fs l d).2.1.end_ = l.end_ ∧ (poolRoom n k fs l d).2.1.base = l.base ∧ (poolRoom n k fs l d).2.1.sup.turn ≤ l.sup.turn + k ∧
      ((∀ f ∈ fs, f.dirty = false) → (∀ f ∈ (poolRoom n k fs l d).1, f.dirty = false)) := by
  intro k
  induction k with
  | zero => intro fs l d h hl; exact ⟨rfl, h, hl, rfl, rfl, Nat.le_refl _, id⟩
  | succ k ih =>
    intro fs l d h hl
    obtain ⟨s1, s2, s3, s4, s5, s6⟩ := h.step (by omega)
    have hsl := (roomStep_last (fs := fs) (l := l) (d := d) (by omega)).2 s1
    obtain ⟨k1, k2, k3, k4, k5, k6, k7⟩ := ih s2 (by rw [hsl]; omega)
    rw [poolRoom, if_neg (by omega)]
    exact ⟨k1, k2, k3, by rw [k4, s3], by rw [k5, s4], by omega, fun hall => k7 (s6 hall)⟩
theorem PInv.room {now : Int → List UInt8} {n : Nat} (hn : 1 ≤ n) {fs : List Fr} {l : Log} {d : Dev} (h : PInv now fs l d) :
    (Go.Pl.room n fs l d).2.2.2 = 0 ∧ PInv now (Go.Pl.room n fs l d).1 (Go.Pl.room n fs l d).2.1 (Go.Pl.room n fs l d).2.2.1 ∧ (Go.Pl.room n fs l d).1.length ≤ n ∧ (Go.Pl.room n fs l d).2.1.end_ = l.end_ ∧ (Go.Pl.room n fs l d).2.1.base = l.base ∧
      (Go.Pl.room n fs l d).2.1.sup.turn ≤ l.sup.turn + (fs.length - n) ∧ ((∀ f ∈ fs, f.dirty = false) → (∀ f ∈ (Go.Pl.room n fs l d).1, f.dirty = false)) := by
  by_cases hl : fs.length ≤ n
  · rw [room_small hl]; exact ⟨rfl, h, hl, rfl, rfl, Nat.le_add_right _ _, id⟩
  · obtain ⟨k1, k2, k3, k4, k5, k6, k7⟩ := PInv.rooms hn (fs.length - n) h (by omega)
    exact ⟨k1, k2, by unfold Go.Pl.room; omega, k4, k5, k6, k7⟩

/-- one page's bytes are others -/
def upd (now : Int → List UInt8) (no : Int) (b : List UInt8) : Int → List UInt8 := fun k => if k = no then b else now k
theorem found_not {fs : List Fr} {no : Int} (h : found fs no < 0) : ∀ f ∈ fs, f.no ≠ no := fun f hf he => by
  have := firstAt_none h f hf
  unfold isNo at this
  rw [he] at this
  simp at this
theorem asked_some {fs : List Fr} {no : Int} (h : ¬ found fs no < 0) : ∃ us t, asked fs no = us ++ [t] ∧ t.no = no ∧ fs.Perm (us ++ [t]) := by
  obtain ⟨i, hi, hil⟩ := firstAt_some (q := isNo no) h
  obtain ⟨t, ht⟩ := nth hil
  have hq := firstAt_true (q := isNo no) (k := 0) (i := i) (by rw [hi]; simp) ht
  have e : asked fs no = Go.Pl.cut fs i ++ [t] := by
    have hi' : found fs no = i := hi
    unfold asked
    rw [if_neg h, hi', Int.toNat_natCast, toEnd_some ht]
  refine ⟨Go.Pl.cut fs i, t, e, by unfold isNo at hq; exact eq_of_beq hq, ?_⟩
  have := toEnd_perm fs i
  rw [toEnd_some ht] at this
  exact this
theorem PInv.putAt2 {now : Int → List UInt8} {fs : List Fr} {l : Log} {d : Dev} (h : PInv now fs l d) (hf : fs.length ≤ 6) {no : Int} (hn : mayPage no) {b : List UInt8} (hb : b.length = 256) (lsn : Int) :
    PInv (upd now no b) (Go.Pl.putAt fs no b lsn) l d ∧ (Go.Pl.putAt fs no b lsn).length ≤ 7 := by
  unfold Go.Pl.putAt
  split
  · rename_i h0
    have hnot := found_not h0
    refine ⟨⟨h.free, h.rest, h.lok, h.bad, h.slot, ?_, ?_, ?_⟩, by simp; omega⟩
    · intro f hf'
      rcases List.mem_append.1 hf' with hf' | hf'
      · obtain ⟨a1, a2, a3⟩ := h.fr f hf'
        exact ⟨a1, a2, by unfold upd; rw [if_neg (hnot f hf')]; exact a3⟩
      · rw [List.mem_singleton] at hf'; subst hf'
        exact ⟨hn, hb, by unfold upd; rw [if_pos rfl]⟩
    · intro k hk hh
      by_cases he : k = no
      · exfalso
        have := hh ⟨no, b, true, max 0 lsn⟩ (by simp) he.symm
        cases this
      · unfold upd; rw [if_neg he]
        exact h.on k hk fun f hf' => hh f (by simp [hf'])
    · unfold nos; rw [List.map_append]
      refine List.nodup_append.2 ⟨h.nodup, by simp, ?_⟩
      intro a ha c hc
      simp only [List.map_cons, List.map_nil, List.mem_singleton] at hc
      subst hc
      obtain ⟨f, hf', rfl⟩ := List.mem_map.1 ha
      exact hnot f hf'
  · rename_i h0
    obtain ⟨us, t, e, ht, hp⟩ := asked_some h0
    have hq := h.perm hp
    have hlen := hp.length_eq
    rw [e]
    simp only [List.dropLast_concat, lastFr, List.getLast?_concat, Option.getD_some]
    have hnd := hq.nodup
    unfold nos at hnd
    rw [List.map_append, List.nodup_append] at hnd
    have hus : ∀ f ∈ us, f.no ≠ no := fun f hf' he => hnd.2.2 f.no (List.mem_map.2 ⟨f, hf', rfl⟩) t.no (by simp) (by rw [he, ht])
    refine ⟨⟨h.free, h.rest, h.lok, h.bad, h.slot, ?_, ?_, ?_⟩, by simp at hlen ⊢; omega⟩
    · intro f hf'
      rcases List.mem_append.1 hf' with hf' | hf'
      · obtain ⟨a1, a2, a3⟩ := hq.fr f (by simp [hf'])
        exact ⟨a1, a2, by unfold upd; rw [if_neg (hus f hf')]; exact a3⟩
      · rw [List.mem_singleton] at hf'; subst hf'
        exact ⟨by rw [ht]; exact hn, hb, by unfold upd; rw [if_pos ht]⟩
    · intro k hk hh
      by_cases he : k = no
      · exfalso
        have := hh ⟨t.no, b, true, max t.lsn lsn⟩ (by simp) (by rw [he]; exact ht)
        cases this
      · unfold upd; rw [if_neg he]
        refine hq.on k hk fun f hf' hfk => ?_
        rcases List.mem_append.1 hf' with hf' | hf'
        · exact hh f (by simp [hf']) hfk
        · rw [List.mem_singleton] at hf'; subst hf'; exact absurd (hfk.symm.trans ht) he
    · unfold nos; rw [List.map_append]
      exact List.nodup_append.2 hnd
theorem PInv.putAt {now : Int → List UInt8} {fs : List Fr} {l : Log} {d : Dev} (h : PInv now fs l d) (hf : fs.length ≤ 6) {no : Int} (hn : mayPage no) {b : List UInt8} (hb : b.length = 256) (lsn : Int) : PInv (upd now no b) (Go.Pl.putAt fs no b lsn) l d := (h.putAt2 hf hn hb lsn).1
theorem PInv.put {now : Int → List UInt8} {fs : List Fr} {l : Log} {d : Dev} (h : PInv now fs l d) (hf : fs.length ≤ 6) {no : Int} (hn : mayPage no) {b : List UInt8} (hb : b.length = 256) (lsn : Int) :
    (poolPut fs l d no b lsn).1 = 0 ∧ PInv (upd now no b) (poolPut fs l d no b lsn).2.1 (poolPut fs l d no b lsn).2.2.1 (poolPut fs l d no b lsn).2.2.2 ∧ (poolPut fs l d no b lsn).2.1.length ≤ 6 ∧ (poolPut fs l d no b lsn).2.2.1.end_ = l.end_ ∧ (poolPut fs l d no b lsn).2.2.1.base = l.base ∧
      (poolPut fs l d no b lsn).2.2.1.sup.turn ≤ l.sup.turn + 1 := by
  have key := h.putAt2 hf hn hb lsn
  obtain ⟨r1, r2, r3, r4, r5, r6, _⟩ := key.1.room (n := 6) (by omega)
  unfold poolPut
  rw [if_neg (by simpa using hn), if_neg (by omega)]
  have := key.2
  exact ⟨r1, r2, r3, r4, r5, by show (Go.Pl.room 6 (Go.Pl.putAt fs no b lsn) l d).2.1.sup.turn ≤ _; omega⟩
theorem PInv.pageAt {now : Int → List UInt8} {fs : List Fr} {l : Log} {d : Dev} (h : PInv now fs l d) {no : Int} (hn : mayPage no) (h0 : found fs no < 0) : PInv now (fs ++ [⟨no, now no, false, 0⟩]) l d := by
  have hnot := found_not h0
  have hpg : pageNow d no = now no := h.on no hn fun f hf' he => absurd he (hnot f hf')
  have hrd := readPage_free h.free hn
  have hlen : (now no).length = 256 := by
    have := readPage_length h.free.ok (no := no) (by rw [hrd])
    rw [hrd, hpg] at this; exact this
  refine ⟨h.free, h.rest, h.lok, h.bad, h.slot, ?_, ?_, ?_⟩
  · intro f hf'
    rcases List.mem_append.1 hf' with hf' | hf'
    · exact h.fr f hf'
    · rw [List.mem_singleton] at hf'; subst hf'; exact ⟨hn, hlen, rfl⟩
  · intro k hk hh; exact h.on k hk fun f hf' => hh f (by simp [hf'])
  · unfold nos; rw [List.map_append]
    refine List.nodup_append.2 ⟨h.nodup, by simp, ?_⟩
    intro a ha c hc
    simp only [List.map_cons, List.map_nil, List.mem_singleton] at hc
    subst hc
    obtain ⟨f, hf', rfl⟩ := List.mem_map.1 ha
    exact hnot f hf'
theorem PInv.page {now : Int → List UInt8} {fs : List Fr} {l : Log} {d : Dev} (h : PInv now fs l d) (hf : fs.length ≤ 6) {no : Int} (hn : mayPage no) :
    ∃ fs' l' d', poolPage fs l d no = (now no, 0, fs', l', d') ∧ PInv now fs' l' d' ∧ fs'.length ≤ 6 ∧ l'.end_ = l.end_ ∧ l'.base = l.base ∧ l'.sup.turn ≤ l.sup.turn + 1 ∧ ((∀ f ∈ fs, f.dirty = false) → (∀ f ∈ fs', f.dirty = false)) := by
  unfold poolPage
  rw [if_neg (by simpa using hn)]
  by_cases h0 : found fs no < 0
  · have hnot := found_not h0
    have hpg : pageNow d no = now no := h.on no hn fun f hf' he => absurd he (hnot f hf')
    have hrd := readPage_free h.free hn
    have hlen : (now no).length = 256 := by
      have := readPage_length h.free.ok (no := no) (by rw [hrd])
      rw [hrd, hpg] at this; exact this
    rw [if_pos h0, hrd, hpg]
    simp only
    have key := h.pageAt hn h0
    obtain ⟨r1, r2, r3, r4, r5, r6, r7⟩ := key.room (n := 6) (by omega)
    rw [if_neg (by simp), if_neg (by omega)]
    refine ⟨_, _, _, rfl, r2, r3, r4, r5, ?_, fun hall => r7 fun f hf' => ?_⟩
    · simp only [List.length_append, List.length_cons, List.length_nil] at r6; omega
    · rcases List.mem_append.1 hf' with hf' | hf'
      · exact hall f hf'
      · rw [List.mem_singleton] at hf'; subst hf'; rfl
  · obtain ⟨us, t, e, ht, hp⟩ := asked_some h0
    rw [if_neg h0, e]
    have hq := h.perm hp
    have hlen := hp.length_eq
    obtain ⟨_, _, a3⟩ := hq.fr t (by simp)
    simp only [lastFr, List.getLast?_concat, Option.getD_some]
    exact ⟨_, _, _, by rw [a3, ht], hq, by omega, rfl, rfl, Nat.le_succ _, fun hall f hf' => hall f (hp.symm.subset hf')⟩
theorem dirtyAt_mem {l : List Fr} : ∀ {k i : Nat} {f : Fr}, l[k]? = some f → f.dirty = true → i + k ∈ dirtyAt i l := by
  induction l with
  | nil => intro k i f h; cases h
  | cons x l ih =>
    intro k i f h hd
    rw [dirtyAt]
    cases k with
    | zero =>
      simp at h; subst h
      rw [if_pos hd]; simp
    | succ k =>
      have := ih (i := i + 1) (by simpa using h) hd
      rw [show i + 1 + k = i + (k + 1) by omega] at this
      split
      · exact List.mem_cons_of_mem _ this
      · exact this
theorem PInv.allClean {now : Int → List UInt8} {fs : List Fr} {l : Log} {d : Dev} (h : PInv now fs l d) :
    (poolAll fs l d).1 = 0 ∧ PInv now (poolAll fs l d).2.1 (poolAll fs l d).2.2.1 (poolAll fs l d).2.2.2 ∧ (poolAll fs l d).2.1.length = fs.length ∧ (poolAll fs l d).2.2.1.end_ = l.end_ ∧ (poolAll fs l d).2.2.1.base = l.base ∧ (poolAll fs l d).2.2.1.sup.turn ≤ l.sup.turn + 1 ∧
      (∀ f ∈ (poolAll fs l d).2.1, f.dirty = false) ∧ ∀ no, mayPage no → pageNow (poolAll fs l d).2.2.2 no = now no := by
  obtain ⟨c1, c2, c3, c4, c5⟩ := h.clean (dirtyAt 0 fs)
  have hall : ∀ f ∈ cleaned fs (dirtyAt 0 fs), f.dirty = false := fun f hf => by
    obtain ⟨k, g, hg, ⟨_, rfl⟩ | ⟨hk, rfl⟩⟩ := cleaned_mem hf
    · rfl
    · cases hd : f.dirty with
      | false => rfl
      | true => exact absurd (by simpa using dirtyAt_mem (i := 0) hg hd) hk
  unfold poolAll
  rw [c2]
  exact ⟨c1, c3, cleaned_length _ _, c4, c5, poolClean_turn .., hall, fun no hn => c3.on no hn fun f hf _ => hall f hf⟩
/-- behind a crash, a pool anew -/
theorem PInv.crash {now : Int → List UInt8} {fs : List Fr} {l : Log} {d : Dev} (h : PInv now fs l d) (hon : ∀ no, mayPage no → pageNow d no = now no) : PInv now [] l (d.crash []) := by
  have hsec : ∀ k, 2 ≤ k → k < 386 → ((d.crash []).sec k).now = (d.sec k).now ∧ ((d.crash []).sec k).lasts = (d.sec k).now := fun k h0 h1 => by
    have := crash_sec (d := d) (k := k) (by omega) (by rw [h.free.len]; omega)
    rw [h.rest k h0 h1] at this
    exact this
  refine ⟨crash_free h.free [], fun k h0 h1 => ?_, h.lok, h.bad, h.slot, by simp, fun no hn _ => ?_, by simp [nos]⟩
  · rw [(hsec k h0 h1).1, (hsec k h0 h1).2]
  · rw [pageNow_keeps (d := d) (fun k h0 h1 => (hsec k h0 h1).1) hn]; exact hon no hn
theorem poolDirty_nil {fs : List Fr} (h : ∀ f ∈ fs, f.dirty = false) : poolDirty fs = [] := by
  unfold poolDirty dirties
  rw [List.filter_eq_nil_iff.2 (fun f hf => by rw [h f hf]; decide)]
  simp
theorem logMake_inv : ∃ l d, logMake (Dev.new 1410) = (some l, d, 0) ∧ PInv (fun _ => noughts 256) [] l d ∧ l.end_ = 0 ∧ l.base = 0 ∧ l.forced = 0 ∧ l.ends = [] ∧ l.sup.turn = 1 := by
  obtain ⟨l, d, hm, hf, hok, hb, hfo, he, hes, hba, ht, hsl, hpg⟩ := logMake_new
  have hsm : Rest d := by
    have hz : (noughts 64).length = 64 := noughts_length 64
    obtain ⟨k1, k2, k3, k4⟩ := writes_free [noughts 64, noughts 64] 0 new_free (by omega) (by decide) (by intro b hb; simp only [List.mem_cons, List.not_mem_nil, or_false, or_self] at hb; subst hb; exact hz)
    have htl := logText_length (a := 0) (b := 0) (by omega) (by omega)
    have hr := supWrite_rest (s := ⟨0, 0, []⟩) k2 (slot := 0) (by omega) (n := 1) (b := logText 0 0) (by omega)
    obtain ⟨j1, j2, j3, j4⟩ := supWrite_free (s := ⟨0, 0, []⟩) k2 (slot := 0) (by omega) (n := 1) (b := logText 0 0) (by omega)
    have hsm : supMake (Dev.new 1410) 0 (logText 0 0) = (some (supWrite ⟨0, 0, []⟩ ((Dev.new 1410).writes 0 [noughts 64, noughts 64]).1 0 0 1 (logText 0 0)).1, (supWrite ⟨0, 0, []⟩ ((Dev.new 1410).writes 0 [noughts 64, noughts 64]).1 0 0 1 (logText 0 0)).2.1, 0) := by
      unfold supMake
      rw [if_neg (by omega), if_neg (by rw [new_free.len]; decide), if_neg (by omega), if_neg (by omega)]
    have hd : (logMake (Dev.new 1410)).2.1 = (supWrite ⟨0, 0, []⟩ ((Dev.new 1410).writes 0 [noughts 64, noughts 64]).1 0 0 1 (logText 0 0)).2.1 := by
      unfold logMake
      rw [if_neg (by rw [new_free.len]; decide), hsm]
    rw [hm] at hd
    have hd : d = _ := hd
    rw [hd]; exact hr
  exact ⟨l, d, hm, ⟨hf, hsm, hok, hba, hsl, by simp, fun no hn _ => hpg no hn, by simp [nos]⟩, he, hb, hfo, hes, ht⟩
end Go.Pl
