/- Several texts in one. A pool of clean pages alone, plainly; bytes by their places. No program in sight. How far the log was forced ahead of the pages, plainly. No program in sight. A pool of pages over a device that may die, plainly: what is told is what was put last; no page lasts ahead of its log. No program in sight. The pool's calls over a device that may die, plainly. No program in sight. Sets of changed pages, and as bytes, plainly. No program in sight. A device that is gone does nothing more; how often the two slots were written: plainly. No program in sight. More of a pool over a device that may die: a page asked, a record appended, all forced, all written, the log cut: plainly. No program in sight. A log made, opened, plainly. No program in sight. Pages that last: what a core does, plainly. No program in sight. A core checked, changed, opened, plainly. No program in sight. Images, a core, in memory. No program in sight. What stays whatever a core does; a fuse lit beside it: plainly. No program in sight. BufAhead, plainly: each page's first byte tells with which record it was put; none is there ahead of its record. No program in sight. What the laws of core say, plainly. No program in sight. -/
import Derived.Test.YtoalhcodigpgkaaGreatDoorMC

section
namespace Go.Pl
open Go Go.Sx

theorem firstAt_clean {fs : List Fr} (h : ∀ f ∈ fs, f.dirty = false) (hn : 0 < fs.length) : firstAt isClean 0 fs = 0 := by
  cases fs with
  | nil => cases hn
  | cons f l => rw [firstAt, if_pos (by unfold isClean; rw [h f (by simp)]; rfl)]; rfl
theorem firstAt_cleanT {ts : List Tr} (h : ∀ t ∈ ts, t.2.1.dirty = false) (hn : 0 < ts.length) : firstAt (fun t : Tr => isClean t.2.1) 0 ts = 0 := by
  cases ts with
  | nil => cases hn
  | cons t l => rw [firstAt, if_pos (by unfold isClean; rw [h t (by simp)]; rfl)]; rfl
theorem cut_zero {α : Type} (l : List α) : cut l 0 = l.drop 1 := by unfold cut; simp
def keep6 (l : List Fr) : List Fr := l.drop (l.length - 6)
def pageC (fs : List Fr) (d : Dev) (no : Int) : List UInt8 × List Fr :=
  if found fs no < 0 then ((readPage d no).1, keep6 (fs ++ [⟨no, (readPage d no).1, false, 0⟩])) else ((lastFr (asked fs no)).b, asked fs no)
structure CInv (now : Int → List UInt8) (fs : List Fr) (d : Dev) : Prop where
  free : Free d
  fr : ∀ f ∈ fs, mayPage f.no ∧ f.b.length = 256 ∧ f.b = now f.no ∧ f.dirty = false
  on : ∀ no, mayPage no → pageNow d no = now no
  few : fs.length ≤ 6
theorem CInv.page {now : Int → List UInt8} {fs : List Fr} {d : Dev} (h : CInv now fs d) {no : Int} (hn : mayPage no) : (readPage d no).2 = 0 ∧ (pageC fs d no).1 = now no ∧ CInv now (pageC fs d no).2 d := by
  have hrd := readPage_free h.free hn
  have hlen : (now no).length = 256 := by
    have := readPage_length h.free.ok (no := no) (by rw [hrd])
    rw [hrd, h.on no hn] at this; exact this
  refine ⟨by rw [hrd], ?_⟩
  unfold pageC
  split
  · rw [hrd, h.on no hn]
    refine ⟨rfl, h.free, fun f hf => ?_, h.on, ?_⟩
    · unfold keep6 at hf
      rcases List.mem_append.1 (List.mem_of_mem_drop hf) with hf | hf
      · exact h.fr f hf
      · rw [List.mem_singleton] at hf; subst hf; exact ⟨hn, hlen, rfl, rfl⟩
    · unfold keep6; rw [List.length_drop]; omega
  · rename_i h0
    obtain ⟨us, t, e, ht, hp⟩ := asked_some h0
    rw [e]
    have ha := h.fr t (hp.symm.subset (by simp))
    simp only [lastFr, List.getLast?_concat, Option.getD_some]
    refine ⟨by rw [ha.2.2.1, ht], h.free, fun f hf => h.fr f (hp.symm.subset hf), h.on, ?_⟩
    rw [← hp.length_eq]; exact h.few

/-! ### bytes by their places -/
theorem mod96 (x : Int) (h0 : -9223372036854775808 ≤ x) (h1 : x ≤ 9223372036854775807) : ∃ k : Nat, k < 96 ∧ (IntKind.i64.wrap (x.tmod 96 + 96)).tmod 96 = (k : Int) := by
  have h2 : -96 < x.tmod 96 ∧ x.tmod 96 < 96 := by
    constructor
    · have := Int.lt_tmod_of_pos x (show (0 : Int) < 96 by decide); omega
    · exact Int.tmod_lt_of_pos x (by decide)
  rw [wrap_i64 (by omega) (by omega), Int.tmod_eq_emod_of_nonneg (by omega)]
  exact ⟨((x.tmod 96 + 96) % 96).toNat, by omega, by omega⟩
theorem bytes_at {nb : List UInt8} {k : Nat} {c : UInt8} (h : nb[k]? = some c) {o : Nat} (ho : o = k) : (nb.flatMap encB)[o]? = some (.int .u8 c.toNat) := by
  subst ho
  have e : ∀ l : List UInt8, l.flatMap encB = l.map fun c => Value.int .u8 c.toNat := by
    intro l
    induction l with
    | nil => rfl
    | cons x l ih => rw [List.flatMap_cons, ih]; rfl
  rw [e, List.getElem?_map, h]; rfl
theorem bytes_set {nb : List UInt8} {k : Nat} (h : k < nb.length) (c : UInt8) {o : Nat} (ho : o = k) : splice (nb.flatMap encB) o [.int .u8 c.toNat] = (nb.set k c).flatMap encB := by
  subst ho
  rw [set_over h]
  have := over_flat (enc := encB) (sz := 1) (xs := nb) (fun _ _ => rfl) (j := o) (ys := [c]) (fun _ _ => rfl)
  rw [Nat.mul_one] at this
  exact this.symm
theorem byte_sum (x : UInt8) (i : Nat) : IntKind.u8.wrap ((x.toNat : Int) + IntKind.u8.wrap (i : Int)) = ((UInt8.ofNat (x.toNat + i)).toNat : Int) := by
  rw [IntKind.wrap_u8, IntKind.wrap_u8, UInt8.toNat_ofNat']
  omega
/-- each page's first byte -/
def Firsts (now : Int → List UInt8) (nb : List UInt8) : Prop := ∀ k : Nat, k < 96 → (now k)[0]? = nb[k]?
theorem Firsts.zero : Firsts (fun _ => noughts 256) (noughts 96) := fun k hk => by unfold noughts; rw [List.getElem?_replicate, List.getElem?_replicate, if_pos (by omega), if_pos hk]
theorem Firsts.set {now : Int → List UInt8} {nb : List UInt8} (h : Firsts now nb) (hl : nb.length = 96) {k : Nat} (hk : k < 96) {c : UInt8} {b : List UInt8} (hb : b[0]? = some c) : Firsts (upd now k b) (nb.set k c) := fun j hj => by
  unfold upd
  by_cases he : j = k
  · subst he
    rw [if_pos rfl, List.getElem?_set_self (by omega), hb]
  · rw [if_neg (by omega), List.getElem?_set_ne (by omega)]; exact h j hj
end Go.Pl
end

section
namespace Go.Pl
open Go Go.Sx

/-- each page's record is forced, or its frame is dirty and knows it -/
def LInv (ls : Int → Int) (fs : List Fr) (l : Log) : Prop :=
  ∀ no, mayPage no → ls no ≤ l.forced ∨ ((∃ e ∈ l.ends, ls no = (e : Int)) ∧ ∃ f ∈ fs, f.no = no ∧ f.dirty = true ∧ ls no ≤ f.lsn)
theorem far_ge {l : Log} (hl : l.ok) {to : Int} {e : Nat} (he : e ∈ l.ends) (hto : (e : Int) ≤ to) : e ≤ l.far to := by
  obtain ⟨i, hi, rfl⟩ := List.getElem_of_mem he
  have hlt : i < lead to l.ends := by
    refine Classical.byContradiction fun h => ?_
    have hle := lead_le to l.ends
    have hend : l.ends[lead to l.ends]? = some (l.ends[lead to l.ends]'(by omega)) := List.getElem?_eq_getElem (by omega)
    have := lead_end hend
    have hm : l.ends[lead to l.ends]'(by omega) ≤ l.ends[i] := by
      rcases Nat.lt_or_ge (lead to l.ends) i with h1 | h1
      · exact Nat.le_of_lt (List.pairwise_iff_getElem.1 hl.sorted _ _ _ _ h1)
      · have : lead to l.ends = i := by omega
        simp only [this]; exact Nat.le_refl _
    omega
  have hle := lead_le to l.ends
  rw [Log.far_eq]
  unfold Log.farAt
  rw [if_neg (by omega), List.getD_eq_getElem?_getD, List.getElem?_eq_getElem (by omega)]
  simp only [Option.getD_some]
  rcases Nat.lt_or_ge i (lead to l.ends - 1) with h1 | h1
  · exact Nat.le_of_lt (List.pairwise_iff_getElem.1 hl.sorted _ _ _ _ h1)
  · have : i = lead to l.ends - 1 := by omega
    simp only [this]; exact Nat.le_refl _
theorem force_ends {l : Log} {d : Dev} (h : Free d) (hl : l.ok) (hs : 0 ≤ l.sup.slot ∧ l.sup.slot ≤ 1) (hb : l.bad = false) (to : Int) :
    l.forced ≤ (l.force d to).1.forced ∧ (∀ e ∈ l.ends, (e : Int) ≤ to → e ≤ (l.force d to).1.forced) ∧ (∀ e ∈ l.ends, e ≤ (l.force d to).1.forced ∨ e ∈ (l.force d to).1.ends) := by
  obtain ⟨f1, f2, _⟩ := Log.force_free h hl hs hb to
  have hr := Log.farAt_range hl (lead_le to l.ends)
  rw [← Log.far_eq] at hr
  refine ⟨by rw [f2]; exact hr.1, fun e he hto => by rw [f2]; exact far_ge hl he hto, fun e he => ?_⟩
  by_cases hto : (e : Int) ≤ to
  · left; rw [f2]; exact far_ge hl he hto
  · have hmem : e ∈ l.ends.drop (lead to l.ends) := by
      obtain ⟨i, hi, rfl⟩ := List.getElem_of_mem he
      have hge : lead to l.ends ≤ i := by
        refine Classical.byContradiction fun hlt => hto ?_
        exact lead_at (by omega) (List.getElem?_eq_getElem hi)
      have e1 : (l.ends.drop (lead to l.ends))[i - lead to l.ends]? = some l.ends[i] := by
        rw [List.getElem?_drop, show lead to l.ends + (i - lead to l.ends) = i by omega, List.getElem?_eq_getElem hi]
      exact List.mem_of_getElem? e1
    unfold Log.force
    split
    · exact .inr he
    · split
      · exact .inr he
      · split
        · exact .inr he
        · exact .inr hmem
theorem topLsn_ge {l : List Fr} {f : Fr} (h : f ∈ l) : f.lsn ≤ topLsn l := by
  have key : ∀ (l : List Fr) (m : Int), m ≤ l.foldl (fun m f => max m f.lsn) m ∧ ∀ f ∈ l, f.lsn ≤ l.foldl (fun m f => max m f.lsn) m := by
    intro l
    induction l with
    | nil => intro m; exact ⟨Int.le_refl _, by simp⟩
    | cons x l ih =>
      intro m
      obtain ⟨h1, h2⟩ := ih (max m x.lsn)
      rw [List.foldl_cons]
      refine ⟨by omega, fun f hf => ?_⟩
      rcases List.mem_cons.1 hf with rfl | hf
      · omega
      · exact h2 f hf
  exact (key l 0).2 f h
theorem LInv.perm {ls : Int → Int} {fs gs : List Fr} {l : Log} (h : LInv ls fs l) (hp : fs.Perm gs) : LInv ls gs l := fun no hn => (h no hn).imp id fun ⟨h1, f, hf, h2⟩ => ⟨h1, f, hp.subset hf, h2⟩
theorem LInv.clean {now : Int → List UInt8} {ls : Int → Int} {fs : List Fr} {l : Log} {d : Dev} (h : PInv now fs l d) (hL : LInv ls fs l) (is : List Nat) : LInv ls (cleaned fs is) (poolClean fs is l d).2.1 ∧ l.forced ≤ (poolClean fs is l d).2.1.forced := by
  by_cases his : is = []
  · subst his
    unfold poolClean
    rw [if_pos rfl]
    exact ⟨hL, Nat.le_refl _⟩
  · obtain ⟨e1, e2, e3⟩ := force_ends h.free h.lok h.slot h.bad (topLsn (picks fs is))
    have hlog : (poolClean fs is l d).2.1 = (l.force d (topLsn (picks fs is))).1 := by
      unfold poolClean
      rw [if_neg his]
      split
      · rfl
      · split
        · rfl
        · split <;> rfl
    rw [hlog]
    refine ⟨fun no hn => ?_, e1⟩
    rcases hL no hn with h0 | ⟨⟨e, he, hle⟩, f, hf, hfn, hfd, hfl⟩
    · left; omega
    · obtain ⟨k, hk, hkf⟩ := List.getElem_of_mem hf
      have hg : fs[k]? = some f := by rw [List.getElem?_eq_getElem hk, hkf]
      by_cases hki : k ∈ is
      · left
        have := topLsn_ge (mem_picks hki hg)
        have := e2 e he (by omega)
        omega
      · have hm : (cleaned fs is)[k]? = some f := by rw [cleaned_get, if_neg hki, hg]
        rcases e3 e he with h1 | h1
        · left; omega
        · exact .inr ⟨⟨e, h1, hle⟩, f, List.mem_of_getElem? hm, hfn, hfd, hfl⟩
theorem LInv.cut {ls : Int → Int} {fs : List Fr} {l : Log} (hL : LInv ls fs l) {k : Nat} {g : Fr} (hg : fs[k]? = some g) (hc : g.dirty = false) : LInv ls (Go.Pl.cut fs k) l := fun no hn => (hL no hn).imp id fun ⟨h1, f, hf, h2, h3, h4⟩ => by
  rcases List.mem_cons.1 ((cut_perm hg).subset hf) with rfl | hf
  · rw [hc] at h3; cases h3
  · exact ⟨h1, f, hf, h2, h3, h4⟩
theorem LInv.step {now : Int → List UInt8} {ls : Int → Int} {fs : List Fr} {l : Log} {d : Dev} (h : PInv now fs l d) (hL : LInv ls fs l) (hl : 1 < fs.length) : LInv ls (roomStep fs l d).1 (roomStep fs l d).2.1 := by
  unfold roomStep
  split
  · obtain ⟨c1, c2, c3, c4, c5⟩ := h.clean [0]
    rw [if_neg (by omega)]
    obtain ⟨g, hg⟩ := nth (l := fs) (i := 0) (by omega)
    have hg2 : (cleaned fs [0])[0]? = some g.clean := by rw [cleaned_get, if_pos (by simp), hg]; rfl
    rw [c2]
    exact (LInv.clean h hL [0]).1.cut hg2 rfl
  · rename_i hc
    obtain ⟨i, hi, hil⟩ := firstAt_some hc
    rw [List.length_take] at hil
    obtain ⟨g, hg⟩ := nth (l := fs) (i := i) (by omega)
    have hgt : (fs.take (fs.length - 1))[i]? = some g := by rw [List.getElem?_take, if_pos (by omega)]; exact hg
    have hq := firstAt_true (q := isClean) (k := 0) (i := i) (by rw [hi]; simp) hgt
    rw [hi, Int.toNat_natCast]
    exact hL.cut hg (by unfold isClean at hq; simpa using hq)
theorem LInv.rooms {now : Int → List UInt8} {ls : Int → Int} {n : Nat} (hn : 1 ≤ n) : ∀ (k : Nat) {fs : List Fr} {l : Log} {d : Dev}, PInv now fs l d → LInv ls fs l → fs.length = n + k → LInv ls (poolRoom n k fs l d).1 (poolRoom n k fs l d).2.1 := by
  intro k
  induction k with
  | zero => intro fs l d _ hL _; exact hL
  | succ k ih =>
    intro fs l d h hL hl
    obtain ⟨s1, s2, _⟩ := h.step (by omega)
    have hsl := (roomStep_last (fs := fs) (l := l) (d := d) (by omega)).2 s1
    rw [poolRoom, if_neg (by omega)]
    exact ih s2 (hL.step h (by omega)) (by rw [hsl]; omega)
theorem LInv.room {now : Int → List UInt8} {ls : Int → Int} {n : Nat} (hn : 1 ≤ n) {fs : List Fr} {l : Log} {d : Dev} (h : PInv now fs l d) (hL : LInv ls fs l) : LInv ls (Go.Pl.room n fs l d).1 (Go.Pl.room n fs l d).2.1 := by
  by_cases hl : fs.length ≤ n
  · rw [room_small hl]; exact hL
  · unfold Go.Pl.room; exact hL.rooms hn _ h (by omega)
/-! ### the calls -/
def updI (ls : Int → Int) (no : Int) (n : Int) : Int → Int := fun k => if k = no then n else ls k
theorem LInv.put {now : Int → List UInt8} {ls : Int → Int} {fs : List Fr} {l : Log} {d : Dev} (h : PInv now fs l d) (hL : LInv ls fs l) (hf : fs.length ≤ 6) {no : Int} (hn : mayPage no) {b : List UInt8} (hb : b.length = 256) {e : Nat} (he : e ∈ l.ends) :
    LInv (updI ls no (e : Int)) (poolPut fs l d no b (e : Int)).2.1 (poolPut fs l d no b (e : Int)).2.2.1 := by
  have key : PInv (upd now no b) (putAt fs no b (e : Int)) l d ∧ LInv (updI ls no (e : Int)) (putAt fs no b (e : Int)) l := by
    refine ⟨?_, ?_⟩
    · have := h.put hf hn hb (e : Int)
      -- the pool's state ahead of the room
      exact PInv.putAt h hf hn hb (e : Int)
    · unfold putAt
      split
      · intro k hk
        unfold updI
        by_cases hke : k = no
        · rw [if_pos hke]
          exact .inr ⟨⟨e, he, rfl⟩, ⟨no, b, true, max 0 (e : Int)⟩, by simp, hke.symm, rfl, by dsimp only; omega⟩
        · rw [if_neg hke]
          exact (hL k hk).imp id fun ⟨h1, f, hf', h2⟩ => ⟨h1, f, by simp [hf'], h2⟩
      · rename_i h0
        obtain ⟨us, t, ea, ht, hp⟩ := asked_some h0
        rw [ea]
        simp only [List.dropLast_concat, lastFr, List.getLast?_concat, Option.getD_some]
        intro k hk
        unfold updI
        by_cases hke : k = no
        · rw [if_pos hke]
          exact .inr ⟨⟨e, he, rfl⟩, ⟨t.no, b, true, max t.lsn (e : Int)⟩, by simp, by rw [hke]; exact ht, rfl, by dsimp only; omega⟩
        · rw [if_neg hke]
          refine (hL k hk).imp id fun ⟨h1, f, hf', h2, h3⟩ => ⟨h1, f, ?_, h2, h3⟩
          rcases List.mem_append.1 (hp.subset hf') with hf' | hf'
          · simp [hf']
          · rw [List.mem_singleton] at hf'; subst hf'; exact absurd (h2.symm.trans ht) hke
  unfold poolPut
  rw [if_neg (by simpa using hn), if_neg (by omega)]
  exact key.2.room (n := 6) (by omega) key.1
theorem LInv.page {now : Int → List UInt8} {ls : Int → Int} {fs : List Fr} {l : Log} {d : Dev} (h : PInv now fs l d) (hL : LInv ls fs l) {no : Int} (hn : mayPage no) : LInv ls (poolPage fs l d no).2.2.1 (poolPage fs l d no).2.2.2.1 := by
  unfold poolPage
  rw [if_neg (by simpa using hn)]
  by_cases h0 : found fs no < 0
  · have hnot := found_not h0
    have hpg : pageNow d no = now no := h.on no hn fun f hf' he => absurd he (hnot f hf')
    have hrd := readPage_free h.free hn
    rw [if_pos h0, hrd, hpg]
    simp only
    rw [if_neg (by simp)]
    have hk := PInv.pageAt h hn h0
    have hLn : LInv ls (fs ++ [⟨no, now no, false, 0⟩]) l := fun k hk => (hL k hk).imp id fun ⟨h1, f, hf', h2⟩ => ⟨h1, f, by simp [hf'], h2⟩
    have := hLn.room (n := 6) (by omega) hk
    have he := (hk.room (n := 6) (by omega)).1
    rw [if_neg (by omega)]
    exact this
  · rw [if_neg h0]
    obtain ⟨us, t, e, ht, hp⟩ := asked_some h0
    dsimp only
    rw [e]
    exact hL.perm hp
end Go.Pl
end

section
namespace Go.Pl
open Go Go.Sx

/-- what may be said of a page's sector, by how far the log lasts -/
abbrev PQ := Nat → Int → List UInt8 → Prop
def PgOn (d : Dev) (Q : Int → List UInt8 → Prop) : Prop := ∀ i, 2 ≤ i → i < 386 → ∀ x, (d.sec i).may x → Q i x
def quarter (k : Nat) (b : List UInt8) : List UInt8 := (b.drop (64 * k)).take 64
theorem quarters_get {b : List UInt8} {k : Nat} {x : List UInt8} (h : (quarters b)[k]? = some x) : x = quarter k b ∧ k < 4 := by
  unfold quarters at h
  match k, h with
  | 0, h => simp at h; exact ⟨by rw [← h]; rfl, by omega⟩
  | 1, h => simp at h; exact ⟨by rw [← h]; rfl, by omega⟩
  | 2, h => simp at h; exact ⟨by rw [← h]; rfl, by omega⟩
  | 3, h => simp at h; exact ⟨by rw [← h]; rfl, by omega⟩
theorem PgOn.same {d d' : Dev} {Q : Int → List UInt8 → Prop} (h : PgOn d Q) (hs : Same 2 386 d d') : PgOn d' Q := fun i h0 h1 x hx => h i h0 h1 x ((hs i h0 h1).2 x hx)
theorem Fallen.same {d d' : Dev} {Ok : Nat → List (List UInt8) → Prop} (h : Fallen d Ok) (hd : Disk d') (h1 : Same 0 2 d d') (h2 : Same 386 1410 d d') : Fallen d' Ok := by
  refine ⟨hd, fun x y hx hy => ?_⟩
  obtain ⟨T, sl, base, rs, k1, k2, k3⟩ := h.2 x y ((h1 0 (by omega) (by omega)).2 x hx) ((h1 1 (by omega) (by omega)).2 y hy)
  exact ⟨T, sl, base, rs, k1, k2.same h2, k3⟩
theorem WInv.same {l : Log} {d d' : Dev} {rs : List (List UInt8)} {nf : Nat} (h : WInv l d rs nf) (hd : Disk d') (h1 : Same 0 2 d d') (h2 : Same 386 1410 d d') : WInv l d' rs nf :=
  ⟨hd, h.ok, h.bad, h.few, h.forced, h.end_, h.recs, h.ends, h.ring, h.slot, h.sup.same h1, h.on.same h2⟩
/-- what is beside the pages is the same -/
def Beside (d d' : Dev) : Prop := Same 0 2 d d' ∧ Same 386 1410 d d'
theorem Beside.refl (d : Dev) : Beside d d := ⟨Same.refl _ _ _, Same.refl _ _ _⟩
theorem Beside.trans {d d' d'' : Dev} (h : Beside d d') (h' : Beside d' d'') : Beside d d'' := ⟨h.1.trans h'.1, h.2.trans h'.2⟩
theorem Beside.flush {d : Dev} (h : Disk d) : Beside d d.flush.1 := ⟨Same.flush h (by omega) (by omega), Same.flush h (by omega) (by omega)⟩
theorem writes_crash {Q : Int → List UInt8 → Prop} : ∀ (l : List (List UInt8)) {d : Dev} (i : Int), Disk d → PgOn d Q → 2 ≤ i → i + l.length ≤ 386 → (∀ b ∈ l, b.length = 64) → (∀ k x, l[k]? = some x → Q (i + (k : Nat)) x) →
    ((d.writes i l).2 = 0 ∧ Disk (d.writes i l).1 ∧ PgOn (d.writes i l).1 Q ∧ Beside d (d.writes i l).1 ∧ (d.writes i l).1.reads i l.length = l.flatten ∧ (∀ k, 0 ≤ k → k < i ∨ i + l.length ≤ k → (d.writes i l).1.sec k = d.sec k)) ∨
    ((d.writes i l).2 = 5 ∧ (d.writes i l).1.gone = true ∧ Disk (d.writes i l).1 ∧ PgOn (d.writes i l).1 Q ∧ Beside d (d.writes i l).1) := by
  intro l
  induction l with
  | nil => intro d i h hp _ _ _ _; exact .inl ⟨rfl, h, hp, Beside.refl _, rfl, fun _ _ _ => rfl⟩
  | cons b l ih =>
    intro d i h hp h0 h1 hb hq
    simp only [List.length_cons] at h1 ⊢
    have hbl := hb b (by simp)
    have hB : Beside d (d.write i b).1 := ⟨Same.write h (by omega) (by omega) hbl (by omega) (.inr (by omega)), Same.write h (by omega) (by omega) hbl (by omega) (.inl (by omega))⟩
    rw [Dev.writes]
    rcases h.write (i := i) (by omega) (by omega) hbl with ⟨g, e⟩ | ⟨g, e, hd, e1, e2⟩
    · right
      rw [e, if_pos (by simp)]
      exact ⟨rfl, g, h, hp, Beside.refl _⟩
    · rw [if_neg (by omega)]
      generalize hdq : (d.write i b).1 = d1 at *
      have hp1 : PgOn d1 Q := by
        intro k hk0 hk1 x hx
        by_cases hk : k = i
        · subst hk
          rw [e1] at hx
          rcases may_put (h.sok (by omega) (by omega)) hbl hx with rfl | rfl
          · exact hp _ hk0 hk1 _ (may_lasts _)
          · have := hq 0 x rfl
            rwa [show k + ((0 : Nat) : Int) = k by omega] at this
        · rw [e2 k (by omega) hk] at hx
          exact hp k hk0 hk1 x hx
      rcases ih (i + 1) hd hp1 (by omega) (by omega) (fun c hc => hb c (by simp [hc])) (fun k x hx => by have := hq (k + 1) x (by simpa using hx); rwa [show i + ((k + 1 : Nat) : Int) = i + 1 + (k : Nat) by omega] at this) with ⟨a1, a2, a3, a4, a5, a6⟩ | ⟨a1, a2, a3, a4, a5⟩
      · left
        refine ⟨a1, a2, a3, hB.trans a4, ?_, fun k hk hor => ?_⟩
        · rw [Dev.reads, a5, a6 i (by omega) (.inl (by omega)), e1, put_now (h.sok (by omega) (by omega)) hbl]
          rfl
        · rw [a6 k hk (by omega), e2 k hk (by omega)]
      · right
        exact ⟨a1, a2, a3, a4, hB.trans a5⟩
/-- a page is written -/
theorem writePage_crash {Q : Int → List UInt8 → Prop} {d : Dev} (h : Disk d) (hp : PgOn d Q) {no : Int} (hn : mayPage no) {b : List UInt8} (hb : b.length = 256) (hq : ∀ k, k < 4 → Q (2 + 4 * no + (k : Nat)) (quarter k b)) :
    ((writePage d no b).2 = 0 ∧ Disk (writePage d no b).1 ∧ PgOn (writePage d no b).1 Q ∧ Beside d (writePage d no b).1 ∧ pageNow (writePage d no b).1 no = b ∧ (∀ k, mayPage k → k ≠ no → pageNow (writePage d no b).1 k = pageNow d k)) ∨
    ((writePage d no b).2 = 5 ∧ (writePage d no b).1.gone = true ∧ Disk (writePage d no b).1 ∧ PgOn (writePage d no b).1 Q ∧ Beside d (writePage d no b).1) := by
  have hn' := hn
  unfold mayPage at hn'
  unfold writePage
  rw [if_neg (by simpa using hn), if_neg (by omega)]
  rcases writes_crash (quarters b) (2 + 4 * no) h hp (by omega) (by simp [quarters]; omega) (quarters_len hb) (fun k x hx => by obtain ⟨rfl, hk⟩ := quarters_get hx; exact hq k hk) with ⟨a1, a2, a3, a4, a5, a6⟩ | a
  · left
    refine ⟨a1, a2, a3, a4, ?_, fun k hk hne => ?_⟩
    · unfold pageNow; rw [show (4 : Nat) = (quarters b).length from rfl, a5, quarters_flat hb]
    · unfold mayPage at hk
      exact reads_same 4 _ fun i h0 h1 => by rw [a6 i (by omega) (by simp only [quarters, List.length_cons, List.length_nil]; omega)]
  · exact .inr a
theorem wrFrames_crash {Q : Int → List UInt8 → Prop} (now : Int → List UInt8) : ∀ (l : List Fr) {d : Dev}, Disk d → PgOn d Q → (∀ f ∈ l, mayPage f.no ∧ f.b.length = 256 ∧ f.b = now f.no ∧ ∀ k, k < 4 → Q (2 + 4 * f.no + (k : Nat)) (quarter k f.b)) →
    ((wrFrames d l).2 = 0 ∧ Disk (wrFrames d l).1 ∧ PgOn (wrFrames d l).1 Q ∧ Beside d (wrFrames d l).1 ∧ ∀ no, mayPage no → (pageNow d no = now no ∨ ∃ f ∈ l, f.no = no) → pageNow (wrFrames d l).1 no = now no) ∨
    ((wrFrames d l).2 = 5 ∧ (wrFrames d l).1.gone = true ∧ Disk (wrFrames d l).1 ∧ PgOn (wrFrames d l).1 Q ∧ Beside d (wrFrames d l).1) := by
  intro l
  induction l with
  | nil => intro d h hp _; exact .inl ⟨rfl, h, hp, Beside.refl _, fun no _ hh => by rcases hh with hh | ⟨f, hf, _⟩; exact hh; cases hf⟩
  | cons f l ih =>
    intro d h hp hl
    obtain ⟨hm, hb, hnw, hq⟩ := hl f (by simp)
    rw [wrFrames]
    rcases writePage_crash h hp hm hb hq with ⟨a1, a2, a3, a4, a5, a6⟩ | ⟨a1, a2, a3, a4, a5⟩
    · rw [if_neg (by omega)]
      rcases ih a2 a3 (fun g hg => hl g (by simp [hg])) with ⟨b1, b2, b3, b4, b5⟩ | ⟨b1, b2, b3, b4, b5⟩
      · left
        refine ⟨b1, b2, b3, a4.trans b4, fun no hno hh => b5 no hno ?_⟩
        by_cases he : no = f.no
        · left; rw [he, a5, hnw]
        · rcases hh with hh | ⟨g, hg, rfl⟩
          · left; rw [a6 no hno he]; exact hh
          · rcases List.mem_cons.1 hg with rfl | hg
            · exact absurd rfl he
            · exact .inr ⟨g, hg, rfl⟩
      · right
        exact ⟨b1, b2, b3, b4, a4.trans b5⟩
    · right
      rw [if_pos (by omega)]
      exact ⟨a1, a2, a3, a4, a5⟩

/-- all is as it was put last; a page's sector is right by how far the log lasts -/
structure KInv (Q : PQ) (now : Int → List UInt8) (fs : List Fr) (l : Log) (d : Dev) (rs : List (List UInt8)) (nf : Nat) : Prop where
  w : WInv l d rs nf
  pg : PgOn d (Q l.forced)
  rest : ∀ i, 2 ≤ i → i < 386 → ∀ x, (d.sec i).may x → x = (d.sec i).now
  fr : ∀ f ∈ fs, mayPage f.no ∧ f.b.length = 256 ∧ f.b = now f.no
  lsn : ∀ f ∈ fs, f.lsn ≤ l.forced ∨ ∃ e ∈ l.ends, (e : Int) = f.lsn
  q : ∀ f ∈ fs, ∀ fo : Nat, l.forced ≤ fo → f.lsn ≤ fo → ∀ k, k < 4 → Q fo (2 + 4 * f.no + (k : Nat)) (quarter k f.b)
  on : ∀ no, mayPage no → (∀ f ∈ fs, f.no = no → f.dirty = false) → pageNow d no = now no
  nodup : (nos fs).Nodup
def Mono (Q : PQ) : Prop := ∀ a b i x, a ≤ b → Q a i x → Q b i x
/-- the device is gone; whatever is behind a crash can be opened, and its pages are right by its log -/
def Lost (Q : PQ) (base : Nat) (rs : List (List UInt8)) (nf : Nat) (d : Dev) : Prop :=
  d.gone = true ∧ ∃ m, nf ≤ m ∧ m ≤ rs.length ∧ Fallen d (UpTo base rs m) ∧ PgOn d (Q (endAt base rs m))
theorem Lost.less {Q : PQ} {base : Nat} {rs : List (List UInt8)} {nf nf' : Nat} {d : Dev} (h : Lost Q base rs nf d) (hl : nf' ≤ nf) : Lost Q base rs nf' d := by
  obtain ⟨h1, m, h2, h3⟩ := h
  exact ⟨h1, m, by omega, h3⟩
theorem KInv.perm {Q : PQ} {now : Int → List UInt8} {fs gs : List Fr} {l : Log} {d : Dev} {rs : List (List UInt8)} {nf : Nat} (h : KInv Q now fs l d rs nf) (hp : fs.Perm gs) : KInv Q now gs l d rs nf :=
  ⟨h.w, h.pg, h.rest, fun f hf => h.fr f (hp.symm.subset hf), fun f hf => h.lsn f (hp.symm.subset hf), fun f hf => h.q f (hp.symm.subset hf), fun no hn hh => h.on no hn fun f hf => hh f (hp.subset hf), (hp.map _).nodup_iff.1 h.nodup⟩
theorem KInv.mono {Q Q' : PQ} {now : Int → List UInt8} {fs : List Fr} {l : Log} {d : Dev} {rs : List (List UInt8)} {nf : Nat} (h : KInv Q now fs l d rs nf) (hq : ∀ a i x, Q a i x → Q' a i x) : KInv Q' now fs l d rs nf :=
  ⟨h.w, fun i h0 h1 x hx => hq _ _ _ (h.pg i h0 h1 x hx), h.rest, h.fr, h.lsn, fun f hf fo h0 h1 k hk => hq _ _ _ (h.q f hf fo h0 h1 k hk), h.on, h.nodup⟩
theorem rest_flush {d : Dev} (h : Disk d) (hg : d.flush.2 = 0) : ∀ i, 2 ≤ i → i < 386 → ∀ x, (d.flush.1.sec i).may x → x = (d.flush.1.sec i).now := by
  intro i h0 h1 x hx
  rcases h.flush with ⟨_, e⟩ | ⟨_, _, _, e⟩
  · rw [e] at hg; cases hg
  · rw [e i (by omega) (by omega)] at hx ⊢; rw [may_rest hx]; rfl
/-- some frames are cleaned, and last; or the device is gone -/
theorem KInv.clean {Q : PQ} (hM : Mono Q) {now : Int → List UInt8} {fs : List Fr} {l : Log} {d : Dev} {rs : List (List UInt8)} {nf : Nat} (h : KInv Q now fs l d rs nf) (hT : l.sup.turn + 1 ≤ 4611686018427387904) (is : List Nat) :
    ∃ m, nf ≤ m ∧ m ≤ rs.length ∧
    (((poolClean fs is l d).2.2.2 = 0 ∧ (poolClean fs is l d).1 = cleaned fs is ∧ KInv Q now (cleaned fs is) (poolClean fs is l d).2.1 (poolClean fs is l d).2.2.1 rs m ∧ (poolClean fs is l d).2.1.end_ = l.end_ ∧ (poolClean fs is l d).2.1.base = l.base) ∨
     ((poolClean fs is l d).2.2.2 = 5 ∧ Lost Q l.base rs nf (poolClean fs is l d).2.2.1)) := by
  by_cases his : is = []
  · subst his
    refine ⟨nf, Nat.le_refl _, h.w.few, .inl ?_⟩
    unfold poolClean
    rw [if_pos rfl]
    exact ⟨rfl, rfl, h, rfl, rfl⟩
  · obtain ⟨m, hm0, hm1, hfar, hcase⟩ := Log.force_crash h.w hT (topLsn (picks fs is))
    refine ⟨m, hm0, hm1, ?_⟩
    unfold poolClean
    rw [if_neg his]
    generalize hlq : l.force d (topLsn (picks fs is)) = w at *
    obtain ⟨l1, d1, e1⟩ := w
    dsimp only at hcase ⊢
    rcases hcase with ⟨a1, a2, a3, a4, a5⟩ | ⟨a1, a2, a3, a4⟩
    · rw [if_neg (by omega)]
      have hfo : l1.forced = endAt l.base rs m := by rw [a2.forced, a3]
      have hfle : l.forced ≤ l1.forced := by rw [hfo, h.w.forced]; exact endAt_mono hm0
      have hpg1 : PgOn d1 (Q l1.forced) := fun i h0 h1 x hx => hM _ _ _ _ hfle (h.pg.same a5 i h0 h1 x hx)
      have hge : ∀ f ∈ picks fs is, f.lsn ≤ l1.forced := by
        intro f hf
        obtain ⟨k, _, hk⟩ := picks_mem hf
        have hmem := List.mem_of_getElem? hk
        rcases h.lsn f hmem with h0 | ⟨e, he, hee⟩
        · omega
        · have := far_ge h.w.ok he (to := topLsn (picks fs is)) (by rw [hee]; exact topLsn_ge hf)
          rw [hfar, ← hfo] at this
          omega
      have hpk : ∀ f ∈ picks fs is, mayPage f.no ∧ f.b.length = 256 ∧ f.b = now f.no ∧ ∀ k, k < 4 → Q l1.forced (2 + 4 * f.no + (k : Nat)) (quarter k f.b) := by
        intro f hf
        obtain ⟨k, _, hk⟩ := picks_mem hf
        have hmem := List.mem_of_getElem? hk
        obtain ⟨b1, b2, b3⟩ := h.fr f hmem
        exact ⟨b1, b2, b3, h.q f hmem l1.forced hfle (hge f hf)⟩
      have lost : ∀ d', Disk d' → d'.gone = true → PgOn d' (Q l1.forced) → Beside d1 d' → Lost Q l.base rs nf d' := by
        intro d' hd' hg hp hb
        refine ⟨hg, m, hm0, hm1, ?_, by rw [← hfo]; exact hp⟩
        have := a2.fallen.same hd' hb.1 hb.2
        rwa [a3] at this
      rcases wrFrames_crash now (picks fs is) a2.disk hpg1 hpk with ⟨b1, b2, b3, b4, b5⟩ | ⟨b1, b2, b3, b4, b5⟩
      · rw [if_neg (by omega)]
        generalize hdq : (wrFrames d1 (picks fs is)).1 = d2 at *
        rcases b2.flush with ⟨g, f⟩ | ⟨g, f, hd3, f1⟩
        · right
          rw [f, if_pos (by simp)]
          exact ⟨rfl, lost _ b2 g b3 b4⟩
        · left
          rw [if_neg (by omega)]
          have hB := b4.trans (Beside.flush b2)
          refine ⟨rfl, rfl, ⟨a2.same hd3 hB.1 hB.2, b3.same (Same.flush b2 (by omega) (by omega)), rest_flush b2 f, ?_, ?_, ?_, ?_, by rw [cleaned_nos]; exact h.nodup⟩, a4, a3⟩
          · intro f hf
            obtain ⟨k, g, hg, ⟨_, rfl⟩ | ⟨_, rfl⟩⟩ := cleaned_mem hf
            · exact h.fr g (List.mem_of_getElem? hg)
            · exact h.fr f (List.mem_of_getElem? hg)
          · intro f hf
            obtain ⟨k, g, hg, ⟨_, rfl⟩ | ⟨_, rfl⟩⟩ := cleaned_mem hf
            · left; show (0 : Int) ≤ _; omega
            · show f.lsn ≤ (l1.forced : Int) ∨ ∃ e ∈ l1.ends, (e : Int) = f.lsn
              rcases h.lsn f (List.mem_of_getElem? hg) with h0 | ⟨e, he, hee⟩
              · left; omega
              · rw [h.w.ends] at he
                obtain ⟨j, hj, rfl⟩ := List.mem_map.1 he
                rw [List.mem_range'_1] at hj
                by_cases hjm : j ≤ m
                · left
                  have := endAt_mono (base := l.base) (rs := rs) hjm
                  rw [hfo, ← hee]; omega
                · right
                  refine ⟨_, ?_, hee⟩
                  rw [a2.ends, a3]
                  exact List.mem_map.2 ⟨j, by rw [List.mem_range'_1]; omega, rfl⟩
          · intro f hf fo h0 h1 k hk
            have h0 : l1.forced ≤ fo := h0
            obtain ⟨i, g, hg, ⟨hi, rfl⟩ | ⟨_, rfl⟩⟩ := cleaned_mem hf
            · have := hge g (mem_picks hi hg)
              exact h.q g (List.mem_of_getElem? hg) fo (by omega) (by omega) k hk
            · exact h.q f (List.mem_of_getElem? hg) fo (by omega) h1 k hk
          · intro no hn hh
            have hk : ∀ i, 2 ≤ i → i < 386 → (d2.flush.1.sec i).now = (d2.sec i).now := fun i h0 h1 => by rw [f1 i (by omega) (by omega)]; rfl
            have hn' := hn
            unfold mayPage at hn'
            rw [show pageNow d2.flush.1 no = pageNow d2 no from reads_same 4 _ fun i h0 h1 => hk i (by omega) (by omega)]
            refine b5 no hn ?_
            by_cases hp : ∃ f ∈ picks fs is, f.no = no
            · exact .inr hp
            · left
              rw [show pageNow d1 no = pageNow d no from reads_same 4 _ fun i h0 h1 => (a5 i (by omega) (by omega)).1]
              refine h.on no hn fun f hf hfn => ?_
              obtain ⟨k, hk, hkf⟩ := List.getElem_of_mem hf
              have hg : fs[k]? = some f := by rw [List.getElem?_eq_getElem hk, hkf]
              have hki : k ∉ is := fun hki => hp ⟨f, mem_picks hki hg, hfn⟩
              have hm : (cleaned fs is)[k]? = some f := by rw [cleaned_get, if_neg hki, hg]
              exact hh f (List.mem_of_getElem? hm) hfn
      · right
        rw [if_pos (by omega)]
        exact ⟨b1, lost _ b3 b2 b4 b5⟩
    · right
      rw [if_pos (by omega)]
      refine ⟨a1, a2, nf, Nat.le_refl _, h.w.few, a3, ?_⟩
      rw [← h.w.forced]
      exact h.pg.same a4
end Go.Pl
end

section
namespace Go.Pl
open Go Go.Sx

theorem KInv.cut {Q : PQ} {now : Int → List UInt8} {fs : List Fr} {l : Log} {d : Dev} {rs : List (List UInt8)} {nf : Nat} (h : KInv Q now fs l d rs nf) {k : Nat} {g : Fr} (hg : fs[k]? = some g) (hc : g.dirty = false) : KInv Q now (Go.Pl.cut fs k) l d rs nf := by
  have hp := cut_perm hg
  refine ⟨h.w, h.pg, h.rest, fun f hf => h.fr f (cut_mem hf), fun f hf => h.lsn f (cut_mem hf), fun f hf => h.q f (cut_mem hf), fun no hn hh => h.on no hn fun f hf hfn => ?_, ?_⟩
  · rcases List.mem_cons.1 (hp.subset hf) with rfl | hf
    · exact hc
    · exact hh f hf hfn
  · have := (hp.map Fr.no).nodup_iff.1 (show (fs.map Fr.no).Nodup from h.nodup)
    exact (List.nodup_cons.1 this).2
/-- what a call leaves: all is right; or the device is gone -/
def KRes (Q : PQ) (now : Int → List UInt8) (l : Log) (rs : List (List UInt8)) (nf : Nat) (e : Int) (fs' : List Fr) (l' : Log) (d' : Dev) : Prop :=
  (e = 0 ∧ ∃ m, nf ≤ m ∧ m ≤ rs.length ∧ KInv Q now fs' l' d' rs m ∧ l'.end_ = l.end_ ∧ l'.base = l.base) ∨ (e = 5 ∧ Lost Q l.base rs nf d')
theorem roomStep_turn (fs : List Fr) (l : Log) (d : Dev) : (roomStep fs l d).2.1.sup.turn ≤ l.sup.turn + 1 := by
  unfold roomStep
  split
  · split
    · exact poolClean_turn ..
    · exact poolClean_turn ..
  · exact Nat.le_succ _
theorem poolRoom_turn (n : Nat) : ∀ (k : Nat) (fs : List Fr) (l : Log) (d : Dev), (poolRoom n k fs l d).2.1.sup.turn ≤ l.sup.turn + k := by
  intro k
  induction k with
  | zero => intro fs l d; exact Nat.le_refl _
  | succ k ih =>
    intro fs l d
    have h1 := roomStep_turn fs l d
    rw [poolRoom]
    split
    · omega
    · have := ih (roomStep fs l d).1 (roomStep fs l d).2.1 (roomStep fs l d).2.2.1
      omega
theorem KInv.step {Q : PQ} (hM : Mono Q) {now : Int → List UInt8} {fs : List Fr} {l : Log} {d : Dev} {rs : List (List UInt8)} {nf : Nat} (h : KInv Q now fs l d rs nf) (hT : l.sup.turn + 1 ≤ 4611686018427387904) (hl : 1 < fs.length) :
    KRes Q now l rs nf (roomStep fs l d).2.2.2 (roomStep fs l d).1 (roomStep fs l d).2.1 (roomStep fs l d).2.2.1 := by
  unfold roomStep
  split
  · rename_i hc
    obtain ⟨m, m0, m1, ⟨c1, c2, c3, c4, c5⟩ | ⟨c1, c2⟩⟩ := h.clean hM hT [0]
    · rw [if_neg (by omega)]
      obtain ⟨g, hg⟩ := nth (l := fs) (i := 0) (by omega)
      have hg2 : (cleaned fs [0])[0]? = some g.clean := by rw [cleaned_get, if_pos (by simp), hg]; rfl
      rw [c2]
      exact .inl ⟨rfl, m, m0, m1, c3.cut hg2 rfl, c4, c5⟩
    · rw [if_pos (by omega)]
      exact .inr ⟨c1, c2⟩
  · rename_i hc
    obtain ⟨i, hi, hil⟩ := firstAt_some hc
    rw [List.length_take] at hil
    obtain ⟨g, hg⟩ := nth (l := fs) (i := i) (by omega)
    have hgt : (fs.take (fs.length - 1))[i]? = some g := by rw [List.getElem?_take, if_pos (by omega)]; exact hg
    have hq := firstAt_true (q := isClean) (k := 0) (i := i) (by rw [hi]; simp) hgt
    rw [hi, Int.toNat_natCast]
    exact .inl ⟨rfl, nf, Nat.le_refl _, h.w.few, h.cut hg (by unfold isClean at hq; simpa using hq), rfl, rfl⟩
theorem KInv.rooms {Q : PQ} (hM : Mono Q) {now : Int → List UInt8} {n : Nat} (hn : 1 ≤ n) : ∀ (k : Nat) {fs : List Fr} {l : Log} {d : Dev} {rs : List (List UInt8)} {nf : Nat}, KInv Q now fs l d rs nf → l.sup.turn + k ≤ 4611686018427387904 → fs.length = n + k →
    KRes Q now l rs nf (poolRoom n k fs l d).2.2.2 (poolRoom n k fs l d).1 (poolRoom n k fs l d).2.1 (poolRoom n k fs l d).2.2.1 ∧ ((poolRoom n k fs l d).2.2.2 = 0 → (poolRoom n k fs l d).1.length = n) := by
  intro k
  induction k with
  | zero => intro fs l d rs nf h _ hl; exact ⟨.inl ⟨rfl, nf, Nat.le_refl _, h.w.few, h, rfl, rfl⟩, fun _ => hl⟩
  | succ k ih =>
    intro fs l d rs nf h hT hl
    have hs := h.step hM (by omega) (by omega)
    have ht := roomStep_turn fs l d
    rw [poolRoom]
    rcases hs with ⟨s1, m, m0, m1, s2, s3, s4⟩ | ⟨s1, s2⟩
    · rw [if_neg (by omega)]
      have hsl := (roomStep_last (fs := fs) (l := l) (d := d) (by omega)).2 s1
      obtain ⟨r1, r2⟩ := ih s2 (by omega) (by rw [hsl]; omega)
      refine ⟨?_, r2⟩
      rcases r1 with ⟨q1, m', p0, p1, q2, q3, q4⟩ | ⟨q1, q2⟩
      · exact .inl ⟨q1, m', by omega, p1, q2, by rw [q3, s3], by rw [q4, s4]⟩
      · rw [s4] at q2
        exact .inr ⟨q1, q2.less m0⟩
    · rw [if_pos (by omega)]
      exact ⟨.inr ⟨s1, s2⟩, fun h => by omega⟩
theorem KInv.room {Q : PQ} (hM : Mono Q) {now : Int → List UInt8} {n : Nat} (hn : 1 ≤ n) {fs : List Fr} {l : Log} {d : Dev} {rs : List (List UInt8)} {nf : Nat} (h : KInv Q now fs l d rs nf) (hT : l.sup.turn + (fs.length - n) ≤ 4611686018427387904) :
    KRes Q now l rs nf (Go.Pl.room n fs l d).2.2.2 (Go.Pl.room n fs l d).1 (Go.Pl.room n fs l d).2.1 (Go.Pl.room n fs l d).2.2.1 ∧ ((Go.Pl.room n fs l d).2.2.2 = 0 → (Go.Pl.room n fs l d).1.length ≤ n) := by
  by_cases hl : fs.length ≤ n
  · rw [room_small hl]
    exact ⟨.inl ⟨rfl, nf, Nat.le_refl _, h.w.few, h, rfl, rfl⟩, fun _ => hl⟩
  · obtain ⟨r1, r2⟩ := KInv.rooms hM hn (fs.length - n) h hT (by omega)
    exact ⟨r1, fun h => Nat.le_of_eq (r2 h)⟩

/-! ### put -/
theorem KInv.putAt {Q : PQ} {now : Int → List UInt8} {fs : List Fr} {l : Log} {d : Dev} {rs : List (List UInt8)} {nf : Nat} (h : KInv Q now fs l d rs nf) (hf : fs.length ≤ 6) {no : Int} (hn : mayPage no) {b : List UInt8} (hb : b.length = 256) {lsn : Int}
    (hl : lsn ≤ l.forced ∨ ∃ e ∈ l.ends, (e : Int) = lsn) (hq : ∀ fo : Nat, l.forced ≤ fo → lsn ≤ fo → ∀ k, k < 4 → Q fo (2 + 4 * no + (k : Nat)) (quarter k b)) :
    KInv Q (upd now no b) (Go.Pl.putAt fs no b lsn) l d rs nf ∧ (Go.Pl.putAt fs no b lsn).length ≤ 7 := by
  have hmax : ∀ a : Int, (a ≤ l.forced ∨ ∃ e ∈ l.ends, (e : Int) = a) → (max a lsn ≤ l.forced ∨ ∃ e ∈ l.ends, (e : Int) = max a lsn) := by
    intro a ha
    rcases (show max a lsn = a ∨ max a lsn = lsn by omega) with e | e
    · rw [e]; exact ha
    · rw [e]; exact hl
  unfold Go.Pl.putAt
  split
  · rename_i h0
    have hnot := found_not h0
    refine ⟨⟨h.w, h.pg, h.rest, ?_, ?_, ?_, ?_, ?_⟩, by simp; omega⟩
    · intro f hf'
      rcases List.mem_append.1 hf' with hf' | hf'
      · obtain ⟨a1, a2, a3⟩ := h.fr f hf'
        exact ⟨a1, a2, by unfold upd; rw [if_neg (hnot f hf')]; exact a3⟩
      · rw [List.mem_singleton] at hf'; subst hf'
        exact ⟨hn, hb, by unfold upd; rw [if_pos rfl]⟩
    · intro f hf'
      rcases List.mem_append.1 hf' with hf' | hf'
      · exact h.lsn f hf'
      · rw [List.mem_singleton] at hf'; subst hf'
        exact hmax 0 (.inl (by omega))
    · intro f hf' fo h1 h2 k hk
      rcases List.mem_append.1 hf' with hf' | hf'
      · exact h.q f hf' fo h1 h2 k hk
      · rw [List.mem_singleton] at hf'; subst hf'
        dsimp only at h2 ⊢
        exact hq fo h1 (by omega) k hk
    · intro k hk hh
      by_cases he : k = no
      · exfalso
        have := hh ⟨no, b, true, max 0 lsn⟩ (by simp) he.symm
        cases this
      · unfold upd; rw [if_neg he]
        exact h.on k hk fun f hf' => hh f (by simp [hf'])
    · unfold nos; rw [List.map_append]
      refine List.nodup_append.2 ⟨h.nodup, by simp, ?_⟩
      intro a ha c hc
      simp only [List.map_cons, List.map_nil, List.mem_singleton] at hc
      subst hc
      obtain ⟨f, hf', rfl⟩ := List.mem_map.1 ha
      exact hnot f hf'
  · rename_i h0
    obtain ⟨us, t, e, ht, hp⟩ := asked_some h0
    have hq' := h.perm hp
    have hlen := hp.length_eq
    rw [e]
    simp only [List.dropLast_concat, lastFr, List.getLast?_concat, Option.getD_some]
    have hnd := hq'.nodup
    unfold nos at hnd
    rw [List.map_append, List.nodup_append] at hnd
    have hus : ∀ f ∈ us, f.no ≠ no := fun f hf' he => hnd.2.2 f.no (List.mem_map.2 ⟨f, hf', rfl⟩) t.no (by simp) (by rw [he, ht])
    refine ⟨⟨h.w, h.pg, h.rest, ?_, ?_, ?_, ?_, ?_⟩, by simp at hlen ⊢; omega⟩
    · intro f hf'
      rcases List.mem_append.1 hf' with hf' | hf'
      · obtain ⟨a1, a2, a3⟩ := hq'.fr f (by simp [hf'])
        exact ⟨a1, a2, by unfold upd; rw [if_neg (hus f hf')]; exact a3⟩
      · rw [List.mem_singleton] at hf'; subst hf'
        exact ⟨by rw [ht]; exact hn, hb, by unfold upd; rw [if_pos ht]⟩
    · intro f hf'
      rcases List.mem_append.1 hf' with hf' | hf'
      · exact hq'.lsn f (by simp [hf'])
      · rw [List.mem_singleton] at hf'; subst hf'
        exact hmax t.lsn (hq'.lsn t (by simp))
    · intro f hf' fo h1 h2 k hk
      rcases List.mem_append.1 hf' with hf' | hf'
      · exact hq'.q f (by simp [hf']) fo h1 h2 k hk
      · rw [List.mem_singleton] at hf'; subst hf'
        dsimp only at h2 ⊢
        rw [ht]
        exact hq fo h1 (by omega) k hk
    · intro k hk hh
      by_cases he : k = no
      · exfalso
        have := hh ⟨t.no, b, true, max t.lsn lsn⟩ (by simp) (by rw [he]; exact ht)
        cases this
      · unfold upd; rw [if_neg he]
        refine hq'.on k hk fun f hf' hfk => ?_
        rcases List.mem_append.1 hf' with hf' | hf'
        · exact hh f (by simp [hf']) hfk
        · rw [List.mem_singleton] at hf'; subst hf'; exact absurd (hfk.symm.trans ht) he
    · unfold nos; rw [List.map_append]
      refine List.nodup_append.2 ⟨hnd.1, by simp, ?_⟩
      intro a ha c hc
      simp only [List.map_cons, List.map_nil, List.mem_singleton] at hc
      subst hc
      exact hnd.2.2 a ha t.no (by simp)
theorem KInv.put {Q : PQ} (hM : Mono Q) {now : Int → List UInt8} {fs : List Fr} {l : Log} {d : Dev} {rs : List (List UInt8)} {nf : Nat} (h : KInv Q now fs l d rs nf) (hT : l.sup.turn + 1 ≤ 4611686018427387904) (hf : fs.length ≤ 6) {no : Int} (hn : mayPage no) {b : List UInt8} (hb : b.length = 256) {lsn : Int}
    (hl : lsn ≤ l.forced ∨ ∃ e ∈ l.ends, (e : Int) = lsn) (hq : ∀ fo : Nat, l.forced ≤ fo → lsn ≤ fo → ∀ k, k < 4 → Q fo (2 + 4 * no + (k : Nat)) (quarter k b)) :
    KRes Q (upd now no b) l rs nf (poolPut fs l d no b lsn).1 (poolPut fs l d no b lsn).2.1 (poolPut fs l d no b lsn).2.2.1 (poolPut fs l d no b lsn).2.2.2 ∧ ((poolPut fs l d no b lsn).1 = 0 → (poolPut fs l d no b lsn).2.1.length ≤ 6) := by
  obtain ⟨h1, h2⟩ := h.putAt hf hn hb hl hq
  unfold poolPut
  rw [if_neg (by simpa using hn), if_neg (by omega)]
  exact h1.room hM (n := 6) (by omega) (by omega)
theorem KInv.flush {Q : PQ} (hM : Mono Q) {now : Int → List UInt8} {fs : List Fr} {l : Log} {d : Dev} {rs : List (List UInt8)} {nf : Nat} (h : KInv Q now fs l d rs nf) (hT : l.sup.turn + 1 ≤ 4611686018427387904) {no : Int} (hn : mayPage no) :
    KRes Q now l rs nf (poolFlush fs l d no).1 (poolFlush fs l d no).2.1 (poolFlush fs l d no).2.2.1 (poolFlush fs l d no).2.2.2 ∧ ((poolFlush fs l d no).1 = 0 → (poolFlush fs l d no).2.1.length = fs.length) := by
  unfold poolFlush
  rw [if_neg (by simpa using hn)]
  split
  · exact ⟨.inl ⟨rfl, nf, Nat.le_refl _, h.w.few, h, rfl, rfl⟩, fun _ => rfl⟩
  · obtain ⟨m, m0, m1, ⟨c1, c2, c3, c4, c5⟩ | ⟨c1, c2⟩⟩ := h.clean hM hT [(firstAt (isNoDirty no) 0 fs).toNat]
    · rw [c2]
      exact ⟨.inl ⟨c1, m, m0, m1, c3, c4, c5⟩, fun _ => cleaned_length _ _⟩
    · exact ⟨.inr ⟨c1, c2⟩, fun h => by dsimp only at h; omega⟩
end Go.Pl
end

section
namespace Go.Pl
open Go Go.Sx

/-- an image: its page, its bytes -/
abbrev Img := Int × List UInt8
def MayImgs (l : List Img) : Prop := l ≠ [] ∧ (∀ x ∈ l, mayPage x.1 ∧ x.2.length = 256) ∧ l.Pairwise fun x y => x.1 < y.1
noncomputable instance (l : List Img) : Decidable (MayImgs l) := Classical.propDecidable _
/-- as far as the first i -/
def MayTo (l : List Img) (i : Nat) : Prop := (∀ x ∈ l.take i, mayPage x.1 ∧ x.2.length = 256) ∧ (l.take i).Pairwise fun x y => x.1 < y.1
theorem MayTo.zero (l : List Img) : MayTo l 0 := ⟨by simp, by simp⟩
theorem MayTo.step {l : List Img} {i : Nat} {x : Img} (h : MayTo l i) (hx : l[i]? = some x) (h1 : mayPage x.1) (h2 : x.2.length = 256) (h3 : ∀ j y, i = j + 1 → l[j]? = some y → y.1 < x.1) : MayTo l (i + 1) := by
  have hs := take_succ hx
  refine ⟨fun y hy => ?_, ?_⟩
  · rw [hs] at hy
    rcases List.mem_append.1 hy with hy | hy
    · exact h.1 y hy
    · rw [List.mem_singleton] at hy; subst hy; exact ⟨h1, h2⟩
  · rw [hs, List.pairwise_append]
    refine ⟨h.2, by simp, fun a ha c hc => ?_⟩
    rw [List.mem_singleton] at hc; subst hc
    match i, h, h3, ha with
    | 0, _, _, ha => simp at ha
    | j + 1, h, h3, ha =>
      have hj : j < l.length := by have := (List.getElem?_eq_some_iff.1 hx).1; omega
      obtain ⟨y, hy⟩ := nth hj
      have hyx := h3 j y rfl hy
      have hp := h.2
      rw [take_succ hy] at ha hp
      rw [List.pairwise_append] at hp
      rcases List.mem_append.1 ha with ha | ha
      · have := hp.2.2 a ha y (by simp); omega
      · rw [List.mem_singleton] at ha; subst ha; exact hyx
theorem MayTo.all {l : List Img} (h : MayTo l l.length) (hne : 0 < l.length) : MayImgs l := by
  have h1 := h.1; have h2 := h.2
  rw [List.take_length] at h1 h2
  exact ⟨by intro e; subst e; simp at hne, h1, h2⟩
theorem MayImgs.adj {l : List Img} (h : MayImgs l) {j : Nat} {x y : Img} (hx : l[j]? = some x) (hy : l[j + 1]? = some y) : x.1 < y.1 := by
  obtain ⟨h1, e1⟩ := List.getElem?_eq_some_iff.1 hx
  obtain ⟨h2, e2⟩ := List.getElem?_eq_some_iff.1 hy
  have := List.pairwise_iff_getElem.1 h.2.2 j (j + 1) h1 h2 (by omega)
  rwa [e1, e2] at this
theorem asc_length : ∀ {l : List Img} {a : Int}, 0 ≤ a → a ≤ 96 → (∀ x ∈ l, a ≤ x.1 ∧ x.1 < 96) → (l.Pairwise fun x y => x.1 < y.1) → (l.length : Int) ≤ 96 - a := by
  intro l
  induction l with
  | nil => intro a h0 h1 _ _; simp; omega
  | cons x l ih =>
    intro a h0 h1 h hp
    obtain ⟨a1, a2⟩ := h x (by simp)
    rw [List.pairwise_cons] at hp
    have := ih (a := x.1 + 1) (by omega) (by omega) (fun y hy => ⟨by have := hp.1 y hy; omega, (h y (by simp [hy])).2⟩) hp.2
    simp only [List.length_cons]; omega
theorem MayImgs.few {l : List Img} (h : MayImgs l) : l.length ≤ 96 := by
  have := asc_length (l := l) (a := 0) (by omega) (by omega) (fun x hx => (h.2.1 x hx).1) h.2.2
  omega
theorem MayImgs.pos {l : List Img} (h : MayImgs l) : 0 < l.length := by
  cases l with
  | nil => exact absurd rfl h.1
  | cons x l => simp

/-! ### noughts at the end -/
def trim : List UInt8 → List UInt8
  | [] => []
  | c :: l => if trim l = [] ∧ c = 0 then [] else c :: trim l
theorem trim_snoc0 : ∀ (l : List UInt8), trim (l ++ [0]) = trim l := by
  intro l
  induction l with
  | nil => rfl
  | cons c l ih => rw [List.cons_append, trim, trim, ih]
theorem trim_snoc {c : UInt8} (hc : c ≠ 0) : ∀ (l : List UInt8), trim (l ++ [c]) = l ++ [c] := by
  intro l
  induction l with
  | nil => rw [List.nil_append, trim, if_neg (by simpa [trim] using hc)]; rfl
  | cons d l ih =>
    rw [List.cons_append, trim, ih, if_neg (by simp)]
theorem trim_length (l : List UInt8) : (trim l).length ≤ l.length := by
  induction l with
  | nil => simp [trim]
  | cons c l ih => rw [trim]; split <;> simp; omega
theorem trim_fill (l : List UInt8) : trim l ++ noughts (l.length - (trim l).length) = l := by
  induction l with
  | nil => rfl
  | cons c l ih =>
    rw [trim]
    split
    · rename_i h
      obtain ⟨h1, h2⟩ := h
      rw [h1] at ih
      simp only [List.length_nil, Nat.sub_zero, List.nil_append, List.length_cons] at ih ⊢
      rw [h2, show noughts (l.length + 1) = 0 :: noughts l.length from rfl, ih]
    · simp only [List.length_cons, List.cons_append, Nat.add_sub_add_right, ih]
theorem pageOf_trim {l : List UInt8} (h : l.length = 256) : pageOf (trim l) = l := by
  unfold pageOf
  have := trim_fill l
  rwa [h] at this

/-! ### images as bytes -/
def encOne (x : Img) : List UInt8 := put x.1 ++ putText (txt (trim x.2))
def encImgs (l : List Img) : List UInt8 := put (l.length : Int) ++ l.flatMap encOne
theorem putText_txt (l : List UInt8) : putText (txt l) = put (l.length : Int) ++ l := rfl
theorem put_length (n : Int) : 1 ≤ (put n).length := by unfold put; rw [putU]; split <;> simp
theorem put_len {n : Int} (h0 : 0 ≤ n) (h1 : n ≤ 65536) : 1 ≤ (put n).length ∧ (put n).length ≤ 10 := ⟨put_length n, put_ten (by omega) (by omega)⟩
theorem encOne_length {x : Img} (h : mayPage x.1 ∧ x.2.length = 256) : 1 ≤ (encOne x).length ∧ (encOne x).length ≤ 276 := by
  obtain ⟨⟨h0, h1⟩, h2⟩ := h
  have ht := trim_length x.2
  have a := put_len (n := x.1) h0 (by omega)
  have b := put_len (n := ((trim x.2).length : Int)) (by omega) (by omega)
  unfold encOne
  rw [putText_txt, List.length_append, List.length_append]
  omega
theorem encAll_length : ∀ {l : List Img}, (∀ x ∈ l, mayPage x.1 ∧ x.2.length = 256) → (l.flatMap encOne).length ≤ 276 * l.length := by
  intro l
  induction l with
  | nil => intro _; simp
  | cons x l ih =>
    intro h
    rw [List.flatMap_cons, List.length_append, List.length_cons]
    have := (encOne_length (h x (by simp))).2
    have := ih fun y hy => h y (by simp [hy])
    omega
theorem encImgs_length {l : List Img} (h : MayImgs l) : 1 ≤ (encImgs l).length ∧ (encImgs l).length ≤ 26506 := by
  have := encAll_length h.2.1
  have hf := h.few
  have a := put_len (n := (l.length : Int)) (by omega) (by omega)
  unfold encImgs
  rw [List.length_append]
  omega
theorem get_one {x : Img} (h : mayPage x.1) (rest : List UInt8) : get (encOne x ++ rest) = (x.1, ((put x.1).length : Int), 0) := by
  have := h.1; have := h.2
  unfold encOne
  rw [List.append_assoc]
  exact get_put (by omega) (by omega) _
theorem text_one {x : Img} (h : x.2.length = 256) (rest : List UInt8) : getText ((encOne x ++ rest).drop (put x.1).length) = (txt (trim x.2), ((putText (txt (trim x.2))).length : Int), 0) := by
  have ht := trim_length x.2
  unfold encOne
  rw [List.append_assoc, List.drop_left]
  refine getText_put ?_ rest
  show (trim x.2).length ≤ 65536
  omega

/-! ### laid over pages -/
abbrev Pages := Int → List UInt8
def lay (P : Pages) (l : List Img) : Pages := l.foldl (fun P x => upd P x.1 x.2) P
def layAll (P : Pages) (rss : List (List Img)) : Pages := rss.foldl lay P
def EqP (P P' : Pages) : Prop := ∀ no, mayPage no → P no = P' no
theorem EqP.refl (P : Pages) : EqP P P := fun _ _ => rfl
theorem EqP.symm {P P' : Pages} (h : EqP P P') : EqP P' P := fun no hn => (h no hn).symm
theorem EqP.trans {P P' P'' : Pages} (h : EqP P P') (h' : EqP P' P'') : EqP P P'' := fun no hn => (h no hn).trans (h' no hn)
theorem EqP.upd {P P' : Pages} (h : EqP P P') (no : Int) (b : List UInt8) : EqP (upd P no b) (upd P' no b) := fun k hk => by
  unfold Go.Pl.upd; split
  · rfl
  · exact h k hk
theorem EqP.lay : ∀ {l : List Img} {P P' : Pages}, EqP P P' → EqP (lay P l) (lay P' l) := by
  intro l
  induction l with
  | nil => intro P P' h; exact h
  | cons x l ih => intro P P' h; exact ih (h.upd _ _)
theorem lay_snoc (P : Pages) (l : List Img) (x : Img) : lay P (l ++ [x]) = upd (lay P l) x.1 x.2 := by unfold lay; rw [List.foldl_append]; rfl
theorem layAll_snoc (P : Pages) (rss : List (List Img)) (l : List Img) : layAll P (rss ++ [l]) = lay (layAll P rss) l := by unfold layAll; rw [List.foldl_append]; rfl
theorem layAll_flat (P : Pages) : ∀ (rss : List (List Img)), layAll P rss = lay P rss.flatten := by
  intro rss
  induction rss generalizing P with
  | nil => rfl
  | cons l rss ih =>
    show layAll (lay P l) rss = _
    rw [ih, List.flatten_cons]
    unfold lay; rw [List.foldl_append]
def Touches (l : List Img) (no : Int) : Prop := ∃ x ∈ l, x.1 = no
theorem Touches.append {l m : List Img} {no : Int} : Touches (l ++ m) no ↔ Touches l no ∨ Touches m no := by
  unfold Touches; simp only [List.mem_append]
  constructor
  · rintro ⟨x, h | h, e⟩
    · exact .inl ⟨x, h, e⟩
    · exact .inr ⟨x, h, e⟩
  · rintro (⟨x, h, e⟩ | ⟨x, h, e⟩)
    · exact ⟨x, .inl h, e⟩
    · exact ⟨x, .inr h, e⟩
theorem lay_off : ∀ {l : List Img} {P : Pages} {no : Int}, ¬ Touches l no → lay P l no = P no := by
  intro l
  induction l with
  | nil => intro P no _; rfl
  | cons x l ih =>
    intro P no h
    show lay (upd P x.1 x.2) l no = _
    rw [ih fun ⟨y, hy, e⟩ => h ⟨y, by simp [hy], e⟩]
    unfold upd
    rw [if_neg fun e => h ⟨x, by simp, e.symm⟩]
theorem lay_on : ∀ {l : List Img} {P P' : Pages} {no : Int}, Touches l no → lay P l no = lay P' l no := by
  intro l
  induction l with
  | nil => intro P P' no ⟨x, hx, _⟩; cases hx
  | cons x l ih =>
    intro P P' no h
    by_cases ht : Touches l no
    · exact ih ht
    · show lay (upd P x.1 x.2) l no = lay (upd P' x.1 x.2) l no
      rw [lay_off ht, lay_off ht]
      obtain ⟨y, hy, e⟩ := h
      rcases List.mem_cons.1 hy with rfl | hy
      · unfold upd; rw [if_pos e.symm, if_pos e.symm]
      · exact absurd ⟨y, hy, e⟩ ht
theorem lay_len : ∀ {l : List Img} {P : Pages}, (∀ no, mayPage no → (P no).length = 256) → (∀ x ∈ l, mayPage x.1 ∧ x.2.length = 256) → ∀ no, mayPage no → (lay P l no).length = 256 := by
  intro l
  induction l with
  | nil => intro P h _; exact h
  | cons x l ih =>
    intro P h hl
    refine ih (P := upd P x.1 x.2) (fun no hn => ?_) fun y hy => hl y (by simp [hy])
    unfold upd; split
    · exact (hl x (by simp)).2
    · exact h no hn
end Go.Pl
end

section
namespace Go.Pl
open Go Go.Sx

/-! ### a device that is gone -/
section
variable {d : Dev} (h : d.gone = true)
include h
theorem gone_write (i : Int) (b : List UInt8) : d.write i b = (d, 5) := by unfold Dev.write; rw [if_pos h]
theorem gone_flush : d.flush = (d, 5) := by unfold Dev.flush; rw [if_pos h]
theorem gone_writes (b : List UInt8) (l : List (List UInt8)) (i : Int) : d.writes i (b :: l) = (d, 5) := by
  rw [Dev.writes, gone_write h, if_pos (by simp)]
theorem gone_page {no : Int} (hn : mayPage no) {b : List UInt8} (hb : b.length = 256) : writePage d no b = (d, 5) := by
  unfold writePage quarters
  rw [if_neg (by simpa using hn), if_neg (by omega), gone_writes h]
theorem gone_wrSecs (ring : List UInt8) (k n : Nat) : (wrSecs ring d k n).1 = d ∧ ((wrSecs ring d k n).2 = 0 ∨ (wrSecs ring d k n).2 = 5) := by
  cases n with
  | zero => exact ⟨rfl, .inl rfl⟩
  | succ n => rw [wrSecs, gone_write h, if_pos (by simp)]; exact ⟨rfl, .inr rfl⟩
theorem gone_save (s : Sup) {b : List UInt8} (hb : b.length ≤ 40) : s.save d 0 b = (s, d, 5) := by
  unfold Sup.save supWrite
  rw [if_neg (by omega), gone_write h, if_pos (by simp)]
theorem gone_lwrite (l : Log) (to : Nat) : l.write d to = (l.sup, d, 5) := by
  obtain ⟨h1, h2⟩ := gone_wrSecs h l.ring (l.forced / 64) (secsTo (l.forced / 64) to)
  unfold Log.write
  rcases h2 with h2 | h2
  · rw [if_neg (by omega), h1, gone_flush h, if_pos (by simp)]
  · rw [if_pos (by omega)]
    exact Prod.ext rfl (Prod.ext h1 h2)
theorem gone_force (l : Log) (to : Int) : (l.force d to).2.1 = d ∧ ((l.force d to).2.2 = 0 ∨ (l.force d to).2.2 = 5) := by
  unfold Log.force
  split
  · exact ⟨rfl, .inr rfl⟩
  · split
    · exact ⟨rfl, .inl rfl⟩
    · rw [gone_lwrite h, if_pos (by simp)]
      exact ⟨rfl, .inr rfl⟩
end
def FrOk (fs : List Fr) : Prop := ∀ f ∈ fs, mayPage f.no ∧ f.b.length = 256
theorem FrOk.cut {fs : List Fr} (h : FrOk fs) (i : Nat) : FrOk (Go.Pl.cut fs i) := fun f hf => h f (cut_mem hf)
theorem FrOk.cleaned {fs : List Fr} (h : FrOk fs) (is : List Nat) : FrOk (Go.Pl.cleaned fs is) := fun f hf => by
  obtain ⟨k, g, hg, ⟨_, rfl⟩ | ⟨_, rfl⟩⟩ := cleaned_mem hf
  · exact h g (List.mem_of_getElem? hg)
  · exact h f (List.mem_of_getElem? hg)
theorem FrOk.picks {fs : List Fr} (h : FrOk fs) (is : List Nat) : FrOk (Go.Pl.picks fs is) := fun f hf => by
  obtain ⟨k, _, hk⟩ := picks_mem hf
  exact h f (List.mem_of_getElem? hk)
theorem FrOk.clean {fs : List Fr} (h : FrOk fs) (is : List Nat) (l : Log) (d : Dev) : FrOk (poolClean fs is l d).1 := by
  unfold poolClean
  split
  · exact h
  · split
    · exact h
    · split
      · exact h
      · split
        · exact h
        · exact h.cleaned is
theorem FrOk.step {fs : List Fr} (h : FrOk fs) (l : Log) (d : Dev) : FrOk (roomStep fs l d).1 := by
  unfold roomStep
  split
  · split
    · exact h.clean _ _ _
    · exact (h.clean _ _ _).cut _
  · exact h.cut _
theorem FrOk.rooms (n : Nat) : ∀ (k : Nat) {fs : List Fr} (_ : FrOk fs) (l : Log) (d : Dev), FrOk (poolRoom n k fs l d).1 := by
  intro k
  induction k with
  | zero => intro fs h l d; exact h
  | succ k ih =>
    intro fs h l d
    rw [poolRoom]
    split
    · exact h.step _ _
    · exact ih (h.step _ _) _ _
theorem FrOk.putAt {fs : List Fr} (h : FrOk fs) {no : Int} (hn : mayPage no) {b : List UInt8} (hb : b.length = 256) (lsn : Int) : FrOk (Go.Pl.putAt fs no b lsn) := by
  unfold Go.Pl.putAt
  split
  · intro f hf
    rcases List.mem_append.1 hf with hf | hf
    · exact h f hf
    · rw [List.mem_singleton] at hf; subst hf; exact ⟨hn, hb⟩
  · rename_i h0
    obtain ⟨us, t, e, ht, hp⟩ := asked_some h0
    rw [e]
    simp only [List.dropLast_concat, lastFr, List.getLast?_concat, Option.getD_some]
    intro f hf
    rcases List.mem_append.1 hf with hf | hf
    · exact h f (hp.symm.subset (by simp [hf]))
    · rw [List.mem_singleton] at hf; subst hf
      exact ⟨by rw [ht]; exact hn, hb⟩
theorem FrOk.put {fs : List Fr} (h : FrOk fs) {no : Int} (hn : mayPage no) {b : List UInt8} (hb : b.length = 256) (lsn : Int) (l : Log) (d : Dev) : FrOk (poolPut fs l d no b lsn).2.1 := by
  unfold poolPut
  rw [if_neg (by simpa using hn), if_neg (by omega)]
  exact FrOk.rooms _ _ (h.putAt hn hb lsn) _ _
section
variable {d : Dev} (h : d.gone = true)
include h
theorem gone_frames : ∀ (l : List Fr), FrOk l → (wrFrames d l).1 = d ∧ ((wrFrames d l).2 = 0 ∨ (wrFrames d l).2 = 5) := by
  intro l hl
  cases l with
  | nil => exact ⟨rfl, .inl rfl⟩
  | cons f l =>
    obtain ⟨h1, h2⟩ := hl f (by simp)
    rw [wrFrames, gone_page h h1 h2, if_pos (by simp)]
    exact ⟨rfl, .inr rfl⟩
theorem gone_clean {fs : List Fr} (hf : FrOk fs) (is : List Nat) (l : Log) : (poolClean fs is l d).2.2.1 = d ∧ ((poolClean fs is l d).2.2.2 = 0 ∨ (poolClean fs is l d).2.2.2 = 5) := by
  obtain ⟨f1, f2⟩ := gone_force h l (topLsn (picks fs is))
  unfold poolClean
  split
  · exact ⟨rfl, .inl rfl⟩
  · rw [f1]
    obtain ⟨g1, g2⟩ := gone_frames h (picks fs is) (hf.picks is)
    split
    · exact ⟨f1, f2⟩
    · split
      · exact ⟨g1, g2⟩
      · rw [g1, gone_flush h, if_pos (by simp)]
        exact ⟨rfl, .inr rfl⟩
theorem gone_step {fs : List Fr} (hf : FrOk fs) (l : Log) : (roomStep fs l d).2.2.1 = d ∧ ((roomStep fs l d).2.2.2 = 0 ∨ (roomStep fs l d).2.2.2 = 5) := by
  obtain ⟨c1, c2⟩ := gone_clean h hf [0] l
  unfold roomStep
  split
  · split
    · exact ⟨c1, c2⟩
    · exact ⟨c1, .inl rfl⟩
  · exact ⟨rfl, .inl rfl⟩
theorem gone_rooms (n : Nat) : ∀ (k : Nat) {fs : List Fr} (_ : FrOk fs) (l : Log), (poolRoom n k fs l d).2.2.1 = d ∧ ((poolRoom n k fs l d).2.2.2 = 0 ∨ (poolRoom n k fs l d).2.2.2 = 5) := by
  intro k
  induction k with
  | zero => intro fs _ l; exact ⟨rfl, .inl rfl⟩
  | succ k ih =>
    intro fs hf l
    obtain ⟨s1, s2⟩ := gone_step h hf l
    rw [poolRoom]
    split
    · exact ⟨s1, s2⟩
    · rw [s1]; exact ih (hf.step l d) _
theorem gone_put {fs : List Fr} (hf : FrOk fs) {no : Int} (hn : mayPage no) {b : List UInt8} (hb : b.length = 256) (lsn : Int) (l : Log) :
    (poolPut fs l d no b lsn).2.2.2 = d ∧ ((poolPut fs l d no b lsn).1 = 0 ∨ (poolPut fs l d no b lsn).1 = 5) := by
  unfold poolPut
  rw [if_neg (by simpa using hn), if_neg (by omega)]
  exact gone_rooms h _ _ (hf.putAt hn hb lsn) _
end

/-! ### turns -/
def TurnOn (d : Dev) (B : Nat) : Prop := ∀ i : Int, 0 ≤ i → i < 2 → secTurn (d.sec i).now ≤ (B : Int) ∧ secTurn (d.sec i).lasts ≤ (B : Int)
theorem TurnOn.mono {d : Dev} {B B' : Nat} (h : TurnOn d B) (hb : B ≤ B') : TurnOn d B' := fun i h0 h1 => by
  obtain ⟨a, b⟩ := h i h0 h1; exact ⟨by omega, by omega⟩
theorem secTurn_app {b r : List UInt8} (h : 12 ≤ b.length) : secTurn (b ++ r) = secTurn b := by
  unfold secTurn; rw [List.take_append_of_le_length h]
theorem TurnOn.write {d : Dev} {B : Nat} (h : TurnOn d B) (i : Int) {b : List UInt8} (hb : i < 2 → 12 ≤ b.length ∧ secTurn b ≤ (B : Int)) : TurnOn (d.write i b).1 B := by
  unfold Dev.write
  split
  · exact h
  · split
    · exact h
    · rename_i hin
      split
      · exact h
      · intro k h0 h1
        have hin' : d.in i := Classical.not_not.1 hin
        unfold Dev.in at hin'
        unfold Dev.sec
        dsimp only
        by_cases hk : k = i
        · subst hk
          rw [List.getD_eq_getElem?_getD, List.getElem?_set_self (by omega)]
          obtain ⟨a, c⟩ := hb h1
          exact ⟨by show secTurn (b ++ _) ≤ _; rw [secTurn_app a]; exact c, (h k h0 h1).2⟩
        · rw [List.getD_eq_getElem?_getD, List.getElem?_set_ne (by omega), ← List.getD_eq_getElem?_getD]
          exact h k h0 h1
theorem getD_rest (l : List Sec) (n : Nat) : (l.map Sec.rest).getD n sec0 = (l.getD n sec0).rest := by
  rw [List.getD_eq_getElem?_getD, List.getD_eq_getElem?_getD, List.getElem?_map]
  cases l[n]? <;> rfl
theorem TurnOn.flush {d : Dev} {B : Nat} (h : TurnOn d B) : TurnOn d.flush.1 B := by
  unfold Dev.flush
  split
  · exact h
  · intro i h0 h1
    unfold Dev.sec
    dsimp only
    rw [getD_rest]
    exact ⟨(h i h0 h1).1, (h i h0 h1).1⟩
theorem TurnOn.light {d : Dev} {B : Nat} (h : TurnOn d B) (n : Int) : TurnOn (d.light n) B := h
theorem TurnOn.crash {d : Dev} {B : Nat} (h : TurnOn d B) (keep : List Bool) : TurnOn (d.crash keep) B := by
  intro i h0 h1
  unfold Dev.sec Dev.crash
  dsimp only
  by_cases hi : i.toNat < d.secs.length
  · obtain ⟨a, b⟩ := crash_may keep d.secs 0 i.toNat hi
    rw [b]
    have hh := h i h0 h1
    unfold Dev.sec at hh
    rcases a with a | ⟨_, a⟩
    · rw [a]; exact ⟨hh.2, hh.2⟩
    · rw [a]; exact ⟨hh.1, hh.1⟩
  · rw [List.getD_eq_getElem?_getD, List.getElem?_eq_none (by rw [crash_length]; omega), Option.getD_none]
    have : secTurn sec0.now = 0 := secTurn_noughts
    exact ⟨by rw [this]; omega, by show secTurn sec0.now ≤ _; rw [this]; omega⟩
theorem TurnOn.writes {B : Nat} : ∀ (l : List (List UInt8)) {d : Dev} (i : Int), TurnOn d B → 2 ≤ i → TurnOn (d.writes i l).1 B := by
  intro l
  induction l with
  | nil => intro d i h _; exact h
  | cons b l ih =>
    intro d i h h0
    have hw := h.write i (b := b) (by omega)
    rw [Dev.writes]
    split
    · exact hw
    · exact ih (i + 1) hw (by omega)
theorem TurnOn.page {d : Dev} {B : Nat} (h : TurnOn d B) (no : Int) (b : List UInt8) : TurnOn (writePage d no b).1 B := by
  unfold writePage
  split
  · exact h
  · rename_i hn
    have hn : mayPage no := Classical.not_not.1 hn
    unfold mayPage at hn
    split
    · exact h
    · exact TurnOn.writes _ _ h (by omega)
theorem TurnOn.frames {B : Nat} : ∀ (l : List Fr) {d : Dev}, TurnOn d B → TurnOn (wrFrames d l).1 B := by
  intro l
  induction l with
  | nil => intro d h; exact h
  | cons f l ih =>
    intro d h
    rw [wrFrames]
    split
    · exact h.page _ _
    · exact ih (h.page _ _)
theorem TurnOn.wrSecs {B : Nat} (ring : List UInt8) : ∀ (n k : Nat) {d : Dev}, TurnOn d B → TurnOn (Go.Pl.wrSecs ring d k n).1 B := by
  intro n
  induction n with
  | zero => intro k d h; exact h
  | succ n ih =>
    intro k d h
    have hw := h.write (386 + (k % 1024 : Nat)) (b := ringSec ring (k % 1024)) (by omega)
    rw [Go.Pl.wrSecs]
    split
    · exact hw
    · exact ih (k + 1) hw
theorem TurnOn.save {d : Dev} {B : Nat} (h : TurnOn d B) {s : Sup} (hs : s.turn + 1 ≤ B) (hB : B ≤ 4611686018427387904) (b : List UInt8) : TurnOn (s.save d 0 b).2.1 B := by
  have hw : b.length ≤ 40 → ∀ i, TurnOn (d.write i (supSec (s.turn + 1) b)).1 B := fun hb i =>
    h.write i fun _ => ⟨by rw [supSec_length (by omega)]; omega, by rw [secTurn_sup (by omega)]; omega⟩
  unfold Sup.save
  split
  · exact h
  · rename_i hb
    have hw := hw (by omega)
    unfold supWrite
    split
    · exact hw _
    · split
      · exact (hw _).flush
      · exact (hw _).flush
theorem TurnOn.force {d : Dev} {B : Nat} (h : TurnOn d B) {l : Log} (hs : l.sup.turn + 1 ≤ B) (hB : B ≤ 4611686018427387904) (to : Int) : TurnOn (l.force d to).2.1 B := by
  have hw : ∀ to, TurnOn (l.write d to).2.1 B := by
    intro to
    have h1 := TurnOn.wrSecs l.ring (secsTo (l.forced / 64) to) (l.forced / 64) h
    unfold Log.write
    split
    · exact h1
    · split
      · exact h1.flush
      · exact h1.flush.save hs hB _
  unfold Log.force
  split
  · exact h
  · split
    · exact h
    · split
      · exact hw _
      · exact hw _
theorem TurnOn.clean {d : Dev} {B : Nat} (h : TurnOn d B) {l : Log} (hs : l.sup.turn + 1 ≤ B) (hB : B ≤ 4611686018427387904) (fs : List Fr) (is : List Nat) : TurnOn (poolClean fs is l d).2.2.1 B := by
  have h1 := h.force hs hB (topLsn (picks fs is))
  unfold poolClean
  split
  · exact h
  · split
    · exact h1
    · split
      · exact TurnOn.frames _ h1
      · split
        · exact (TurnOn.frames _ h1).flush
        · exact (TurnOn.frames _ h1).flush
theorem TurnOn.step {d : Dev} {B : Nat} (h : TurnOn d B) {l : Log} (hs : l.sup.turn + 1 ≤ B) (hB : B ≤ 4611686018427387904) (fs : List Fr) : TurnOn (roomStep fs l d).2.2.1 B := by
  unfold roomStep
  split
  · split
    · exact h.clean hs hB _ _
    · exact h.clean hs hB _ _
  · exact h
theorem TurnOn.rooms {B : Nat} (hB : B ≤ 4611686018427387904) (n : Nat) : ∀ (k : Nat) {d : Dev} {l : Log} (fs : List Fr), TurnOn d B → l.sup.turn + k ≤ B → TurnOn (poolRoom n k fs l d).2.2.1 B := by
  intro k
  induction k with
  | zero => intro d l fs h _; exact h
  | succ k ih =>
    intro d l fs h hs
    have h1 := h.step (l := l) (by omega) hB fs
    have ht := roomStep_turn fs l d
    rw [poolRoom]
    split
    · exact h1
    · exact ih _ h1 (by omega)
theorem TurnOn.room {d : Dev} {B : Nat} (h : TurnOn d B) {l : Log} {n : Nat} {fs : List Fr} (hs : l.sup.turn + (fs.length - n) ≤ B) (hB : B ≤ 4611686018427387904) : TurnOn (Go.Pl.room n fs l d).2.2.1 B :=
  TurnOn.rooms hB n _ fs h hs
end Go.Pl
end

section
namespace Go.Pl
open Go Go.Sx

theorem Disk.readPage {d : Dev} (h : Disk d) {no : Int} (hn : mayPage no) : Go.Pl.readPage d no = (pageNow d no, 0) := by
  have hn' := hn
  unfold mayPage at hn'
  unfold Go.Pl.readPage
  rw [if_neg (by simpa using hn), if_pos (h.in (by omega) (by omega))]
  rfl
theorem pageNow_length {d : Dev} (h : Disk d) {no : Int} (hn : mayPage no) : (pageNow d no).length = 256 := by
  unfold mayPage at hn
  have := Dev.reads_length h.ok 4 (2 + 4 * no) (by omega) (by rw [h.len]; omega)
  exact this
theorem pageNow_quarter {d : Dev} (h : Disk d) {no : Int} (hn : mayPage no) {k : Nat} (hk : k < 4) : quarter k (pageNow d no) = (d.sec (2 + 4 * no + (k : Nat))).now := by
  unfold mayPage at hn
  have l0 := (h.sok (i := 2 + 4 * no) (by omega) (by omega)).1
  have l1 := (h.sok (i := 2 + 4 * no + 1) (by omega) (by omega)).1
  have l2 := (h.sok (i := 2 + 4 * no + 1 + 1) (by omega) (by omega)).1
  have l3 := (h.sok (i := 2 + 4 * no + 1 + 1 + 1) (by omega) (by omega)).1
  unfold quarter pageNow
  simp only [Dev.reads]
  match k, hk with
  | 0, _ => rw [Nat.mul_zero, List.drop_zero, List.take_append_of_le_length (by omega), ← l0, List.take_length]; simp
  | 1, _ =>
    rw [drop_of (by omega), List.take_append_of_le_length (by omega), List.take_of_length_le (by omega)]
    congr 2
  | 2, _ =>
    rw [← List.append_assoc, drop_of (by rw [List.length_append]; omega), List.take_append_of_le_length (by omega), List.take_of_length_le (by omega)]
    congr 2; omega
  | 3, _ =>
    rw [← List.append_assoc, ← List.append_assoc, drop_of (by rw [List.length_append, List.length_append]; omega), List.append_nil, List.take_of_length_le (by omega)]
    congr 2; omega

theorem KInv.pageAt {Q : PQ} (hM : Mono Q) {now : Int → List UInt8} {fs : List Fr} {l : Log} {d : Dev} {rs : List (List UInt8)} {nf : Nat} (h : KInv Q now fs l d rs nf) {no : Int} (hn : mayPage no) (h0 : found fs no < 0) :
    pageNow d no = now no ∧ KInv Q now (fs ++ [⟨no, now no, false, 0⟩]) l d rs nf := by
  have hnot := found_not h0
  have hpg : pageNow d no = now no := h.on no hn fun f hf' he => absurd he (hnot f hf')
  have hlen : (now no).length = 256 := by rw [← hpg]; exact pageNow_length h.w.disk hn
  refine ⟨hpg, h.w, h.pg, h.rest, ?_, ?_, ?_, ?_, ?_⟩
  · intro f hf'
    rcases List.mem_append.1 hf' with hf' | hf'
    · exact h.fr f hf'
    · rw [List.mem_singleton] at hf'; subst hf'; exact ⟨hn, hlen, rfl⟩
  · intro f hf'
    rcases List.mem_append.1 hf' with hf' | hf'
    · exact h.lsn f hf'
    · rw [List.mem_singleton] at hf'; subst hf'; left; show (0 : Int) ≤ _; omega
  · intro f hf' fo h1 h2 k hk
    rcases List.mem_append.1 hf' with hf' | hf'
    · exact h.q f hf' fo h1 h2 k hk
    · rw [List.mem_singleton] at hf'; subst hf'
      dsimp only
      have hn' := hn
      unfold mayPage at hn'
      rw [← hpg, pageNow_quarter h.w.disk hn hk]
      exact hM _ _ _ _ h1 (h.pg _ (by omega) (by omega) _ (h.w.disk.may_now (by omega) (by omega)))
  · intro k hk hh; exact h.on k hk fun f hf' => hh f (by simp [hf'])
  · unfold nos; rw [List.map_append]
    refine List.nodup_append.2 ⟨h.nodup, by simp, ?_⟩
    intro a ha c hc
    simp only [List.map_cons, List.map_nil, List.mem_singleton] at hc
    subst hc
    obtain ⟨f, hf', rfl⟩ := List.mem_map.1 ha
    exact hnot f hf'
theorem KInv.page {Q : PQ} (hM : Mono Q) {now : Int → List UInt8} {fs : List Fr} {l : Log} {d : Dev} {rs : List (List UInt8)} {nf : Nat} (h : KInv Q now fs l d rs nf) (hT : l.sup.turn + 1 ≤ 4611686018427387904) (hf : fs.length ≤ 6) {no : Int} (hn : mayPage no) :
    KRes Q now l rs nf (poolPage fs l d no).2.1 (poolPage fs l d no).2.2.1 (poolPage fs l d no).2.2.2.1 (poolPage fs l d no).2.2.2.2 ∧ ((poolPage fs l d no).2.1 = 0 → (poolPage fs l d no).1 = now no ∧ (poolPage fs l d no).2.2.1.length ≤ 6) := by
  unfold poolPage
  rw [if_neg (by simpa using hn)]
  by_cases h0 : found fs no < 0
  · obtain ⟨hpg, key⟩ := h.pageAt hM hn h0
    rw [if_pos h0, h.w.disk.readPage hn, hpg]
    simp only
    rw [if_neg (by simp)]
    obtain ⟨r1, r2⟩ := key.room hM (n := 6) (by omega) (by rw [List.length_append]; simp; omega)
    split
    · rename_i hne
      rcases r1 with ⟨e, _⟩ | ⟨e, r⟩
      · exact absurd e hne
      · exact ⟨.inr ⟨e, r⟩, fun he => absurd he (by dsimp only; omega)⟩
    · rename_i hne
      have hz := Classical.not_not.1 hne
      rcases r1 with ⟨_, r⟩ | ⟨e, _⟩
      · exact ⟨.inl ⟨rfl, r⟩, fun _ => ⟨rfl, r2 hz⟩⟩
      · omega
  · obtain ⟨us, t, e, ht, hp⟩ := asked_some h0
    rw [if_neg h0, e]
    have hq := h.perm hp
    have hlen := hp.length_eq
    obtain ⟨_, _, a3⟩ := hq.fr t (by simp)
    simp only [lastFr, List.getLast?_concat, Option.getD_some]
    exact ⟨.inl ⟨rfl, nf, Nat.le_refl _, h.w.few, hq, rfl, rfl⟩, fun _ => ⟨by rw [a3, ht], by omega⟩⟩
/-- all is forced -/
theorem lead_all : ∀ {l : List Nat} {to : Int}, (∀ e ∈ l, (e : Int) ≤ to) → lead to l = l.length := by
  intro l
  induction l with
  | nil => intro to _; rfl
  | cons e l ih => intro to h; rw [lead, if_pos (h e (by simp)), ih fun x hx => h x (by simp [hx])]; rfl
theorem endAt_inj {base : Nat} {rs : List (List UInt8)} {m n : Nat} (hm : m ≤ rs.length) (hn : n ≤ rs.length) (h : endAt base rs m = endAt base rs n) : m = n := by
  rcases Nat.lt_trichotomy m n with h1 | h1 | h1
  · have := endAt_lt (base := base) h1 hn; omega
  · exact h1
  · have := endAt_lt (base := base) h1 hm; omega
theorem WInv.far_end {l : Log} {d : Dev} {rs : List (List UInt8)} {nf : Nat} (h : WInv l d rs nf) : l.far (l.end_ : Nat) = endAt l.base rs rs.length := by
  rw [Log.far_eq, lead_all (fun e he => by have := (h.ok.ends e he).2; omega), h.farAt (Nat.le_refl _), h.ends_length]
  have := h.few
  congr 1; omega
theorem KInv.force {Q : PQ} (hM : Mono Q) {now : Int → List UInt8} {fs : List Fr} {l : Log} {d : Dev} {rs : List (List UInt8)} {nf : Nat} (h : KInv Q now fs l d rs nf) (hT : l.sup.turn + 1 ≤ 4611686018427387904) :
    ((l.force d (l.end_ : Nat)).2.2 = 0 ∧ KInv Q now fs (l.force d (l.end_ : Nat)).1 (l.force d (l.end_ : Nat)).2.1 rs rs.length ∧ (l.force d (l.end_ : Nat)).1.base = l.base ∧ (l.force d (l.end_ : Nat)).1.end_ = l.end_) ∨
    ((l.force d (l.end_ : Nat)).2.2 = 5 ∧ Lost Q l.base rs nf (l.force d (l.end_ : Nat)).2.1) := by
  obtain ⟨m, hm0, hm1, hfar, hcase⟩ := Log.force_crash h.w hT (l.end_ : Nat)
  rw [h.w.far_end] at hfar
  obtain rfl := endAt_inj (Nat.le_refl _) hm1 hfar
  rcases hcase with ⟨a1, a2, a3, a4, a5⟩ | ⟨a1, a2, a3, a4⟩
  · left
    refine ⟨a1, ⟨a2, ?_, ?_, h.fr, ?_, ?_, ?_, h.nodup⟩, a3, a4⟩
    · have hfle : l.forced ≤ (l.force d (l.end_ : Nat)).1.forced := by rw [a2.forced, a3, h.w.forced]; exact endAt_mono hm0
      exact fun i h0 h1 x hx => hM _ _ _ _ hfle (h.pg.same a5 i h0 h1 x hx)
    · intro i h0 h1 x hx
      rw [h.rest i h0 h1 x ((a5 i h0 h1).2 x hx), (a5 i h0 h1).1]
    · intro f hf
      left
      have hfo : (l.force d (l.end_ : Nat)).1.forced = l.end_ := by rw [a2.forced, a3, h.w.end_]
      have hlo := h.w.ok.order
      rcases h.lsn f hf with h0 | ⟨e, he, hee⟩
      · omega
      · have := (h.w.ok.ends e he).2; omega
    · have hfle : l.forced ≤ (l.force d (l.end_ : Nat)).1.forced := by rw [a2.forced, a3, h.w.forced]; exact endAt_mono hm0
      exact fun f hf fo h0 h1 k hk => h.q f hf fo (by omega) h1 k hk
    · intro no hn hh
      have hn' := hn
      unfold mayPage at hn'
      rw [show pageNow (l.force d (l.end_ : Nat)).2.1 no = pageNow d no from reads_same 4 _ fun i h0 h1 => (a5 i (by omega) (by omega)).1]
      exact h.on no hn hh
  · right
    exact ⟨a1, a2, nf, Nat.le_refl _, h.w.few, a3, by rw [← h.w.forced]; exact h.pg.same a4⟩
/-- a record more -/
theorem KInv.append {Q : PQ} {now : Int → List UInt8} {fs : List Fr} {l : Log} {d : Dev} {rs : List (List UInt8)} {nf : Nat} (h : KInv Q now fs l d rs nf) {b : List UInt8} (hf : l.fits b.length) (hm : l.end_ ≤ 1152921504606000000) :
    (l.append b).2.2 = 0 ∧ (l.append b).2.1 = (l.append b).1.end_ ∧ (l.append b).1.end_ = l.end_ + 4 + b.length ∧ KInv Q now fs (l.append b).1 d (rs ++ [b]) nf ∧ (l.append b).1.base = l.base ∧ (l.append b).1.sup = l.sup ∧ (l.append b).1.forced = l.forced ∧ (l.append b).1.end_ ∈ (l.append b).1.ends := by
  obtain ⟨a1, a2, a3, a4, a5, a6, a7, a8⟩ := h.w.append hf hm
  refine ⟨a1, a2, a3, ⟨a4, by rw [a7]; exact h.pg, h.rest, h.fr, ?_, ?_, h.on, h.nodup⟩, a5, a6, a7, by rw [a8, a3]; simp⟩
  · intro f hf
    rw [a7, a8]
    exact (h.lsn f hf).imp id fun ⟨e, he, hee⟩ => ⟨e, by simp [he], hee⟩
  · rw [a7]; exact h.q
/-- all pages are written -/
theorem KInv.all {Q : PQ} (hM : Mono Q) {now : Int → List UInt8} {fs : List Fr} {l : Log} {d : Dev} {rs : List (List UInt8)} {nf : Nat} (h : KInv Q now fs l d rs nf) (hT : l.sup.turn + 1 ≤ 4611686018427387904) :
    KRes Q now l rs nf (poolAll fs l d).1 (poolAll fs l d).2.1 (poolAll fs l d).2.2.1 (poolAll fs l d).2.2.2 ∧ ((poolAll fs l d).1 = 0 → (poolAll fs l d).2.1.length = fs.length ∧ ∀ f ∈ (poolAll fs l d).2.1, f.dirty = false) := by
  unfold poolAll
  obtain ⟨m, m0, m1, ⟨c1, c2, c3, c4, c5⟩ | ⟨c1, c2⟩⟩ := h.clean hM hT (dirtyAt 0 fs)
  · rw [c2]
    refine ⟨.inl ⟨c1, m, m0, m1, c3, c4, c5⟩, fun _ => ⟨cleaned_length _ _, fun f hf => ?_⟩⟩
    obtain ⟨k, g, hg, ⟨_, rfl⟩ | ⟨hk, rfl⟩⟩ := cleaned_mem hf
    · rfl
    · cases hd : f.dirty with
      | false => rfl
      | true => have := dirtyAt_mem (i := 0) hg hd; rw [Nat.zero_add] at this; exact absurd this hk
  · exact ⟨.inr ⟨c1, c2⟩, fun h => by dsimp only at h; omega⟩

/-! ### the log is cut -/
def cutTail (l : Log) (d : Dev) : Log × Dev × Int :=
  if (l.sup.save d 0 (logText l.end_ l.end_)).2.2 ≠ 0 then ({ l with bad := true, sup := (l.sup.save d 0 (logText l.end_ l.end_)).1 }, (l.sup.save d 0 (logText l.end_ l.end_)).2)
  else ({ l with sup := (l.sup.save d 0 (logText l.end_ l.end_)).1, base := l.end_ }, (l.sup.save d 0 (logText l.end_ l.end_)).2.1, 0)
def logCut (l : Log) (d : Dev) : Log × Dev × Int :=
  if (l.force d (l.end_ : Nat)).2.2 ≠ 0 then l.force d (l.end_ : Nat) else cutTail (l.force d (l.end_ : Nat)).1 (l.force d (l.end_ : Nat)).2.1
/-- all is on its pages: the log is cut; or the device is gone, and the log is as it was, or cut -/
theorem KInv.cutTail {Q Q' : PQ} {now : Int → List UInt8} {fs : List Fr} {l : Log} {d : Dev} {rs : List (List UInt8)} (h : KInv Q now fs l d rs rs.length) (hT : l.sup.turn + 1 ≤ 4611686018427387904)
    (hq : ∀ fo no k, mayPage no → k < 4 → Q' fo (2 + 4 * no + (k : Nat)) (quarter k (now no))) (hc : ∀ f ∈ fs, f.dirty = false) :
    ((Go.Pl.cutTail l d).2.2 = 0 ∧ KInv Q' now fs (Go.Pl.cutTail l d).1 (Go.Pl.cutTail l d).2.1 [] 0 ∧ (Go.Pl.cutTail l d).1.base = l.end_ ∧ (Go.Pl.cutTail l d).1.end_ = l.end_ ∧ (Go.Pl.cutTail l d).1.sup.turn = l.sup.turn + 1) ∨
    ((Go.Pl.cutTail l d).2.2 = 5 ∧ (Go.Pl.cutTail l d).2.1.gone = true ∧ Fallen (Go.Pl.cutTail l d).2.1 (fun b rs' => (b = l.base ∧ rs' = rs) ∨ (b = l.end_ ∧ rs' = [])) ∧ Same 2 1410 d (Go.Pl.cutTail l d).2.1) := by
  have hlo := h.w.ok.order
  have hlm := h.w.ok.most
  have hro := h.w.ok.room
  have hfo : l.forced = l.end_ := by rw [h.w.forced, h.w.end_]
  have hends : l.ends = [] := by rw [h.w.ends, Nat.sub_self]; rfl
  have hpn : ∀ no, mayPage no → pageNow d no = now no := fun no hn => h.on no hn fun f hf _ => hc f hf
  have hpg : PgOn d (fun i x => ∀ fo, Q' fo i x) := by
    intro i h0 h1 x hx fo
    have hx := h.rest i h0 h1 x hx
    have hno : mayPage ((i - 2) / 4) := by unfold mayPage; omega
    have e := pageNow_quarter h.w.disk hno (k := ((i - 2) % 4).toNat) (by omega)
    have hi : 2 + 4 * ((i - 2) / 4) + (((i - 2) % 4).toNat : Int) = i := by omega
    rw [hi, hpn _ hno] at e
    have := hq fo _ ((i - 2) % 4).toNat hno (by omega)
    rw [hi, e] at this
    rw [hx]; exact this
  have htl := logText_length (a := l.end_) (b := l.end_) (by omega) (by omega)
  unfold Go.Pl.cutTail
  rcases save_crash (T := l.sup.turn) (sl := l.sup.slot) (b := logText l.end_ l.end_) h.w.disk rfl rfl hT (by omega) h.w.sup h.w.slot with ⟨a1, a2, a3, a4, a5, a6⟩ | ⟨a1, a2, a3, a4, a5, a6⟩
  · left
    rw [if_neg (by omega), a2]
    generalize (l.sup.save d 0 (logText l.end_ l.end_)).2.1 = d' at *
    have hsl := h.w.slot
    refine ⟨rfl, ⟨⟨a3, ⟨h.w.ok.ring, ⟨by show l.end_ ≤ l.forced; omega, hlo.2⟩, hlm, h.w.ok.ends, h.w.ok.sorted, by show l.end_ ≤ l.end_ + 65536; omega⟩, h.w.bad, Nat.le_refl _, ?_, ?_, by simp, ?_, ?_, ?_, ?_, ?_⟩, ?_, ?_, h.fr, h.lsn, ?_, ?_, h.nodup⟩, rfl, rfl, rfl⟩
    · show l.forced = endAt l.end_ [] 0; rw [endAt_zero]; exact hfo
    · show l.end_ = endAt l.end_ [] 0; rw [endAt_zero]
    · show l.ends = _; rw [hends]; rfl
    · intro p h0 h1
      have h0 : l.end_ ≤ p := h0
      have h1 : p < l.end_ := h1
      omega
    · show 0 ≤ 1 - l.sup.slot ∧ 1 - l.sup.slot ≤ 1; omega
    · show SupOn d' _ _ (logText l.end_ l.forced); rw [hfo]; exact a4
    · intro p h0 h1
      have h0 : l.end_ ≤ p := h0
      have h1 : p < l.forced := h1
      omega
    · exact fun i h0 h1 x hx => hpg.same (a5.sub (by omega) (by omega)) i h0 h1 x hx _
    · intro i h0 h1 x hx
      rw [h.rest i h0 h1 x ((a5 i (by omega) (by omega)).2 x hx), (a5 i (by omega) (by omega)).1]
    · intro f hf fo _ _ k hk
      obtain ⟨b1, b2, b3⟩ := h.fr f hf
      rw [b3]; exact hq fo _ k b1 hk
    · intro no hn hh
      have hn' := hn
      unfold mayPage at hn'
      rw [show pageNow d' no = pageNow d no from reads_same 4 _ fun i h0 h1 => (a5 i (by omega) (by omega)).1]
      exact hpn no hn
  · right
    rw [if_pos (by omega), a1]
    refine ⟨rfl, a3, ⟨a4, fun x y hx hy => ?_⟩, a5⟩
    generalize (l.sup.save d 0 (logText l.end_ l.end_)).2.1 = d' at *
    rcases a6 x y hx hy with hs | hs
    · refine ⟨l.sup.turn, l.sup.slot, l.base, rs, ?_, ?_, h.w.recs, ?_, ?_, .inl ⟨rfl, rfl⟩⟩
      · rw [← h.w.end_]; rw [hfo] at hs; exact hs
      · rw [← h.w.forced]; exact h.w.on.same (a5.sub (by omega) (by omega))
      · rw [← h.w.end_]; exact hro
      · rw [← h.w.end_]; exact hlm
    · refine ⟨l.sup.turn + 1, 1 - l.sup.slot, l.end_, [], ?_, ?_, by simp, ?_, ?_, .inr ⟨rfl, rfl⟩⟩
      · show SupIs x y (l.sup.turn + 1) (1 - l.sup.slot) (logText l.end_ (endAt l.end_ [] 0)); rw [endAt_zero]; exact hs
      · intro p h0 h1
        have h1 : p < endAt l.end_ [] 0 := h1
        rw [endAt_zero] at h1; omega
      · show endAt l.end_ [] 0 ≤ _; rw [endAt_zero]; omega
      · show endAt l.end_ [] 0 ≤ _; rw [endAt_zero]; omega
end Go.Pl
end

section
namespace Go.Pl
open Go Go.Sx

theorem Free.writes2 {d : Dev} (hf : Free d) (h : Disk d) {i : Int} (h0 : 0 ≤ i) (h1 : i < 1410) {b : List UInt8} (hb : b.length = 64) :
    (d.write i b).2 = 0 ∧ Free (d.write i b).1 ∧ Disk (d.write i b).1 ∧ (d.write i b).1.sec i = (d.sec i).put b ∧ ∀ k, 0 ≤ k → k ≠ i → (d.write i b).1.sec k = d.sec k := by
  rcases h.write h0 h1 hb with ⟨g, _⟩ | ⟨_, e, hd, e1, e2⟩
  · rw [hf.gone] at g; cases g
  · exact ⟨e, hf.write_free i b, hd, e1, e2⟩
theorem Free.flush2 {d : Dev} (hf : Free d) (h : Disk d) : d.flush.2 = 0 ∧ Free d.flush.1 ∧ Disk d.flush.1 ∧ ∀ k, 0 ≤ k → k < 1410 → d.flush.1.sec k = (d.sec k).rest := by
  rcases h.flush with ⟨g, _⟩ | ⟨_, e, hd, e1⟩
  · rw [hf.gone] at g; cases g
  · exact ⟨e, hf.flush_free, hd, e1⟩
/-- a log is made on a device that does not die -/
theorem logMake_free {d : Dev} (hf : Free d) (h : Disk d) : ∃ l d', logMake d = (some l, d', 0) ∧ Free d' ∧ WInv l d' [] 0 ∧ l.base = 0 ∧ l.forced = 0 ∧ l.end_ = 0 ∧ l.ends = [] ∧ l.sup.turn = 1 ∧
    (∀ i, 2 ≤ i → i < 1410 → (d'.sec i).now = (d.sec i).now) ∧ ∀ i, 0 ≤ i → i < 1410 → ∀ x, (d'.sec i).may x → x = (d'.sec i).now := by
  have hz : (noughts 64).length = 64 := noughts_length 64
  have ht := logText_length (a := 0) (b := 0) (by omega) (by omega)
  obtain ⟨a1, a2, a3, a4, a5⟩ := hf.writes2 h (i := 0) (by omega) (by omega) hz
  obtain ⟨b1, b2, b3, b4, b5⟩ := a2.writes2 a3 (i := 0 + 1) (by omega) (by omega) hz
  have hw : d.writes 0 [noughts 64, noughts 64] = (((d.write 0 (noughts 64)).1.write (0 + 1) (noughts 64)).1, 0) := by
    rw [Dev.writes, if_neg (by omega), Dev.writes, if_neg (by omega), Dev.writes]
  generalize hd2 : ((d.write 0 (noughts 64)).1.write (0 + 1) (noughts 64)).1 = d2 at *
  have hsl : (supSec 1 (logText 0 0)).length = 64 := supSec_length (by omega)
  obtain ⟨c1, c2, c3, c4, c5⟩ := b2.writes2 b3 (i := 0 + 0) (by omega) (by omega) hsl
  obtain ⟨f1, f2, f3, f4⟩ := c2.flush2 c3
  have hs : supWrite ⟨0, 0, []⟩ d2 0 0 1 (logText 0 0) = (⟨0, 1, logText 0 0⟩, (d2.write (0 + 0) (supSec 1 (logText 0 0))).1.flush.1, 0) := by
    unfold supWrite; rw [if_neg (by omega), if_neg (by omega)]
  generalize hd3 : (d2.write (0 + 0) (supSec 1 (logText 0 0))).1 = d3 at *
  have hm : supMake d 0 (logText 0 0) = (some ⟨0, 1, logText 0 0⟩, d3.flush.1, 0) := by
    unfold supMake
    rw [if_neg (by omega), if_neg (by rw [hf.len]; omega), hw]
    dsimp only
    rw [if_neg (by omega), hs]
    rw [if_neg (by simp)]
  have hrl := ringLoad_length f2.ok (by rw [f2.len]; omega)
  refine ⟨⟨Log.load d3.flush.1, 0, 0, 0, [], false, ⟨0, 1, logText 0 0⟩⟩, d3.flush.1, ?_, f2, ?_, rfl, rfl, rfl, rfl, rfl, ?_, ?_⟩
  · unfold logMake
    rw [if_neg (by rw [hf.len]; omega), hm]
  · refine ⟨f3, ⟨hrl, ⟨Nat.le_refl _, Nat.le_refl _⟩, by dsimp only; omega, by simp, by simp, by dsimp only; omega⟩, rfl, Nat.le_refl _, (endAt_zero _ _).symm, (endAt_zero _ _).symm, by simp, rfl, fun p h0 h1 => by dsimp only at h1; omega, ⟨by dsimp only; omega, by dsimp only; omega⟩, ?_, fun p h0 h1 => by dsimp only at h1; omega⟩
    intro x y hx hy
    rw [f4 0 (by omega) (by omega)] at hx
    rw [f4 1 (by omega) (by omega)] at hy
    have hx := may_rest hx
    have hy := may_rest hy
    rw [show (0 : Int) = 0 + 0 by omega, c4, put_now (b3.sok (by omega) (by omega)) hsl] at hx
    rw [c5 1 (by omega) (by omega), show (1 : Int) = 0 + 1 by omega, b4, put_now (a3.sok (by omega) (by omega)) hz] at hy
    subst hx; subst hy
    exact ⟨by dsimp only; omega, by dsimp only; omega, by dsimp only; omega, fun _ => ⟨rfl, by rw [secTurn_noughts]; dsimp only; omega⟩, fun h => by dsimp only at h; omega⟩
  · intro i h0 h1
    rw [f4 i (by omega) (by omega)]
    show (d3.sec i).now = _
    rw [c5 i (by omega) (by omega), b5 i (by omega) (by omega), a5 i (by omega) (by omega)]
  · intro i h0 h1 x hx
    rw [f4 i h0 h1] at hx ⊢
    rw [may_rest hx]; rfl

/-! ### opened -/
theorem reads_get {d : Dev} (h : Disk d) : ∀ (n : Nat) (i : Int) (k j : Nat), 0 ≤ i → i + n ≤ 1410 → k < n → j < 64 → (d.reads i n).getD (64 * k + j) 0 = (d.sec (i + k)).now.getD j 0 := by
  intro n
  induction n with
  | zero => intro i k j _ _ hk; omega
  | succ n ih =>
    intro i k j h0 h1 hk hj
    have hl := (h.sok (i := i) (by omega) (by omega)).1
    rw [Dev.reads]
    cases k with
    | zero =>
      rw [List.getD_eq_getElem?_getD, List.getElem?_append_left (by omega), Nat.mul_zero, Nat.zero_add, ← List.getD_eq_getElem?_getD]
      simp
    | succ k =>
      rw [List.getD_eq_getElem?_getD, List.getElem?_append_right (by omega), hl, show 64 * (k + 1) + j - 64 = 64 * k + j by omega, ← List.getD_eq_getElem?_getD, ih (i + 1) k j (by omega) (by omega) (by omega) hj]
      rw [show i + 1 + (k : Int) = i + ((k + 1 : Nat) : Int) by omega]
theorem load_get {d : Dev} (h : Disk d) (p : Nat) : (Log.load d).getD (p % 65536) 0 = ((d.sec (ringAt p)).now).getD (p % 64) 0 := by
  have := reads_get h 1024 386 (p / 64 % 1024) (p % 64) (by omega) (by omega) (by omega) (by omega)
  unfold Log.load ringAt
  rw [← this]
  congr 1
  omega
theorem ringGet_eq {ring : List UInt8} : ∀ (l : List UInt8) (at_ : Nat), (∀ i, i < l.length → ring.getD ((at_ + i) % 65536) 0 = l.getD i 0) → ringGet ring at_ l.length = l := by
  intro l
  induction l with
  | nil => intro at_ _; rfl
  | cons c l ih =>
    intro at_ h
    rw [List.length_cons, ringGet]
    congr 1
    · simpa using h 0 (by simp)
    · exact ih (at_ + 1) fun i hi => by
        have := h (i + 1) (by simpa using hi)
        rw [show at_ + 1 + i = at_ + (i + 1) by omega, this]; rfl
theorem recsFrom_stream {ring : List UInt8} {end_ : Nat} : ∀ (rs : List (List UInt8)) (base f : Nat), (∀ r ∈ rs, 1 ≤ r.length ∧ r.length ≤ 60000) → base + (stream rs).length = end_ → (stream rs).length ≤ f →
    ringGet ring base (stream rs).length = stream rs → recsFrom ring end_ f base = some rs := by
  intro rs
  induction rs with
  | nil =>
    intro base f _ he _ _
    exact recsFrom_done (by simp [stream] at he; omega)
  | cons r rs ih =>
    intro base f hr he hf hg
    obtain ⟨hr1, hr2⟩ := hr r (by simp)
    have e : stream (r :: rs) = be 4 r.length ++ (r ++ stream rs) := by simp [stream, recBytes]
    have hl : (stream (r :: rs)).length = 4 + (r.length + (stream rs).length) := by rw [e, List.length_append, List.length_append, be_length]
    have hb4 : (be 4 r.length).length = 4 := be_length _ _
    rw [hl, ringGet_add, ringGet_add, e] at hg
    obtain ⟨g1, g2⟩ := List.append_inj hg (by rw [ringGet_length, hb4])
    obtain ⟨g2, g3⟩ := List.append_inj g2 (by rw [ringGet_length])
    have hlen : recLen ring base end_ = r.length := by
      unfold recLen
      rw [if_pos (by omega), g1, fromBe_be (by have : (256 : Nat) ^ 4 = 4294967296 := by decide
                                               omega)]
    obtain ⟨f', rfl⟩ : ∃ f', f = f' + 1 := ⟨f - 1, by omega⟩
    rw [recsFrom, if_pos (by omega), hlen, if_neg (by omega), ih (base + 4 + r.length) f' (fun x hx => hr x (by simp [hx])) (by omega) (by omega) (by rw [show base + 4 + r.length = base + 4 + r.length from rfl]; exact g3), g2]
    rfl
/-- what is behind a crash can be opened -/
theorem Fallen.opens {d : Dev} {Ok : Nat → List (List UInt8) → Prop} (h : Fallen d Ok) (keep : List Bool) :
    ∃ T sl base rs, Opens (d.crash keep) ⟨sl, T, logText base (endAt base rs rs.length)⟩ base (endAt base rs rs.length) rs ∧ SupIs ((d.crash keep).sec 0).now ((d.crash keep).sec 1).now T sl (logText base (endAt base rs rs.length)) ∧ Ok base rs ∧ (∀ r ∈ rs, 1 ≤ r.length ∧ r.length ≤ 60000) ∧
      (∀ p, base ≤ p → p < endAt base rs rs.length → ((d.crash keep).sec (ringAt p)).now.getD (p % 64) 0 = (stream rs).getD (p - base) 0) := by
  obtain ⟨hd, hok⟩ := h
  obtain ⟨cd, cg, cs⟩ := hd.crash keep
  obtain ⟨T, sl, base, rs, h1, h2, h3, h4, h5, h6⟩ := hok _ _ (cs 0 (by omega) (by omega)).1 (cs 1 (by omega) (by omega)).1
  have hb : ∀ p, base ≤ p → p < endAt base rs rs.length → ((d.crash keep).sec (ringAt p)).now.getD (p % 64) 0 = (stream rs).getD (p - base) 0 := fun p h0 h1 => by
    have := ringAt_range p
    exact h2 p h0 h1 _ (cs _ (by omega) (by omega)).1
  have hle : base ≤ endAt base rs rs.length := by rw [endAt_all]; omega
  refine ⟨T, sl, base, rs, ⟨by rw [cd.len]; omega, h1.opens cd.len, rfl, hle, h4, h5, ?_⟩, h1, h6, h3, hb⟩
  rw [endAt_all] at h4 hb ⊢
  refine recsFrom_stream rs base 65536 h3 rfl (by omega) (ringGet_eq _ _ fun i hi => ?_)
  rw [load_get cd, hb (base + i) (by omega) (by omega), Nat.add_sub_cancel_left]
end Go.Pl
end

section
namespace Go.Pl
open Go Go.Sx

/-! ### how often the slots were written -/
structure Bud (B : Nat) (l : Log) (d : Dev) : Prop where
  turn : l.sup.turn ≤ B
  on : TurnOn d B
theorem Bud.mono {B B' : Nat} {l : Log} {d : Dev} (h : Bud B l d) (hb : B ≤ B') : Bud B' l d := ⟨by have := h.turn; omega, h.on.mono hb⟩
theorem Bud.force {B : Nat} {l : Log} {d : Dev} (h : Bud B l d) (hB : B + 1 ≤ 4611686018427387904) (to : Int) : Bud (B + 1) (l.force d to).1 (l.force d to).2.1 :=
  ⟨by have := Log.force_turn l d to; have := h.turn; omega, (h.on.mono (Nat.le_succ B)).force (by have := h.turn; omega) hB to⟩
theorem Bud.clean {B : Nat} {l : Log} {d : Dev} (h : Bud B l d) (hB : B + 1 ≤ 4611686018427387904) (fs : List Fr) (is : List Nat) : Bud (B + 1) (poolClean fs is l d).2.1 (poolClean fs is l d).2.2.1 :=
  ⟨by have := poolClean_turn fs is l d; have := h.turn; omega, (h.on.mono (Nat.le_succ B)).clean (by have := h.turn; omega) hB fs is⟩
theorem Bud.room {B : Nat} {l : Log} {d : Dev} (h : Bud B l d) {n k : Nat} {fs : List Fr} (hk : fs.length ≤ n + k) (hB : B + k ≤ 4611686018427387904) : Bud (B + k) (Go.Pl.room n fs l d).2.1 (Go.Pl.room n fs l d).2.2.1 :=
  ⟨by have := poolRoom_turn n (fs.length - n) fs l d; have := h.turn; unfold Go.Pl.room; omega, (h.on.mono (Nat.le_add_right B k)).room (by have := h.turn; omega) hB⟩
theorem putAt_length {fs : List Fr} (hf : fs.length ≤ 6) (no : Int) (b : List UInt8) (lsn : Int) : (putAt fs no b lsn).length ≤ 7 := by
  unfold putAt
  split
  · simp; omega
  · rename_i h0
    obtain ⟨us, t, e, ht, hp⟩ := asked_some h0
    rw [e]
    have := hp.length_eq
    simp at this ⊢; omega
theorem Bud.put {B : Nat} {l : Log} {d : Dev} (h : Bud B l d) (hB : B + 1 ≤ 4611686018427387904) {fs : List Fr} (hf : fs.length ≤ 6) (no : Int) (b : List UInt8) (lsn : Int) : Bud (B + 1) (poolPut fs l d no b lsn).2.2.1 (poolPut fs l d no b lsn).2.2.2 := by
  unfold poolPut
  split
  · exact h.mono (Nat.le_succ _)
  · split
    · exact h.mono (Nat.le_succ _)
    · exact h.room (by have := putAt_length hf no b lsn; omega) hB
theorem Bud.page {B : Nat} {l : Log} {d : Dev} (h : Bud B l d) (hB : B + 1 ≤ 4611686018427387904) {fs : List Fr} (hf : fs.length ≤ 6) (no : Int) : Bud (B + 1) (poolPage fs l d no).2.2.2.1 (poolPage fs l d no).2.2.2.2 := by
  have hr := h.room (n := 6) (k := 1) (fs := fs ++ [⟨no, (readPage d no).1, false, 0⟩]) (by simp; omega) hB
  unfold poolPage
  split
  · exact h.mono (Nat.le_succ _)
  · split
    · split
      · exact h.mono (Nat.le_succ _)
      · split
        · exact hr
        · exact hr
    · exact h.mono (Nat.le_succ _)
theorem Bud.flush {B : Nat} {l : Log} {d : Dev} (h : Bud B l d) (hB : B + 1 ≤ 4611686018427387904) (fs : List Fr) (no : Int) : Bud (B + 1) (poolFlush fs l d no).2.2.1 (poolFlush fs l d no).2.2.2 := by
  unfold poolFlush
  split
  · exact h.mono (Nat.le_succ _)
  · split
    · exact h.mono (Nat.le_succ _)
    · exact h.clean hB _ _
theorem Bud.all {B : Nat} {l : Log} {d : Dev} (h : Bud B l d) (hB : B + 1 ≤ 4611686018427387904) (fs : List Fr) : Bud (B + 1) (poolAll fs l d).2.2.1 (poolAll fs l d).2.2.2 := h.clean hB _ _
theorem Bud.cut {B : Nat} {l : Log} {d : Dev} (h : Bud B l d) (hB : B + 2 ≤ 4611686018427387904) : Bud (B + 2) (logCut l d).1 (logCut l d).2.1 := by
  have hf := h.force (by omega) (l.end_ : Nat)
  unfold logCut
  split
  · exact hf.mono (Nat.le_succ _)
  · generalize (l.force d (l.end_ : Nat)).1 = l1 at *
    generalize (l.force d (l.end_ : Nat)).2.1 = d1 at *
    have ht := Sup.save_turn l1.sup d1 0 (logText l1.end_ l1.end_)
    have h1 := hf.turn
    have h2 := (hf.on.mono (Nat.le_succ (B + 1))).save (s := l1.sup) (by omega) hB (logText l1.end_ l1.end_)
    unfold Go.Pl.cutTail
    split
    · exact ⟨by show (l1.sup.save d1 0 (logText l1.end_ l1.end_)).1.turn ≤ _; omega, h2⟩
    · exact ⟨by show (l1.sup.save d1 0 (logText l1.end_ l1.end_)).1.turn ≤ _; omega, h2⟩

/-! ### a core -/
structure Cor where
  fs : List Fr
  l : Log
  d : Dev
  down : Bool
def Cor.is (c : Cor) (e : Int) : Cor := if e ≠ 0 ∧ e ≠ 3 ∧ e ≠ 1 then { c with down := true } else c
theorem Cor.is_zero (c : Cor) : c.is 0 = c := rfl
theorem Cor.is_five (c : Cor) : c.is 5 = { c with down := true } := rfl
theorem Cor.is_d (c : Cor) (e : Int) : (c.is e).d = c.d := by unfold Cor.is; split <;> rfl
def Cor.page (c : Cor) (no : Int) : List UInt8 × Int × Cor :=
  if c.down = true then ([], 5, c)
  else ((poolPage c.fs c.l c.d no).1, (poolPage c.fs c.l c.d no).2.1, Cor.is ⟨(poolPage c.fs c.l c.d no).2.2.1, (poolPage c.fs c.l c.d no).2.2.2.1, (poolPage c.fs c.l c.d no).2.2.2.2, c.down⟩ (poolPage c.fs c.l c.d no).2.1)
def Cor.flush (c : Cor) (no : Int) : Int × Cor :=
  if c.down = true then (5, c)
  else ((poolFlush c.fs c.l c.d no).1, Cor.is ⟨(poolFlush c.fs c.l c.d no).2.1, (poolFlush c.fs c.l c.d no).2.2.1, (poolFlush c.fs c.l c.d no).2.2.2, c.down⟩ (poolFlush c.fs c.l c.d no).1)
def Cor.force (c : Cor) : Int × Cor :=
  if c.down = true then (5, c)
  else ((c.l.force c.d (c.l.end_ : Nat)).2.2, Cor.is ⟨c.fs, (c.l.force c.d (c.l.end_ : Nat)).1, (c.l.force c.d (c.l.end_ : Nat)).2.1, c.down⟩ (c.l.force c.d (c.l.end_ : Nat)).2.2)
def Cor.check (c : Cor) : Int × Cor :=
  if c.down = true then (5, c)
  else if (poolAll c.fs c.l c.d).1 ≠ 0 then ((poolAll c.fs c.l c.d).1, Cor.is ⟨(poolAll c.fs c.l c.d).2.1, (poolAll c.fs c.l c.d).2.2.1, (poolAll c.fs c.l c.d).2.2.2, c.down⟩ (poolAll c.fs c.l c.d).1)
  else ((logCut (poolAll c.fs c.l c.d).2.2.1 (poolAll c.fs c.l c.d).2.2.2).2.2, Cor.is ⟨(poolAll c.fs c.l c.d).2.1, (logCut (poolAll c.fs c.l c.d).2.2.1 (poolAll c.fs c.l c.d).2.2.2).1, (logCut (poolAll c.fs c.l c.d).2.2.1 (poolAll c.fs c.l c.d).2.2.2).2.1, c.down⟩ (logCut (poolAll c.fs c.l c.d).2.2.1 (poolAll c.fs c.l c.d).2.2.2).2.2)
/-- some pages are put; the last error is told -/
def putAll (lsn : Int) : List Img → Int → List Fr → Log → Dev → Int × List Fr × Log × Dev
  | [], bad, fs, l, d => (bad, fs, l, d)
  | x :: xs, bad, fs, l, d => putAll lsn xs (if (poolPut fs l d x.1 x.2 lsn).1 ≠ 0 then (poolPut fs l d x.1 x.2 lsn).1 else bad) (poolPut fs l d x.1 x.2 lsn).2.1 (poolPut fs l d x.1 x.2 lsn).2.2.1 (poolPut fs l d x.1 x.2 lsn).2.2.2
def Cor.roomFor (c : Cor) (n : Int) : Int × Cor := if c.l.fits n then (0, c) else c.check
def Cor.add (c : Cor) (l : List Img) : Int × Cor :=
  if (c.l.append (encImgs l)).2.2 ≠ 0 then ((c.l.append (encImgs l)).2.2, Cor.is { c with l := (c.l.append (encImgs l)).1 } (c.l.append (encImgs l)).2.2)
  else ((putAll (c.l.append (encImgs l)).2.1 l 0 c.fs (c.l.append (encImgs l)).1 c.d).1,
    Cor.is ⟨(putAll (c.l.append (encImgs l)).2.1 l 0 c.fs (c.l.append (encImgs l)).1 c.d).2.1, (putAll (c.l.append (encImgs l)).2.1 l 0 c.fs (c.l.append (encImgs l)).1 c.d).2.2.1, (putAll (c.l.append (encImgs l)).2.1 l 0 c.fs (c.l.append (encImgs l)).1 c.d).2.2.2, c.down⟩
      (putAll (c.l.append (encImgs l)).2.1 l 0 c.fs (c.l.append (encImgs l)).1 c.d).1)
noncomputable def Cor.apply (c : Cor) (l : List Img) : Int × Cor :=
  if c.down = true then (5, c) else if ¬ MayImgs l then (1, c)
  else if (c.roomFor (encImgs l).length).1 ≠ 0 then c.roomFor (encImgs l).length
  else (c.roomFor (encImgs l).length).2.add l
/-- records are put anew; the first error ends it -/
def replay : List Img → List Fr → Log → Dev → Int × List Fr × Log × Dev
  | [], fs, l, d => (0, fs, l, d)
  | x :: xs, fs, l, d => if (poolPut fs l d x.1 x.2 0).1 ≠ 0 then poolPut fs l d x.1 x.2 0 else replay xs (poolPut fs l d x.1 x.2 0).2.1 (poolPut fs l d x.1 x.2 0).2.2.1 (poolPut fs l d x.1 x.2 0).2.2.2
def corOpen (d : Dev) (s : Sup) (base end_ : Nat) (xs : List Img) : Int × Cor :=
  if (replay xs [] (openLog d s base end_) d).1 ≠ 0 then ((replay xs [] (openLog d s base end_) d).1, ⟨(replay xs [] (openLog d s base end_) d).2.1, (replay xs [] (openLog d s base end_) d).2.2.1, (replay xs [] (openLog d s base end_) d).2.2.2, true⟩)
  else Cor.check ⟨(replay xs [] (openLog d s base end_) d).2.1, (replay xs [] (openLog d s base end_) d).2.2.1, (replay xs [] (openLog d s base end_) d).2.2.2, false⟩

/-! ### what is behind a crash -/
def secOf (P : Pages) (i : Int) : List UInt8 := quarter ((i - 2) % 4).toNat (P ((i - 2) / 4))
def recs (rss : List (List Img)) : List (List UInt8) := rss.map encImgs
theorem recs_length (rss : List (List Img)) : (recs rss).length = rss.length := List.length_map _
theorem recs_take (rss : List (List Img)) (k : Nat) : (recs rss).take k = recs (rss.take k) := by unfold recs; rw [List.map_take]
theorem recs_snoc (rss : List (List Img)) (l : List Img) : recs (rss ++ [l]) = recs rss ++ [encImgs l] := by unfold recs; rw [List.map_append]; rfl
def Qc (base : Nat) (bp : Pages) (rss : List (List Img)) : PQ := fun fo i x => (∃ m, m ≤ rss.length ∧ endAt base (recs rss) m ≤ fo ∧ Touches (rss.take m).flatten ((i - 2) / 4)) ∨ x = secOf bp i
theorem Qc_mono (base : Nat) (bp : Pages) (rss : List (List Img)) : Mono (Qc base bp rss) := fun _ _ _ _ hab h => h.imp (fun ⟨m, h1, h2, h3⟩ => ⟨m, h1, Nat.le_trans h2 hab, h3⟩) id
theorem Qc_snoc {base : Nat} {bp : Pages} {rss : List (List Img)} (l : List Img) {a : Nat} {i : Int} {x : List UInt8} (h : Qc base bp rss a i x) : Qc base bp (rss ++ [l]) a i x := by
  refine h.imp (fun ⟨m, h1, h2, h3⟩ => ⟨m, by rw [List.length_append]; omega, ?_, ?_⟩) id
  · rw [recs_snoc, endAt_append (by rw [recs_length]; exact h1)]; exact h2
  · rw [List.take_append_of_le_length h1]; exact h3
theorem Qc_touch {base : Nat} {bp : Pages} {rss : List (List Img)} {fo : Nat} {no : Int} {k : Nat} {x : List UInt8} (hk : k < 4) (hf : endAt base (recs rss) (recs rss).length ≤ fo) (ht : Touches rss.flatten no) : Qc base bp rss fo (2 + 4 * no + (k : Nat)) x := by
  left
  refine ⟨rss.length, Nat.le_refl _, by rw [recs_length] at hf; exact hf, ?_⟩
  rw [List.take_length, show (2 + 4 * no + (k : Int) - 2) / 4 = no by omega]
  exact ht
theorem Qc_base {base : Nat} {bp : Pages} {rss : List (List Img)} (fo : Nat) (no : Int) (k : Nat) (hk : k < 4) : Qc base bp rss fo (2 + 4 * no + (k : Nat)) (quarter k (bp no)) := by
  right
  unfold secOf
  rw [show (2 + 4 * no + (k : Int) - 2) / 4 = no by omega, show ((2 + 4 * no + (k : Int) - 2) % 4).toNat = k by omega]
theorem page_of_secs {d : Dev} (h : Disk d) {no : Int} (hn : mayPage no) {P : List UInt8} (hP : P.length = 256) (hs : ∀ k, k < 4 → (d.sec (2 + 4 * no + (k : Nat))).now = quarter k P) : pageNow d no = P := by
  have e : ∀ b : List UInt8, b.length = 256 → b = quarter 0 b ++ (quarter 1 b ++ (quarter 2 b ++ quarter 3 b)) := by
    intro b hb
    have := quarters_flat hb
    unfold quarters at this
    simp only [List.flatten_cons, List.flatten_nil, List.append_nil] at this
    exact this.symm
  rw [e _ (pageNow_length h hn), e P hP, pageNow_quarter h hn (by omega), pageNow_quarter h hn (by omega), pageNow_quarter h hn (by omega), pageNow_quarter h hn (by omega), hs 0 (by omega), hs 1 (by omega), hs 2 (by omega), hs 3 (by omega)]

/-- the budget of a number of calls -/
def lim (n : Nat) : Nat := 1000000 * n + 1
/-- whatever is behind a crash, its pages can be -/
structure FallC (Can : Pages → Prop) (d : Dev) (n : Nat) : Prop where
  fall : Fallen d fun base rs => ∃ bp rss, rs = recs rss ∧ (∀ l ∈ rss, MayImgs l) ∧ (∀ no, mayPage no → (bp no).length = 256) ∧ PgOn d (fun i x => Touches rss.flatten ((i - 2) / 4) ∨ x = secOf bp i) ∧ (∃ P, Can P ∧ EqP P (layAll bp rss)) ∧ endAt base rs rs.length ≤ lim n
  on : TurnOn d (lim n)
theorem FallC.mono {Can Can' : Pages → Prop} {d : Dev} {n n' : Nat} (h : FallC Can d n) (hc : ∀ P, Can P → Can' P) (hn : n ≤ n') : FallC Can' d n' :=
  ⟨h.fall.mono fun _ _ ⟨bp, rss, h1, h2, h3, h4, ⟨P, h5, h6⟩, h7⟩ => ⟨bp, rss, h1, h2, h3, h4, ⟨P, hc P h5, h6⟩, by unfold lim at *; omega⟩, h.on.mono (by unfold lim; omega)⟩
theorem FallC.of {Can : Pages → Prop} {d : Dev} {n base m : Nat} {bp : Pages} {rss : List (List Img)} (hf : Fallen d (UpTo base (recs rss) m)) (hp : PgOn d (Qc base bp rss (endAt base (recs rss) m))) (hm : m ≤ rss.length) (hr : ∀ l ∈ rss, MayImgs l)
    (hb : ∀ no, mayPage no → (bp no).length = 256) (hc : ∀ k, m ≤ k → k ≤ rss.length → ∃ P, Can P ∧ EqP P (layAll bp (rss.take k))) (ht : TurnOn d (lim n)) (he : endAt base (recs rss) rss.length ≤ lim n) : FallC Can d n := by
  refine ⟨hf.mono ?_, ht⟩
  rintro b rs ⟨rfl, k, k0, k1, rfl⟩
  rw [recs_length] at k1
  refine ⟨bp, rss.take k, recs_take _ _, fun l hl => hr l (List.mem_of_mem_take hl), hb, fun i h0 h1 x hx => ?_, hc k k0 k1, ?_⟩
  · refine (hp i h0 h1 x hx).imp (fun ⟨j, j1, j2, y, hy, hyy⟩ => ?_) id
    have hjm : j ≤ k := by
      refine Nat.le_of_not_lt fun hlt => ?_
      have := endAt_lt (base := b) (rs := recs rss) (m := m) (n := j) (by omega) (by rw [recs_length]; exact j1)
      omega
    obtain ⟨l, hl, hyl⟩ := List.mem_flatten.1 hy
    refine ⟨y, List.mem_flatten.2 ⟨l, ?_, hyl⟩, hyy⟩
    have : rss.take j = (rss.take k).take j := by rw [List.take_take, Nat.min_eq_left hjm]
    rw [this] at hl
    exact List.mem_of_mem_take hl
  · rw [endAt_take (by rw [recs_length]; exact k1)]
    exact Nat.le_trans (endAt_mono k1) he

/-- a core that is up: its pages are now's, and behind a crash they can be what Can says -/
structure CorI (Can : Pages → Prop) (now : Pages) (c : Cor) (n : Nat) : Prop where
  k : ∃ bp rss nf nw, KInv (Qc c.l.base bp rss) nw c.fs c.l c.d (recs rss) nf ∧ EqP nw now ∧ EqP (layAll bp rss) now ∧ (∀ l ∈ rss, MayImgs l) ∧ (∀ no, mayPage no → (bp no).length = 256) ∧ ∀ k, nf ≤ k → k ≤ rss.length → ∃ P, Can P ∧ EqP P (layAll bp (rss.take k))
  few : c.fs.length ≤ 6
  up : c.down = false
  bud : Bud (lim n) c.l c.d
  end_ : c.l.end_ ≤ lim n
theorem CorI.mono {Can Can' : Pages → Prop} {now : Pages} {c : Cor} {n n' : Nat} (h : CorI Can now c n) (hc : ∀ P, Can P → Can' P) (hn : n ≤ n') : CorI Can' now c n' := by
  obtain ⟨bp, rss, nf, nw, h1, h2, h3, h4, h5, h6⟩ := h.k
  exact ⟨⟨bp, rss, nf, nw, h1, h2, h3, h4, h5, fun k k0 k1 => by obtain ⟨P, p1, p2⟩ := h6 k k0 k1; exact ⟨P, hc P p1, p2⟩⟩, h.few, h.up, h.bud.mono (by unfold lim; omega), by have := h.end_; unfold lim at *; omega⟩
theorem CorI.eq {Can : Pages → Prop} {now now' : Pages} {c : Cor} {n : Nat} (h : CorI Can now c n) (he : EqP now now') : CorI Can now' c n := by
  obtain ⟨bp, rss, nf, nw, h1, h2, h3, h4, h5, h6⟩ := h.k
  exact ⟨⟨bp, rss, nf, nw, h1, h2.trans he, h3.trans he, h4, h5, h6⟩, h.few, h.up, h.bud, h.end_⟩
theorem CorI.fall {Can : Pages → Prop} {now : Pages} {c : Cor} {n : Nat} (h : CorI Can now c n) : FallC Can c.d n := by
  obtain ⟨bp, rss, nf, nw, h1, h2, h3, h4, h5, h6⟩ := h.k
  have hf := h1.w.few
  rw [recs_length] at hf
  refine FallC.of h1.w.fallen (by rw [← h1.w.forced]; exact h1.pg) hf h4 h5 h6 h.bud.on ?_
  have := h1.w.end_
  rw [recs_length] at this
  rw [← this]; exact h.end_
theorem CorI.can {Can : Pages → Prop} {now : Pages} {c : Cor} {n : Nat} (h : CorI Can now c n) : ∃ P, Can P ∧ EqP P now := by
  obtain ⟨bp, rss, nf, nw, h1, h2, h3, h4, h5, h6⟩ := h.k
  have hf := h1.w.few
  rw [recs_length] at hf
  obtain ⟨P, p1, p2⟩ := h6 rss.length hf (Nat.le_refl _)
  rw [List.take_length] at p2
  exact ⟨P, p1, p2.trans h3⟩
/-- what a call leaves: all is right; or the core is down, and the device gone -/
def CRes (Can : Pages → Prop) (now : Pages) (e : Int) (c : Cor) (n : Nat) : Prop := (e = 0 ∧ CorI Can now c n) ∨ (e = 5 ∧ c.down = true ∧ c.d.gone = true ∧ FallC Can c.d n)
theorem lost_fall {Can : Pages → Prop} {d : Dev} {n base nf : Nat} {bp : Pages} {rss : List (List Img)} (h : Lost (Qc base bp rss) base (recs rss) nf d) (hr : ∀ l ∈ rss, MayImgs l)
    (hb : ∀ no, mayPage no → (bp no).length = 256) (hc : ∀ k, nf ≤ k → k ≤ rss.length → ∃ P, Can P ∧ EqP P (layAll bp (rss.take k))) (ht : TurnOn d (lim n)) (he : endAt base (recs rss) rss.length ≤ lim n) : d.gone = true ∧ FallC Can d n := by
  obtain ⟨h1, m, m0, m1, h2, h3⟩ := h
  rw [recs_length] at m1
  exact ⟨h1, FallC.of h2 h3 m1 hr hb (fun k k0 k1 => hc k (by omega) k1) ht he⟩
theorem CorI.end_eq {now : Pages} {c : Cor} {nw bp : Pages} {rss : List (List Img)} {nf n : Nat} (h1 : KInv (Qc c.l.base bp rss) nw c.fs c.l c.d (recs rss) nf) (he : c.l.end_ ≤ lim n) : endAt c.l.base (recs rss) rss.length ≤ lim n := by
  have := h1.w.end_
  rw [recs_length] at this
  rw [← this]; exact he
/-- a call of the pool -/
theorem CorI.res {Can : Pages → Prop} {now : Pages} {c : Cor} {n : Nat} (h : CorI Can now c n) {e : Int} {fs : List Fr} {l : Log} {d : Dev} {B : Nat}
    (hr : ∀ {bp rss nf nw}, KInv (Qc c.l.base bp rss) nw c.fs c.l c.d (recs rss) nf → KRes (Qc c.l.base bp rss) nw c.l (recs rss) nf e fs l d) (hf : e = 0 → fs.length ≤ 6) (hB : Bud B l d) (hb : B ≤ lim (n + 1)) :
    CRes Can now e (Cor.is ⟨fs, l, d, c.down⟩ e) (n + 1) := by
  obtain ⟨bp, rss, nf, nw, h1, h2, h3, h4, h5, h6⟩ := h.k
  have hbud := hB.mono hb
  have hend := h.end_
  have hlim : lim n ≤ lim (n + 1) := by unfold lim; omega
  rcases hr h1 with ⟨e0, m, m0, m1, k1, k2, k3⟩ | ⟨e5, hl⟩
  · left
    subst e0
    refine ⟨rfl, ?_⟩
    rw [Cor.is_zero]
    refine ⟨⟨bp, rss, m, nw, by rw [← k3] at k1; exact k1, h2, h3, h4, h5, fun k k0 kk => h6 k (by omega) kk⟩, hf rfl, h.up, hbud, by show l.end_ ≤ _; omega⟩
  · right
    subst e5
    rw [Cor.is_five]
    obtain ⟨g1, g2⟩ := lost_fall (Can := Can) (n := n + 1) hl h4 h5 h6 hbud.on (Nat.le_trans (CorI.end_eq (now := now) h1 hend) hlim)
    exact ⟨rfl, rfl, g1, g2⟩
theorem turn_few {n : Nat} (hn : n ≤ 100000000000) {k : Nat} (hk : k ≤ 1000000) : lim n + k ≤ 4611686018427387904 ∧ lim n + k ≤ lim (n + 1) := by unfold lim; omega
theorem CorI.page {Can : Pages → Prop} {now : Pages} {c : Cor} {n : Nat} (h : CorI Can now c n) (hn : n ≤ 100000000000) {no : Int} (hno : mayPage no) :
    CRes Can now (c.page no).2.1 (c.page no).2.2 (n + 1) ∧ ((c.page no).2.1 = 0 → (c.page no).1 = now no) := by
  obtain ⟨t1, t2⟩ := turn_few hn (k := 1) (by omega)
  have ht := h.bud.turn
  unfold Cor.page
  rw [if_neg (by rw [h.up]; simp)]
  obtain ⟨bp, rss, nf, nw, h1, h2, h3, h4, h5, h6⟩ := h.k
  have hpg := (h1.page (Qc_mono _ _ _) (by omega) h.few hno).2
  exact ⟨h.res (fun hk => (hk.page (Qc_mono _ _ _) (by omega) h.few hno).1) (fun e => (hpg e).2) (h.bud.page t1 h.few no) t2, fun e => ((hpg e).1).trans (h2 no hno)⟩
theorem CorI.page_no {Can : Pages → Prop} {now : Pages} {c : Cor} {n : Nat} (h : CorI Can now c n) {no : Int} (hno : ¬ mayPage no) : c.page no = ([], 3, c) := by
  unfold Cor.page poolPage
  rw [if_neg (by rw [h.up]; simp), if_pos hno]
  rfl
theorem CorI.flush {Can : Pages → Prop} {now : Pages} {c : Cor} {n : Nat} (h : CorI Can now c n) (hn : n ≤ 100000000000) {no : Int} (hno : mayPage no) : CRes Can now (c.flush no).1 (c.flush no).2 (n + 1) := by
  obtain ⟨t1, t2⟩ := turn_few hn (k := 1) (by omega)
  have ht := h.bud.turn
  unfold Cor.flush
  rw [if_neg (by rw [h.up]; simp)]
  obtain ⟨bp, rss, nf, nw, h1, h2, h3, h4, h5, h6⟩ := h.k
  have hpg := (h1.flush (Qc_mono _ _ _) (by omega) hno).2
  exact h.res (fun hk => (hk.flush (Qc_mono _ _ _) (by omega) hno).1) (fun e => by have := h.few; rw [hpg e]; exact this) (h.bud.flush t1 _ no) t2
theorem CorI.flush_no {Can : Pages → Prop} {now : Pages} {c : Cor} {n : Nat} (h : CorI Can now c n) {no : Int} (hno : ¬ mayPage no) : c.flush no = (3, c) := by
  unfold Cor.flush poolFlush
  rw [if_neg (by rw [h.up]; simp), if_pos hno]
  rfl
/-- all is forced: behind a crash it is as it is -/
theorem CorI.force {Can : Pages → Prop} {now : Pages} {c : Cor} {n : Nat} (h : CorI Can now c n) (hn : n ≤ 100000000000) :
    ((c.force).1 = 0 ∧ CorI (fun P => EqP P now) now (c.force).2 (n + 1)) ∨ ((c.force).1 = 5 ∧ (c.force).2.down = true ∧ (c.force).2.d.gone = true ∧ FallC Can (c.force).2.d (n + 1)) := by
  obtain ⟨t1, t2⟩ := turn_few hn (k := 1) (by omega)
  have ht := h.bud.turn
  have hbud := (h.bud.force t1 (c.l.end_ : Nat)).mono t2
  have hend := h.end_
  have hlim : lim n ≤ lim (n + 1) := by unfold lim; omega
  unfold Cor.force
  rw [if_neg (by rw [h.up]; simp)]
  obtain ⟨bp, rss, nf, nw, h1, h2, h3, h4, h5, h6⟩ := h.k
  rcases h1.force (Qc_mono _ _ _) (by omega) with ⟨e0, k1, k2, k3⟩ | ⟨e5, hl⟩
  · left
    dsimp only
    rw [e0, Cor.is_zero]
    refine ⟨rfl, ⟨bp, rss, _, nw, by rw [← k2] at k1; exact k1, h2, h3, h4, h5, fun k k0 kk => ⟨layAll bp (rss.take k), ?_, EqP.refl _⟩⟩, h.few, h.up, hbud, by show (c.l.force c.d (c.l.end_ : Nat)).1.end_ ≤ _; omega⟩
    rw [recs_length] at k0
    rw [List.take_of_length_le k0]; exact h3
  · right
    dsimp only
    rw [e5, Cor.is_five]
    obtain ⟨g1, g2⟩ := lost_fall (Can := Can) (n := n + 1) hl h4 h5 h6 hbud.on (Nat.le_trans (CorI.end_eq (now := now) h1 hend) hlim)
    exact ⟨rfl, rfl, g1, g2⟩
end Go.Pl
end

section
namespace Go.Pl
open Go Go.Sx

/-! ### checked -/
theorem Qc_now (base : Nat) (nw : Pages) : ∀ fo no k, mayPage no → k < 4 → Qc base nw [] fo (2 + 4 * no + (k : Nat)) (quarter k (nw no)) := fun fo no k _ hk => Qc_base fo no k hk
theorem CorI.check {Can : Pages → Prop} {now : Pages} {c : Cor} {n : Nat} (h : CorI Can now c n) (hn : n ≤ 100000000000) :
    ((c.check).1 = 0 ∧ CorI (fun P => EqP P now) now (c.check).2 (n + 1) ∧ (∀ f ∈ (c.check).2.fs, f.dirty = false) ∧ (c.check).2.l.base = (c.check).2.l.end_) ∨
    ((c.check).1 = 5 ∧ (c.check).2.down = true ∧ (c.check).2.d.gone = true ∧ FallC Can (c.check).2.d (n + 1)) := by
  obtain ⟨t1, t2⟩ := turn_few hn (k := 3) (by omega)
  have ht := h.bud.turn
  have hend := h.end_
  have hlim : lim n ≤ lim (n + 1) := by unfold lim; omega
  have hfew := h.few
  have hbA := h.bud.all (by omega) c.fs
  obtain ⟨bp, rss, nf, nw, h1, h2, h3, h4, h5, h6⟩ := h.k
  have hee := Nat.le_trans (CorI.end_eq (now := now) h1 hend) hlim
  unfold Cor.check
  rw [if_neg (by rw [h.up]; simp)]
  obtain ⟨r1, r2⟩ := h1.all (Qc_mono _ _ _) (by omega)
  rcases r1 with ⟨e0, m, m0, m1, k1, k2, k3⟩ | ⟨e5, hl⟩
  · obtain ⟨r2, r3⟩ := r2 e0
    rw [if_neg (by omega)]
    generalize (poolAll c.fs c.l c.d).2.1 = fs1 at *
    generalize (poolAll c.fs c.l c.d).2.2.1 = l1 at *
    generalize (poolAll c.fs c.l c.d).2.2.2 = d1 at *
    have hbC := (hbA.cut (by omega)).mono t2
    have ht1 := hbA.turn
    have hbF := hbA.force (by omega) (l1.end_ : Nat)
    unfold logCut at *
    rcases k1.force (Qc_mono _ _ _) (by omega) with ⟨f0, q1, q2, q3⟩ | ⟨f5, hl⟩
    · rw [if_neg (by omega)] at *
      generalize (l1.force d1 (l1.end_ : Nat)).1 = l2 at *
      generalize (l1.force d1 (l1.end_ : Nat)).2.1 = d2 at *
      have ht2 := hbF.turn
      have hbp : ∀ no, mayPage no → (nw no).length = 256 := fun no hno => by
        rw [← q1.on no hno fun f hf _ => r3 f hf]; exact pageNow_length q1.w.disk hno
      rcases q1.cutTail (Q' := Qc l2.end_ nw []) (by omega) (Qc_now _ _) r3 with ⟨g0, p1, p2, p3, p4⟩ | ⟨g5, g, p1, p2⟩
      · left
        rw [g0, Cor.is_zero]
        refine ⟨rfl, ⟨⟨nw, [], 0, nw, by rw [← p2] at p1; exact p1, h2, h2, by simp, hbp, fun k _ hk => ⟨nw, h2, ?_⟩⟩, by show fs1.length ≤ 6; omega, h.up, hbC, by show (cutTail l2 d2).1.end_ ≤ _; omega⟩, r3, by show (cutTail l2 d2).1.base = (cutTail l2 d2).1.end_; omega⟩
        have : k = 0 := by simpa using hk
        subst this
        exact EqP.refl _
      · right
        rw [g5, Cor.is_five]
        refine ⟨rfl, rfl, g, ⟨p1.mono ?_, hbC.on⟩⟩
        have hcan := h6 rss.length (by have := h1.w.few; rwa [recs_length] at this) (Nat.le_refl _)
        rw [List.take_length] at hcan
        rintro b rs (⟨rfl, rfl⟩ | ⟨rfl, rfl⟩)
        · refine ⟨bp, rss, rfl, h4, h5, fun i i0 i1 x hx => ?_, hcan, ?_⟩
          · refine (q1.pg.same (p2.sub (by omega) (by omega)) i i0 i1 x hx).imp (fun ⟨j, j1, j2, y, hy, hyy⟩ => ?_) id
            obtain ⟨l, hl, hyl⟩ := List.mem_flatten.1 hy
            exact ⟨y, List.mem_flatten.2 ⟨l, List.mem_of_mem_take hl, hyl⟩, hyy⟩
          · rw [recs_length, q2, k3]; exact hee
        · obtain ⟨P, p3, p4⟩ := hcan
          refine ⟨nw, [], rfl, by simp, hbp, fun i i0 i1 x hx => .inr ?_, ⟨P, p3, p4.trans (h3.trans h2.symm)⟩, ?_⟩
          · have hx := q1.rest i i0 i1 x ((p2 i (by omega) (by omega)).2 x hx)
            have hno : mayPage ((i - 2) / 4) := by unfold mayPage; omega
            have e := pageNow_quarter q1.w.disk hno (k := ((i - 2) % 4).toNat) (by omega)
            rw [show 2 + 4 * ((i - 2) / 4) + (((i - 2) % 4).toNat : Int) = i by omega, q1.on _ hno fun f hf _ => r3 f hf] at e
            rw [hx, ← e]; rfl
          · rw [endAt_all]
            show l2.end_ + 0 ≤ _
            omega
    · right
      rw [if_pos (by omega)] at *
      rw [f5, Cor.is_five]
      rw [k3] at hl
      obtain ⟨g1, g2⟩ := lost_fall (Can := Can) (n := n + 1) hl h4 h5 (fun k k0 kk => h6 k (by omega) kk) hbC.on hee
      exact ⟨rfl, rfl, g1, g2⟩
  · right
    rw [if_pos (by omega), e5, Cor.is_five]
    obtain ⟨g1, g2⟩ := lost_fall (Can := Can) (n := n + 1) hl h4 h5 h6 (hbA.on.mono (by omega)) hee
    exact ⟨rfl, rfl, g1, g2⟩

/-! ### changed -/
theorem last_in {l : Log} {d : Dev} {rs : List (List UInt8)} {nf : Nat} (h : WInv l d rs nf) : ((endAt l.base rs rs.length : Nat) : Int) ≤ l.forced ∨ ∃ e ∈ l.ends, (e : Int) = (endAt l.base rs rs.length : Nat) := by
  by_cases hn : nf = rs.length
  · left; rw [h.forced, hn]; omega
  · right
    have := h.few
    refine ⟨endAt l.base rs rs.length, ?_, rfl⟩
    rw [h.ends]
    exact List.mem_map.2 ⟨rs.length, by rw [List.mem_range'_1]; omega, rfl⟩
theorem FrOk.ofK {Q : PQ} {now : Pages} {fs : List Fr} {l : Log} {d : Dev} {rs : List (List UInt8)} {nf : Nat} (h : KInv Q now fs l d rs nf) : FrOk fs := fun f hf => ⟨(h.fr f hf).1, (h.fr f hf).2.1⟩
/-- on a device that is gone -/
theorem putAll_gone {d : Dev} (hg : d.gone = true) (lsn : Int) : ∀ (xs : List Img) {fs : List Fr} (l : Log), FrOk fs → (∀ x ∈ xs, mayPage x.1 ∧ x.2.length = 256) → (putAll lsn xs 5 fs l d).1 = 5 ∧ (putAll lsn xs 5 fs l d).2.2.2 = d := by
  intro xs
  induction xs with
  | nil => intro fs l _ _; exact ⟨rfl, rfl⟩
  | cons x xs ih =>
    intro fs l hf hx
    obtain ⟨x1, x2⟩ := hx x (by simp)
    obtain ⟨g1, g2⟩ := gone_put hg hf x1 x2 lsn l
    have h5 : (if (poolPut fs l d x.1 x.2 lsn).1 ≠ 0 then (poolPut fs l d x.1 x.2 lsn).1 else 5) = 5 := by
      rcases g2 with g2 | g2 <;> rw [g2] <;> simp
    rw [putAll, h5, g1]
    exact ih _ (hf.put x1 x2 lsn l d) fun y hy => hx y (by simp [hy])
theorem putAll_res {base : Nat} {bp : Pages} {rss : List (List Img)} {ts : List Img} (hts : ∀ x ∈ ts, Touches rss.flatten x.1) {E : Nat} (hend : endAt base (recs rss) (recs rss).length = E) :
    ∀ (xs : List Img) {nw : Pages} {fs : List Fr} {l : Log} {d : Dev} {nf B : Nat}, (∀ x ∈ xs, x ∈ ts) → (∀ x ∈ xs, mayPage x.1 ∧ x.2.length = 256) → KInv (Qc base bp rss) nw fs l d (recs rss) nf → l.base = base → fs.length ≤ 6 → Bud B l d → B + xs.length ≤ 4611686018427387904 →
    ((putAll E xs 0 fs l d).1 = 0 ∧ (∃ m, nf ≤ m ∧ m ≤ rss.length ∧ KInv (Qc base bp rss) (lay nw xs) (putAll E xs 0 fs l d).2.1 (putAll E xs 0 fs l d).2.2.1 (putAll E xs 0 fs l d).2.2.2 (recs rss) m) ∧
      (putAll E xs 0 fs l d).2.1.length ≤ 6 ∧ (putAll E xs 0 fs l d).2.2.1.base = base ∧ (putAll E xs 0 fs l d).2.2.1.end_ = l.end_ ∧ Bud (B + xs.length) (putAll E xs 0 fs l d).2.2.1 (putAll E xs 0 fs l d).2.2.2) ∨
     ((putAll E xs 0 fs l d).1 = 5 ∧ Lost (Qc base bp rss) base (recs rss) nf (putAll E xs 0 fs l d).2.2.2 ∧ TurnOn (putAll E xs 0 fs l d).2.2.2 (B + xs.length)) := by
  intro xs
  induction xs with
  | nil =>
    intro nw fs l d nf B _ _ h hb hf hB _
    have := h.w.few
    rw [recs_length] at this
    exact .inl ⟨rfl, ⟨nf, Nat.le_refl _, this, h⟩, hf, hb, rfl, hB⟩
  | cons x xs ih =>
    intro nw fs l d nf B hxs hx h hb hf hB hlen
    simp only [List.length_cons] at hlen ⊢
    obtain ⟨x1, x2⟩ := hx x (by simp)
    have hbt := hB.turn
    have hBp := hB.put (by omega) hf x.1 x.2 E
    have hl := last_in h.w
    rw [hb, hend] at hl
    have hp := h.put (Qc_mono _ _ _) (by omega) hf x1 x2 (lsn := E) hl (fun fo _ h1 k hk => Qc_touch hk (by rw [hend]; omega) (hts x (hxs x (by simp))))
    have hFr := (FrOk.ofK h).put x1 x2 E l d
    have e1 : B + (xs.length + 1) = B + 1 + xs.length := by omega
    rw [putAll, e1]
    obtain ⟨⟨e0, m, m0, m1, k1, k2, k3⟩ | ⟨e5, hlost⟩, hlen6⟩ := hp
    · have h6 := hlen6 e0
      rw [e0, if_neg (by simp)]
      generalize (poolPut fs l d x.1 x.2 E).2.1 = fs1 at *
      generalize (poolPut fs l d x.1 x.2 E).2.2.1 = l1 at *
      generalize (poolPut fs l d x.1 x.2 E).2.2.2 = d1 at *
      rcases ih (fun y hy => hxs y (by simp [hy])) (fun y hy => hx y (by simp [hy])) k1 (by rw [k3]; exact hb) h6 hBp (by omega) with ⟨p0, ⟨m', p1, p2, p3⟩, p4, p5, p6, p7⟩ | ⟨p0, p1, p2⟩
      · exact .inl ⟨p0, ⟨m', by omega, p2, p3⟩, p4, p5, by rw [p6, k2], p7⟩
      · exact .inr ⟨p0, p1.less m0, p2⟩
    · rw [e5, if_pos (by simp)]
      generalize (poolPut fs l d x.1 x.2 E).2.1 = fs1 at *
      generalize (poolPut fs l d x.1 x.2 E).2.2.1 = l1 at *
      generalize (poolPut fs l d x.1 x.2 E).2.2.2 = d1 at *
      rw [hb] at hlost
      obtain ⟨q1, q2⟩ := putAll_gone hlost.1 E xs l1 hFr fun y hy => hx y (by simp [hy])
      rw [q2]
      exact .inr ⟨q1, hlost, hBp.on.mono (by omega)⟩
theorem lay_pages {l : List Img} (h : MayImgs l) {rss : List (List Img)} : ∀ x ∈ l, Touches (rss ++ [l]).flatten x.1 := fun x hx => ⟨x, by simp [hx], rfl⟩
/-- a change more: it is there; behind a crash it may be there -/
theorem CorI.add {Can : Pages → Prop} {now : Pages} {c : Cor} {n : Nat} (h : CorI Can now c n) (hn : n ≤ 100000000000) {l : List Img} (hm : MayImgs l) (hf : c.l.fits (encImgs l).length) :
    CRes (fun P => Can P ∨ EqP P (lay now l)) (lay now l) (c.add l).1 (c.add l).2 (n + 1) := by
  obtain ⟨t1, t2⟩ := turn_few hn (k := 96) (by omega)
  have hend := h.end_
  have hbud := h.bud
  have hfew := hm.few
  obtain ⟨e1, e2⟩ := encImgs_length hm
  obtain ⟨bp, rss, nf, nw, h1, h2, h3, h4, h5, h6⟩ := h.k
  have hlm : c.l.end_ ≤ 1152921504606000000 := by unfold lim at hend; omega
  obtain ⟨a1, a2, a3, a4, a5, a6, a7, a8⟩ := h1.append hf hlm
  rw [← recs_snoc] at a4
  have a4 := a4.mono fun a i x hx => Qc_snoc (base := c.l.base) (bp := bp) l hx
  unfold Cor.add
  rw [if_neg (by omega), a2]
  generalize (c.l.append (encImgs l)).1 = l1 at *
  have hB1 : Bud (lim n) l1 c.d := ⟨by rw [a6]; exact hbud.turn, hbud.on⟩
  have hE := a4.w.end_
  rw [a5] at hE
  have hcan : ∀ k, nf ≤ k → k ≤ (rss ++ [l]).length → ∃ P, (Can P ∨ EqP P (lay now l)) ∧ EqP P (layAll bp ((rss ++ [l]).take k)) := by
    intro k k0 k1
    rw [List.length_append, List.length_singleton] at k1
    by_cases hk : k ≤ rss.length
    · obtain ⟨P, p1, p2⟩ := h6 k k0 hk
      exact ⟨P, .inl p1, by rw [List.take_append_of_le_length hk]; exact p2⟩
    · have : k = (rss ++ [l]).length := by rw [List.length_append, List.length_singleton]; omega
      rw [this, List.take_length, layAll_snoc]
      exact ⟨lay now l, .inr (EqP.refl _), h3.symm.lay⟩
  have hval : ∀ x ∈ rss ++ [l], MayImgs x := fun x hx => by
    rcases List.mem_append.1 hx with hx | hx
    · exact h4 x hx
    · rw [List.mem_singleton] at hx; subst hx; exact hm
  have hlimE : endAt c.l.base (recs (rss ++ [l])) (rss ++ [l]).length ≤ lim (n + 1) := by
    rw [recs_length] at hE
    rw [← hE, a3]; unfold lim at hend ⊢; omega
  rcases putAll_res (lay_pages hm) hE.symm l (fun x hx => hx) hm.2.1 a4 a5 h.few hB1 (by omega) with ⟨p0, ⟨m, m0, m1, p1⟩, p2, p3, p4, p5⟩ | ⟨p0, p1, p2⟩
  · left
    rw [p0, Cor.is_zero]
    refine ⟨rfl, ⟨bp, rss ++ [l], m, lay nw l, by rw [← p3] at p1; exact p1, h2.lay, by rw [layAll_snoc]; exact h3.lay, hval, h5, fun k k0 k1 => hcan k (by omega) k1⟩, p2, h.up, p5.mono (by omega), ?_⟩
    show (putAll l1.end_ l 0 c.fs l1 c.d).2.2.1.end_ ≤ _
    rw [p4, a3]; unfold lim at hend ⊢; omega
  · right
    rw [p0, Cor.is_five]
    obtain ⟨g1, g2⟩ := lost_fall (Can := fun P => Can P ∨ EqP P (lay now l)) (n := n + 1) p1 hval h5 hcan (p2.mono (by omega)) hlimE
    exact ⟨rfl, rfl, g1, g2⟩
theorem CorI.apply {Can : Pages → Prop} {now : Pages} {c : Cor} {n : Nat} (h : CorI Can now c n) (hn : n < 100000000000) {l : List Img} (hm : MayImgs l) :
    CRes (fun P => Can P ∨ EqP P (lay now l)) (lay now l) (c.apply l).1 (c.apply l).2 (n + 2) := by
  obtain ⟨e1, e2⟩ := encImgs_length hm
  unfold Cor.apply Cor.roomFor
  rw [if_neg (by rw [h.up]; simp), if_neg (by simpa using hm)]
  by_cases hf : c.l.fits (encImgs l).length
  · rw [if_pos hf, if_neg (by simp)]
    rcases h.add (by omega) hm hf with ⟨a, b⟩ | ⟨a, b, c, d⟩
    · exact .inl ⟨a, b.mono (fun _ h => h) (by omega)⟩
    · exact .inr ⟨a, b, c, d.mono (fun _ h => h) (by omega)⟩
  · rw [if_neg hf]
    rcases h.check (by omega) with ⟨a, b, _, hbe⟩ | ⟨a, b, c, d⟩
    · rw [if_neg (by omega)]
      have hf2 : (c.check).2.l.fits (encImgs l).length := by unfold Log.fits; omega
      have hcan := h.can
      rcases b.add (by omega) hm hf2 with ⟨p, q⟩ | ⟨p, q, r, s⟩
      · refine .inl ⟨p, ?_⟩
        obtain ⟨bp, rss, nf, nw, h1, h2, h3, h4, h5, h6⟩ := q.k
        refine ⟨⟨bp, rss, nf, nw, h1, h2, h3, h4, h5, fun k k0 k1 => ?_⟩, q.few, q.up, q.bud, q.end_⟩
        obtain ⟨P, p1, p2⟩ := h6 k k0 k1
        rcases p1 with p1 | p1
        · obtain ⟨P', q1, q2⟩ := hcan
          exact ⟨P', .inl q1, q2.trans (p1.symm.trans p2)⟩
        · exact ⟨P, .inr p1, p2⟩
      · refine .inr ⟨p, q, r, s.fall.mono ?_, s.on⟩
        rintro b' rs ⟨bp, rss, h1, h2, h3, h4, ⟨P, p1, p2⟩, h7⟩
        refine ⟨bp, rss, h1, h2, h3, h4, ?_, h7⟩
        rcases p1 with p1 | p1
        · obtain ⟨P', q1, q2⟩ := hcan
          exact ⟨P', .inl q1, q2.trans (p1.symm.trans p2)⟩
        · exact ⟨P, .inr p1, p2⟩
    · rw [if_pos (by omega)]
      exact .inr ⟨a, b, c, d.mono (fun _ h => .inl h) (by omega)⟩
theorem CorI.apply_no {Can : Pages → Prop} {now : Pages} {c : Cor} {n : Nat} (h : CorI Can now c n) {l : List Img} (hm : ¬ MayImgs l) : c.apply l = (1, c) := by
  unfold Cor.apply
  rw [if_neg (by rw [h.up]; simp), if_pos hm]

/-! ### opened behind a crash -/
theorem replay_res {base : Nat} {bp : Pages} {rss : List (List Img)} {ts : List Img} (hts : ∀ x ∈ ts, Touches rss.flatten x.1) :
    ∀ (xs : List Img) {nw : Pages} {fs : List Fr} {l : Log} {d : Dev} {B : Nat}, (∀ x ∈ xs, x ∈ ts) → (∀ x ∈ xs, mayPage x.1 ∧ x.2.length = 256) → KInv (Qc base bp rss) nw fs l d (recs rss) rss.length → l.base = base → fs.length ≤ 6 → Bud B l d → B + xs.length ≤ 4611686018427387904 →
    ((replay xs fs l d).1 = 0 ∧ KInv (Qc base bp rss) (lay nw xs) (replay xs fs l d).2.1 (replay xs fs l d).2.2.1 (replay xs fs l d).2.2.2 (recs rss) rss.length ∧
      (replay xs fs l d).2.1.length ≤ 6 ∧ (replay xs fs l d).2.2.1.base = base ∧ (replay xs fs l d).2.2.1.end_ = l.end_ ∧ Bud (B + xs.length) (replay xs fs l d).2.2.1 (replay xs fs l d).2.2.2) ∨
     ((replay xs fs l d).1 = 5 ∧ Lost (Qc base bp rss) base (recs rss) rss.length (replay xs fs l d).2.2.2 ∧ TurnOn (replay xs fs l d).2.2.2 (B + xs.length)) := by
  intro xs
  induction xs with
  | nil =>
    intro nw fs l d B _ _ h hb hf hB _
    exact .inl ⟨rfl, h, hf, hb, rfl, hB⟩
  | cons x xs ih =>
    intro nw fs l d B hxs hx h hb hf hB hlen
    simp only [List.length_cons] at hlen ⊢
    obtain ⟨x1, x2⟩ := hx x (by simp)
    have hbt := hB.turn
    have hBp := hB.put (by omega) hf x.1 x.2 0
    have hfo := h.w.forced
    rw [hb] at hfo
    have hp := h.put (Qc_mono _ _ _) (by omega) hf x1 x2 (lsn := 0) (.inl (by omega)) (fun fo h0 _ k hk => Qc_touch hk (by rw [recs_length]; omega) (hts x (hxs x (by simp))))
    have e1 : B + (xs.length + 1) = B + 1 + xs.length := by omega
    rw [replay, e1]
    obtain ⟨⟨e0, m, m0, m1, k1, k2, k3⟩ | ⟨e5, hlost⟩, hlen6⟩ := hp
    · have h6 := hlen6 e0
      rw [recs_length] at m1
      obtain rfl : m = rss.length := by omega
      rw [if_neg (by omega)]
      exact (ih (fun y hy => hxs y (by simp [hy])) (fun y hy => hx y (by simp [hy])) k1 (by rw [k3]; exact hb) h6 hBp (by omega)).imp (fun ⟨p0, p1, p2, p3, p4, p5⟩ => ⟨p0, p1, p2, p3, by rw [p4, k2], p5⟩) id
    · rw [if_pos (by omega)]
      rw [hb] at hlost
      exact .inr ⟨e5, hlost, hBp.on.mono (by omega)⟩
theorem images_few : ∀ (rss : List (List Img)), (∀ l ∈ rss, MayImgs l) → rss.flatten.length ≤ (stream (recs rss)).length := by
  intro rss
  induction rss with
  | nil => intro _; simp [recs, stream]
  | cons l rss ih =>
    intro h
    have h1 := ih fun x hx => h x (by simp [hx])
    have hl := h l (by simp)
    have h2 : l.length ≤ (encImgs l).length := by
      have : ∀ m : List Img, (∀ x ∈ m, mayPage x.1 ∧ x.2.length = 256) → m.length ≤ (m.flatMap encOne).length := by
        intro m
        induction m with
        | nil => intro _; simp
        | cons x m ih =>
          intro hm
          have := ih fun y hy => hm y (by simp [hy])
          have := (encOne_length (hm x (by simp))).1
          rw [List.flatMap_cons, List.length_append, List.length_cons]
          omega
      have := this l hl.2.1
      unfold encImgs
      rw [List.length_append]
      omega
    rw [List.flatten_cons, List.length_append]
    show _ ≤ (recBytes (encImgs l) ++ stream (recs rss)).length
    rw [List.length_append, recBytes_length]
    omega
/-- a log is opened behind a crash, whatever fuse is lit then -/
theorem FallC.opened {d : Dev} {Can : Pages → Prop} {n : Nat} (h : FallC Can d n) (keep : List Bool) {fu : Option Nat} {dd : Bool} (hfu : ∀ m, fu = some m → m ≤ 9223372036854775807) {d' : Dev} (hd' : d' = ⟨(d.crash keep).secs, fu, dd⟩) :
    ∃ s base end_ rss bp, end_ = endAt base (recs rss) (recs rss).length ∧ Opens d' s base end_ (recs rss) ∧ (∀ l ∈ rss, MayImgs l) ∧ (∀ no, mayPage no → (bp no).length = 256) ∧ (∃ P, Can P ∧ EqP P (layAll bp rss)) ∧ end_ ≤ lim n ∧
      KInv (Qc base bp rss) (pageNow d') [] (openLog d' s base end_) d' (recs rss) rss.length ∧ (∀ no, mayPage no → Touches rss.flatten no ∨ pageNow d' no = bp no) ∧ Bud (lim n) (openLog d' s base end_) d' := by
  have hdisk := h.fall.1
  obtain ⟨cd, cg, cs⟩ := hdisk.crash keep
  obtain ⟨T, sl, base, rs, ho, hs, ⟨bp, rss, rfl, h2, h3, h4, h5, h6⟩, h7, h8⟩ := h.fall.opens keep
  have hon := h.on.crash keep
  have hsec : ∀ i, d'.sec i = (d.crash keep).sec i := fun i => by subst hd'; rfl
  have hdk : Disk d' := by
    refine ⟨⟨?_, ?_, ?_, ?_⟩, ?_, fun i h0 h1 h2 => ?_⟩
    · subst hd'; exact cd.ok.secs
    · subst hd'; exact cd.ok.pos
    · subst hd'; exact cd.ok.most
    · subst hd'; exact hfu
    · subst hd'; exact cd.len
    · rw [hsec] at h2 ⊢; exact cd.calm i h0 h1 h2
  have ho' : Opens d' ⟨sl, T, logText base (endAt base (recs rss) (recs rss).length)⟩ base (endAt base (recs rss) (recs rss).length) (recs rss) := by
    have e : Log.load d' = Log.load (d.crash keep) := reads_same 1024 386 fun i _ _ => by rw [hsec]
    refine ⟨?_, ?_, ho.text, ho.order, ho.room, ho.most, by rw [e]; exact ho.recs⟩
    · subst hd'; exact ho.len
    · subst hd'; exact ho.sup
  have hmay : ∀ i, 0 ≤ i → i < 1410 → ∀ x, (d'.sec i).may x → x = (d'.sec i).now := by
    intro i h0 h1 x hx
    rw [hsec] at hx ⊢
    obtain ⟨_, c2, c3⟩ := cs i h0 h1
    rcases hx with hx | ⟨hx, _⟩
    · rw [hx, c2]
    · rw [c3] at hx; cases hx
  have hT : T ≤ lim n := by
    have hr := hs.turn
    obtain ⟨s0, s1⟩ := hs.is
    have hsl := hs.slot
    by_cases hz : sl = 0
    · obtain ⟨e, _⟩ := s0 hz
      have := (hon 0 (by omega) (by omega)).1
      rw [e, secTurn_sup hr.2] at this; omega
    · obtain ⟨e, _⟩ := s1 (by omega)
      have := (hon 1 (by omega) (by omega)).1
      rw [e, secTurn_sup hr.2] at this; omega
  have hpg : ∀ i, 2 ≤ i → i < 386 → Touches rss.flatten ((i - 2) / 4) ∨ (d'.sec i).now = secOf bp i := fun i h0 h1 => by
    rw [hsec]; exact h4 i h0 h1 _ (cs i (by omega) (by omega)).1
  refine ⟨⟨sl, T, logText base (endAt base (recs rss) (recs rss).length)⟩, base, _, rss, bp, rfl, ho', h2, h3, h5, h6, ⟨⟨hdk, openLog_ok hdk.ok ho', rfl, by rw [recs_length]; exact Nat.le_refl _, ?_, rfl, h7, ?_, ?_, hs.slot, ?_, ?_⟩, ?_, ?_, by simp, by simp, by simp, fun _ _ _ => rfl, by simp [nos]⟩, ?_, ⟨hT, ?_⟩⟩
  · show endAt base (recs rss) (recs rss).length = endAt base (recs rss) rss.length; rw [recs_length]
  · show [] = _; rw [recs_length, Nat.sub_self]; rfl
  · intro p p0 p1
    have p0 : base ≤ p := p0
    have p1 : p < endAt base (recs rss) (recs rss).length := p1
    show (Log.load d').getD (p % 65536) 0 = _
    rw [load_get hdk, hsec]; exact h8 p p0 p1
  · intro x y hx hy
    rw [hmay 0 (by omega) (by omega) x hx, hmay 1 (by omega) (by omega) y hy, hsec, hsec]
    exact hs
  · intro p p0 p1 x hx
    have p0 : base ≤ p := p0
    have p1 : p < endAt base (recs rss) (recs rss).length := p1
    have := ringAt_range p
    rw [hmay _ (by omega) (by omega) x hx, hsec]
    exact h8 p p0 p1
  · intro i h0 h1 x hx
    rw [hmay i (by omega) (by omega) x hx]
    refine (hpg i h0 h1).imp (fun ht => ⟨rss.length, Nat.le_refl _, ?_, by rw [List.take_length]; exact ht⟩) id
    show endAt base (recs rss) rss.length ≤ endAt base (recs rss) (recs rss).length
    rw [recs_length]; exact Nat.le_refl _
  · exact fun i h0 h1 x hx => hmay i (by omega) (by omega) x hx
  · intro no hn
    have hn' := hn
    unfold mayPage at hn'
    by_cases ht : Touches rss.flatten no
    · exact .inl ht
    · right
      refine page_of_secs hdk hn (h3 no hn) fun k hk => ?_
      rcases hpg (2 + 4 * no + (k : Nat)) (by omega) (by omega) with h | h
      · rw [show (2 + 4 * no + (k : Int) - 2) / 4 = no by omega] at h; exact absurd h ht
      · rw [h]; unfold secOf
        rw [show (2 + 4 * no + (k : Int) - 2) / 4 = no by omega, show ((2 + 4 * no + (k : Int) - 2) % 4).toNat = k by omega]
  · intro i h0 h1
    rw [hsec]; exact hon i h0 h1
/-- opened: the pages are what they can be; or the device is gone in it -/
theorem FallC.core {d : Dev} {Can : Pages → Prop} {n : Nat} (h : FallC Can d n) (hn : n < 100000000000) (keep : List Bool) {fu : Option Nat} {dd : Bool} (hfu : ∀ m, fu = some m → m ≤ 9223372036854775807) {d' : Dev} (hd' : d' = ⟨(d.crash keep).secs, fu, dd⟩) :
    ∃ s base end_ rss, Opens d' s base end_ (recs rss) ∧ (∀ l ∈ rss, MayImgs l) ∧ s.turn ≤ lim n ∧ rss.flatten.length ≤ 65536 ∧ end_ ≤ lim n ∧
      ((replay rss.flatten [] (openLog d' s base end_) d').1 = 0 → ∃ Q nw nf, Mono Q ∧ KInv Q nw (replay rss.flatten [] (openLog d' s base end_) d').2.1 (replay rss.flatten [] (openLog d' s base end_) d').2.2.1 (replay rss.flatten [] (openLog d' s base end_) d').2.2.2 (recs rss) nf ∧ (replay rss.flatten [] (openLog d' s base end_) d').2.2.1.sup.turn + 2 ≤ 4611686018427387904) ∧
      (((corOpen d' s base end_ rss.flatten).1 = 0 ∧ ∃ P, Can P ∧ CorI (fun P' => EqP P' P) P (corOpen d' s base end_ rss.flatten).2 (n + 2) ∧ (∀ f ∈ (corOpen d' s base end_ rss.flatten).2.fs, f.dirty = false)) ∨
       ((corOpen d' s base end_ rss.flatten).1 = 5 ∧ FallC Can (corOpen d' s base end_ rss.flatten).2.d (n + 2) ∧ (corOpen d' s base end_ rss.flatten).2.d.gone = true)) := by
  obtain ⟨s, base, end_, rss, bp, he, ho, h2, h3, ⟨P, p1, p2⟩, h6, hk, hpg, hB⟩ := h.opened keep hfu hd'
  obtain ⟨t1, t2⟩ := turn_few (n := n) (by omega) (k := 65536) (by omega)
  have hfew : rss.flatten.length ≤ 65536 := by
    have := images_few rss h2
    have hr := ho.room
    rw [he, endAt_all] at hr
    omega
  refine ⟨s, base, end_, rss, ho, h2, hB.turn, hfew, h6, ?_⟩
  have hcan : ∀ k, rss.length ≤ k → k ≤ rss.length → ∃ P, Can P ∧ EqP P (layAll bp (rss.take k)) := fun k k0 k1 => by
    rw [List.take_of_length_le k0]; exact ⟨P, p1, p2⟩
  have hnow : EqP (lay (pageNow d') rss.flatten) (layAll bp rss) := fun no hno => by
    rw [layAll_flat]
    rcases hpg no hno with ht | hb
    · exact lay_on ht
    · by_cases ht : Touches rss.flatten no
      · exact lay_on ht
      · rw [lay_off ht, lay_off ht, hb]
  have hokx : ∀ x ∈ rss.flatten, mayPage x.1 ∧ x.2.length = 256 := fun x hx => by
    obtain ⟨l, hl, hxl⟩ := List.mem_flatten.1 hx
    exact (h2 l hl).2.1 x hxl
  have hee : endAt base (recs rss) rss.length ≤ lim (n + 1) := by rw [he, recs_length] at h6; unfold lim at *; omega
  unfold corOpen
  rcases replay_res (ts := rss.flatten) (fun x hx => ⟨x, hx, rfl⟩) rss.flatten (fun x hx => hx) hokx hk rfl (by simp) hB (by omega) with ⟨r0, r1, r2, r3, r4, r5⟩ | ⟨r0, r1, r2⟩
  · refine ⟨fun _ => ⟨_, _, _, Qc_mono _ _ _, r1, by have := r5.turn; unfold lim at *; omega⟩, ?_⟩
    rw [if_neg (by omega)]
    have hI : CorI Can P ⟨(replay rss.flatten [] (openLog d' s base end_) d').2.1, (replay rss.flatten [] (openLog d' s base end_) d').2.2.1, (replay rss.flatten [] (openLog d' s base end_) d').2.2.2, false⟩ (n + 1) := by
      refine ⟨⟨bp, rss, rss.length, _, by dsimp only; rw [r3]; exact r1, hnow.trans p2.symm, p2.symm, h2, h3, hcan⟩, r2, rfl, r5.mono (by omega), ?_⟩
      show (replay rss.flatten [] (openLog d' s base end_) d').2.2.1.end_ ≤ _
      rw [r4]
      show end_ ≤ _
      unfold lim at *; omega
    rcases hI.check (by omega) with ⟨c0, c1, c2, _⟩ | ⟨c0, c1, c2, c3⟩
    · exact .inl ⟨c0, P, p1, c1, c2⟩
    · exact .inr ⟨c0, c3, c2⟩
  · refine ⟨fun h => by omega, ?_⟩
    rw [if_pos (by omega)]
    right
    obtain ⟨g1, g2⟩ := lost_fall (Can := Can) (n := n + 1) r1 h2 h3 hcan (r2.mono (by omega)) hee
    exact ⟨r0, g2.mono (fun _ h => h) (by omega), g1⟩
/-- on a device that does not die nothing falls -/
theorem CRes.ok {Can : Pages → Prop} {now : Pages} {e : Int} {c : Cor} {n : Nat} (h : CRes Can now e c n) (hg : c.d.gone = false) : e = 0 ∧ CorI Can now c n := by
  rcases h with h | ⟨_, _, h, _⟩
  · exact h
  · rw [hg] at h; cases h
end Go.Pl
end

section
namespace Go.Pl
open Go Go.Sx

theorem txt_cut (l : List UInt8) (n : Nat) : (txt l).extract 0 n = txt (l.take n) := by
  apply ByteArray.ext
  rw [ByteArray.data_extract]
  apply Array.ext'
  simp
structure Im where
  no : Int
  v : Value
  b : List UInt8
def encIm (x : Im) : List Value := [.int .i64 x.no, x.v]
def Im.img (x : Im) : Img := (x.no, x.b)
def imgs (ts : List Im) : List Img := ts.map Im.img
/-- images that can be read -/
structure ImsAt (hs : List Chunk) (v : Value) (ts : List Im) : Prop where
  row : Row encIm 2 hs v ts
  each : ∀ t ∈ ts, Row encB 1 hs t.v t.b
  few : ts.length ≤ 9223372036854775807
  len : ∀ t ∈ ts, t.b.length ≤ 9223372036854775807
theorem ImsAt.mono {hs hs' : List Chunk} {v : Value} {ts : List Im} (h : ImsAt hs v ts) (hh : ∀ b o, Has hs b o → Has hs' b o) : ImsAt hs' v ts := ⟨h.row.mono hh, fun t ht => (h.each t ht).mono hh, h.few, h.len⟩
theorem ImsAt.there {A : Chunk} {hs : List Chunk} {v : Value} {ts : List Im} (h : ImsAt hs v ts) : ImsAt (A :: hs) v ts := h.mono fun _ _ => .there
theorem imgs_at {ts : List Im} {i : Nat} {t : Im} (h : ts[i]? = some t) : (imgs ts)[i]? = some t.img := by unfold imgs; rw [List.getElem?_map, h]; rfl
theorem imgs_length (ts : List Im) : (imgs ts).length = ts.length := List.length_map _
theorem imgs_take (ts : List Im) (i : Nat) : imgs (ts.take i) = (imgs ts).take i := by unfold imgs; rw [List.map_take]
theorem imgs_append (ts us : List Im) : imgs (ts ++ us) = imgs ts ++ imgs us := by unfold imgs; rw [List.map_append]
theorem oneC_slice {α : Type} {enc : α → List Value} {sz : Nat} {hs : List Chunk} {v : Value} {xs : List α} (h : Row enc sz hs v xs) : oneC v = true := by
  obtain ⟨a, c, rfl⟩ := h.len; rfl
theorem _root_.Go.Sx.Own.oneC {α : Type} {enc : α → List Value} {sz e : Nat} {v : Value} {xs : List α} {H : Chunk} (h : Own enc sz e v xs H) : oneC v = true := oneC_slice (h.row (hs := []))
/-- images of one's own: each with its chunk -/
abbrev It := Im × Chunk
def itChunk (us : List It) : Chunk := (us.map (·.2)).flatten
theorem itChunk_snoc (us : List It) (u : It) : itChunk (us ++ [u]) = itChunk us ++ u.2 := by unfold itChunk; simp
structure OwnIms (tI tU : Nat) (v : Value) (ts : List Im) (H : Chunk) : Prop where
  is : ∃ us K, us.map (·.1) = ts ∧ (∀ u ∈ us, Own encB 1 tU u.1.v u.1.b u.2) ∧ Own encIm 2 tI v ts K ∧ H = K ++ itChunk us
theorem has_split {A B : Chunk} {hs : List Chunk} {b : Nat} {o : Obj} (h : Has (A :: B :: hs) b o) : Has ((A ++ B) :: hs) b o :=
  Has.of_mem (by have := h.mem; simpa using this)
theorem has_in {us : List It} {u : It} (hu : u ∈ us) {hs : List Chunk} {b : Nat} {o : Obj} (h : Has [u.2] b o) : Has (itChunk us :: hs) b o := by
  refine .here ?_
  have hm := h.mem
  simp only [List.flatten_cons, List.flatten_nil, List.append_nil] at hm
  unfold itChunk
  exact List.mem_flatten.2 ⟨u.2, List.mem_map.2 ⟨u, hu, rfl⟩, hm⟩
theorem has_one_there {A : Chunk} {hs : List Chunk} {b : Nat} {o : Obj} (h : Has [A] b o) : Has (A :: hs) b o := Has.of_mem (by have := h.mem; simp at this; simp [this])
theorem OwnIms.at {tI tU : Nat} {v : Value} {ts : List Im} {H : Chunk} (h : OwnIms tI tU v ts H) (hf : ts.length ≤ 9223372036854775807) (hl : ∀ t ∈ ts, t.b.length ≤ 9223372036854775807) {hs : List Chunk} : ImsAt (H :: hs) v ts := by
  obtain ⟨us, K, rfl, h2, h3, rfl⟩ := h.is
  refine ⟨(h3.row (hs := [])).mono fun b o hb => has_split (has_one_there hb), fun t ht => ?_, hf, hl⟩
  obtain ⟨u, hu, rfl⟩ := List.mem_map.1 ht
  exact ((h2 u hu).row (hs := [])).mono fun b o hb => has_split (.there (has_in hu hb))

/-! ### a core in memory: the struct, its pool, its log; the device is by itself -/
structure IsCor (tU tI tSP tL tF tP tFp tC : Nat) (p pd : Value) (c : Cor) (H : Chunk) : Prop where
  is : ∃ b pw pp HP HL, p = .pointer (some ⟨b, 0, none⟩) ∧ IsPool tU tF tP tFp pp pd pw c.fs HP ∧ IsLog tU tI tSP tL pw pd c.l HL ∧ H = [(b, blk [pw, pp, .bool c.down] tC (0, 0))] ++ (HP ++ HL)
theorem IsCor.ptr {tU tI tSP tL tF tP tFp tC : Nat} {p pd : Value} {c : Cor} {H : Chunk} (h : IsCor tU tI tSP tL tF tP tFp tC p pd c H) : ∃ b, p = .pointer (some ⟨b, 0, none⟩) := by
  obtain ⟨b, _, _, _, _, e, _⟩ := h.is; exact ⟨b, e⟩
def downIf (e : Int) (dn : Bool) : Bool := if e ≠ 0 ∧ e ≠ 3 ∧ e ≠ 1 then true else dn
theorem Cor.is_eq (fs : List Fr) (l : Log) (d : Dev) (dn : Bool) (e : Int) : Cor.is ⟨fs, l, d, dn⟩ e = ⟨fs, l, d, downIf e dn⟩ := by
  unfold Cor.is downIf; split <;> rfl
/-- bounds that a core stays far below -/
structure Cor.fine (c : Cor) : Prop where
  few : c.fs.length ≤ 1000
  turn : c.l.sup.turn ≤ 4611686018000000000
  end_ : c.l.end_ ≤ 1152921504600000000
theorem CorI.fine {Can : Pages → Prop} {now : Pages} {c : Cor} {n : Nat} (h : CorI Can now c n) (hn : n ≤ 100000000000) : c.fine := by
  have h1 := h.few; have h2 := h.bud.turn; have h3 := h.end_
  unfold lim at h2 h3
  exact ⟨by omega, by omega, by omega⟩
/-- the log can be cut: when all is forced nothing is left -/
def LogOk (l : Log) (d : Dev) : Prop := (l.force d (l.end_ : Nat)).2.2 = 0 → (l.force d (l.end_ : Nat)).1.forced = l.end_
def CutOk (c : Cor) : Prop := (poolAll c.fs c.l c.d).1 = 0 → LogOk (poolAll c.fs c.l c.d).2.2.1 (poolAll c.fs c.l c.d).2.2.2
theorem KInv.cutOk {Q : PQ} (hM : Mono Q) {now : Int → List UInt8} {fs : List Fr} {l : Log} {d : Dev} {rs : List (List UInt8)} {nf : Nat} {dn : Bool} (h : KInv Q now fs l d rs nf) (hT : l.sup.turn + 2 ≤ 4611686018427387904) : CutOk ⟨fs, l, d, dn⟩ := by
  intro h0 h1
  obtain ⟨r1, _⟩ := h.all hM (by omega)
  have ht := poolClean_turn fs (dirtyAt 0 fs) l d
  rcases r1 with ⟨_, m, _, _, k1, _⟩ | ⟨e, _⟩
  · have k1 : KInv Q now (poolAll fs l d).2.1 (poolAll fs l d).2.2.1 (poolAll fs l d).2.2.2 rs m := k1
    rcases k1.force hM (by show (poolClean fs (dirtyAt 0 fs) l d).2.1.sup.turn + 1 ≤ _; omega) with ⟨_, q1, q2, q3⟩ | ⟨e, _⟩
    · rw [q1.w.forced, q2]
      exact k1.w.end_.symm
    · have h1 : (Log.force (poolAll fs l d).2.2.1 (poolAll fs l d).2.2.2 ((poolAll fs l d).2.2.1.end_ : Nat)).2.2 = 0 := h1
      omega
  · have h0 : (poolAll fs l d).1 = 0 := h0
    omega
theorem CorI.cutOk {Can : Pages → Prop} {now : Pages} {c : Cor} {n : Nat} (h : CorI Can now c n) (hn : n ≤ 100000000000) : CutOk c := by
  obtain ⟨bp, rss, nf, nw, h1, _⟩ := h.k
  have h2 := h.bud.turn
  unfold lim at h2
  exact h1.cutOk (Qc_mono _ _ _) (by omega)
theorem cutTail_ok {l : Log} (h : l.ok) (d : Dev) (hf : l.forced = l.end_) : (cutTail l d).1.ok := by
  have ho := h.order
  unfold cutTail
  split
  · exact Log.bad_ok h _
  · exact ⟨h.ring, ⟨by show l.end_ ≤ l.forced; omega, ho.2⟩, h.most, h.ends, h.sorted, by show l.end_ ≤ l.end_ + 65536; omega⟩

/-! ### how much puts let grow -/
theorem poolClean_len (fs : List Fr) (is : List Nat) (l : Log) (d : Dev) : (poolClean fs is l d).1.length = fs.length := poolClean_length fs is l d
theorem roomStep_len (fs : List Fr) (l : Log) (d : Dev) : (roomStep fs l d).1.length ≤ fs.length := by
  have hc : ∀ (fs : List Fr) (i : Nat), (cut fs i).length ≤ fs.length := fun fs i => by unfold cut; rw [List.length_append, List.length_take, List.length_drop]; omega
  unfold roomStep
  split
  · have := poolClean_length fs [0] l d
    split
    · omega
    · have := hc (poolClean fs [0] l d).1 0; dsimp only; omega
  · exact hc _ _
theorem poolRoom_len (n : Nat) : ∀ (k : Nat) (fs : List Fr) (l : Log) (d : Dev), (poolRoom n k fs l d).1.length ≤ fs.length := by
  intro k
  induction k with
  | zero => intro fs l d; exact Nat.le_refl _
  | succ k ih =>
    intro fs l d
    have h1 := roomStep_len fs l d
    rw [poolRoom]
    split
    · exact h1
    · have := ih (roomStep fs l d).1 (roomStep fs l d).2.1 (roomStep fs l d).2.2.1; omega
theorem putAt_len (fs : List Fr) (no : Int) (b : List UInt8) (lsn : Int) : (putAt fs no b lsn).length ≤ fs.length + 1 := by
  unfold putAt
  split
  · simp
  · rename_i h0
    obtain ⟨us, t, e, ht, hp⟩ := asked_some h0
    rw [e]
    have := hp.length_eq
    simp at this ⊢; omega
theorem poolPut_grow (fs : List Fr) (l : Log) (d : Dev) (no : Int) (b : List UInt8) (lsn : Int) : (poolPut fs l d no b lsn).2.1.length ≤ fs.length + 1 ∧ (poolPut fs l d no b lsn).2.2.1.sup.turn ≤ l.sup.turn + (fs.length + 1) := by
  have h1 := putAt_len fs no b lsn
  unfold poolPut
  split
  · exact ⟨by dsimp only; omega, by dsimp only; omega⟩
  · split
    · exact ⟨by dsimp only; omega, by dsimp only; omega⟩
    · have h2 := poolRoom_len 6 ((putAt fs no b lsn).length - 6) (putAt fs no b lsn) l d
      have h3 := poolRoom_turn 6 ((putAt fs no b lsn).length - 6) (putAt fs no b lsn) l d
      unfold room
      exact ⟨by dsimp only; omega, by dsimp only; omega⟩
theorem poolClean_end (fs : List Fr) (is : List Nat) (l : Log) (d : Dev) : (poolClean fs is l d).2.1.end_ = l.end_ := by
  have h := (Log.force_sup (l := l) d (topLsn (picks fs is))).1
  unfold poolClean
  split
  · rfl
  · split
    · exact h
    · split
      · exact h
      · split
        · exact h
        · exact h
theorem logCut_grow (l : Log) (d : Dev) : (logCut l d).1.end_ = l.end_ ∧ (logCut l d).1.sup.turn ≤ l.sup.turn + 2 := by
  have h1 := (Log.force_sup (l := l) d (l.end_ : Nat)).1
  have h2 := Log.force_turn l d (l.end_ : Nat)
  unfold logCut
  split
  · exact ⟨h1, by omega⟩
  · have h3 := Sup.save_turn (l.force d (l.end_ : Nat)).1.sup (l.force d (l.end_ : Nat)).2.1 0 (logText (l.force d (l.end_ : Nat)).1.end_ (l.force d (l.end_ : Nat)).1.end_)
    unfold cutTail
    split
    · exact ⟨h1, by dsimp only; omega⟩
    · exact ⟨h1, by dsimp only; omega⟩
theorem Cor.is_same (c : Cor) (e : Int) : (c.is e).fs = c.fs ∧ (c.is e).l = c.l := by unfold Cor.is; split <;> exact ⟨rfl, rfl⟩
theorem check_grow (c : Cor) : c.check.2.fs.length ≤ c.fs.length ∧ c.check.2.l.sup.turn ≤ c.l.sup.turn + 3 ∧ c.check.2.l.end_ = c.l.end_ := by
  have h1 := poolClean_length c.fs (dirtyAt 0 c.fs) c.l c.d
  have h2 := poolClean_turn c.fs (dirtyAt 0 c.fs) c.l c.d
  have h3 := poolClean_end c.fs (dirtyAt 0 c.fs) c.l c.d
  have h4 := logCut_grow (poolAll c.fs c.l c.d).2.2.1 (poolAll c.fs c.l c.d).2.2.2
  have e1 : (poolAll c.fs c.l c.d).2.1 = (poolClean c.fs (dirtyAt 0 c.fs) c.l c.d).1 := rfl
  have e2 : (poolAll c.fs c.l c.d).2.2.1 = (poolClean c.fs (dirtyAt 0 c.fs) c.l c.d).2.1 := rfl
  unfold Cor.check
  split
  · exact ⟨Nat.le_refl _, by dsimp only; omega, rfl⟩
  · split
    · dsimp only
      rw [(Cor.is_same _ _).1, (Cor.is_same _ _).2]
      dsimp only
      rw [e1, e2]
      exact ⟨by omega, by omega, h3⟩
    · dsimp only
      rw [(Cor.is_same _ _).1, (Cor.is_same _ _).2]
      dsimp only
      rw [e1]
      rw [e2] at h4
      exact ⟨by omega, by rw [e2]; omega, by rw [e2, h4.1, h3]⟩
theorem append_sup (l : Log) (b : List UInt8) : (l.append b).1.sup = l.sup := by
  unfold Log.append
  split
  · rfl
  · split
    · rfl
    · split
      · rfl
      · rfl
theorem roomStep_end (fs : List Fr) (l : Log) (d : Dev) : (roomStep fs l d).2.1.end_ = l.end_ := by
  unfold roomStep
  split
  · split
    · exact poolClean_end ..
    · exact poolClean_end ..
  · rfl
theorem poolRoom_end (n : Nat) : ∀ (k : Nat) (fs : List Fr) (l : Log) (d : Dev), (poolRoom n k fs l d).2.1.end_ = l.end_ := by
  intro k
  induction k with
  | zero => intro fs l d; rfl
  | succ k ih =>
    intro fs l d
    rw [poolRoom]
    split
    · exact roomStep_end ..
    · rw [ih, roomStep_end]
theorem poolPut_end (fs : List Fr) (l : Log) (d : Dev) (no : Int) (b : List UInt8) (lsn : Int) : (poolPut fs l d no b lsn).2.2.1.end_ = l.end_ := by
  unfold poolPut
  split
  · rfl
  · split
    · rfl
    · exact poolRoom_end ..
theorem has_rw {ts : List Rw} {t : Rw} (ht : t ∈ ts) {hs : List Chunk} {b : Nat} {o : Obj} (h : Has [t.2.2] b o) : Has (rwChunk ts :: hs) b o := by
  refine .here ?_
  have hm := h.mem
  simp only [List.flatten_cons, List.flatten_nil, List.append_nil] at hm
  unfold rwChunk
  exact List.mem_flatten.2 ⟨t.2.2, List.mem_map.2 ⟨t, ht, rfl⟩, hm⟩
theorem IsRows.at {tU tR : Nat} {v : Value} {rs : List (List UInt8)} {H : Chunk} (h : IsRows tU tR v rs H) : ∃ rt : List (Value × List UInt8), rt.map (·.2) = rs ∧ ∀ hs, Row encV 1 (H :: hs) v (rt.map (·.1)) ∧ ∀ t ∈ rt, Row encB 1 (H :: hs) t.1 t.2 := by
  obtain ⟨ts, K, h1, h2, h3, rfl⟩ := h.is
  refine ⟨ts.map fun t => (t.1, t.2.1), by rw [List.map_map, ← h2]; rfl, fun hs => ⟨?_, fun t ht => ?_⟩⟩
  · rw [List.map_map]
    exact (h3.row (hs := [])).mono fun b o hb => has_split (has_one_there hb)
  · obtain ⟨u, hu, rfl⟩ := List.mem_map.1 ht
    exact ((h1 u hu).1.row (hs := [])).mono fun b o hb => has_split (.there (has_rw hu hb))
/-- some pages are noughts -/
def mkPages (d : Dev) : Nat → Dev
  | 0 => d
  | k + 1 => (writePage (mkPages d k) (k : Nat) (noughts 256)).1
theorem mkPages_free {d : Dev} (h : Free d) : ∀ k : Nat, k ≤ 96 → Free (mkPages d k) := by
  intro k
  induction k with
  | zero => intro _; exact h
  | succ k ih => intro hk; exact (writePage_free (ih (by omega)) (no := (k : Nat)) ⟨by omega, by omega⟩ (b := noughts 256) (noughts_length _)).2.1
theorem recs_few {rss : List (List Img)} (h : ∀ l ∈ rss, MayImgs l) : rss.length ≤ rss.flatten.length := by
  induction rss with
  | nil => simp
  | cons x m ih =>
    have := ih fun y hy => h y (by simp [hy])
    have := (h x (by simp)).pos
    rw [List.flatten_cons, List.length_append, List.length_cons]
    omega
theorem poolPut_turn6 (fs : List Fr) (l : Log) (d : Dev) (no : Int) (b : List UInt8) (lsn : Int) (hf : fs.length ≤ 6) : (poolPut fs l d no b lsn).2.2.1.sup.turn ≤ l.sup.turn + 1 := by
  have h1 := putAt_length hf no b lsn
  unfold poolPut
  split
  · dsimp only; omega
  · split
    · dsimp only; omega
    · have h3 := poolRoom_turn 6 ((putAt fs no b lsn).length - 6) (putAt fs no b lsn) l d
      unfold room; dsimp only; omega
theorem replay_app : ∀ (xs ys : List Img) (fs : List Fr) (l : Log) (d : Dev), (replay xs fs l d).1 = 0 → replay (xs ++ ys) fs l d = replay ys (replay xs fs l d).2.1 (replay xs fs l d).2.2.1 (replay xs fs l d).2.2.2 := by
  intro xs
  induction xs with
  | nil => intro ys fs l d _; rfl
  | cons x xs ih =>
    intro ys fs l d h
    rw [replay] at h
    rw [List.cons_append, replay, replay]
    split
    · rename_i hne
      rw [if_pos hne] at h
      exact absurd h hne
    · rename_i hne
      rw [if_neg hne] at h
      exact ih ys _ _ _ h
/-- a put that is done leaves six frames at most -/
theorem poolRoom_six {n : Nat} (hn : 1 ≤ n) : ∀ (k : Nat) (fs : List Fr) (l : Log) (d : Dev), fs.length = n + k → (poolRoom n k fs l d).2.2.2 = 0 → (poolRoom n k fs l d).1.length = n := by
  intro k
  induction k with
  | zero => intro fs l d h _; exact h
  | succ k ih =>
    intro fs l d h
    have hs := (roomStep_last (fs := fs) (l := l) (d := d) (by omega)).2
    rw [poolRoom]
    split
    · rename_i hne; intro h0; exact absurd h0 hne
    · rename_i hne
      have := hs (Classical.not_not.1 hne)
      exact ih _ _ _ (by omega)
theorem poolPut_six {fs : List Fr} {l : Log} {d : Dev} {no : Int} {b : List UInt8} {lsn : Int} (h : (poolPut fs l d no b lsn).1 = 0) (hf : fs.length ≤ 6) : (poolPut fs l d no b lsn).2.1.length ≤ 6 := by
  unfold poolPut at h ⊢
  split
  · exact hf
  · rename_i h1
    rw [if_neg h1] at h
    split
    · exact hf
    · rename_i h2
      rw [if_neg h2] at h
      unfold room at h ⊢
      by_cases hl : (putAt fs no b lsn).length ≤ 6
      · have := poolRoom_len 6 ((putAt fs no b lsn).length - 6) (putAt fs no b lsn) l d
        dsimp only; omega
      · exact Nat.le_of_eq (poolRoom_six (n := 6) (by omega) _ _ _ _ (by omega) h)
end Go.Pl
end

section
namespace Go.Pl
open Go Go.Sx

/-! ### what no write and no flush changes -/
structure Kept (P : Dev → Prop) : Prop where
  write : ∀ d i b, P d → P (d.write i b).1
  flush : ∀ d, P d → P d.flush.1
section
variable {P : Dev → Prop} (K : Kept P)
include K
theorem Kept.writes : ∀ (l : List (List UInt8)) (d : Dev) (i : Int), P d → P (d.writes i l).1 := by
  intro l
  induction l with
  | nil => intro d i h; exact h
  | cons b l ih =>
    intro d i h
    rw [Dev.writes]
    split
    · exact K.write _ _ _ h
    · exact ih _ _ (K.write _ _ _ h)
theorem Kept.page (d : Dev) (no : Int) (b : List UInt8) (h : P d) : P (writePage d no b).1 := by
  unfold writePage
  split
  · exact h
  · split
    · exact h
    · exact K.writes _ _ _ h
theorem Kept.frames : ∀ (l : List Fr) (d : Dev), P d → P (wrFrames d l).1 := by
  intro l
  induction l with
  | nil => intro d h; exact h
  | cons f l ih =>
    intro d h
    rw [wrFrames]
    split
    · exact K.page _ _ _ h
    · exact ih _ (K.page _ _ _ h)
theorem Kept.wrSecs (ring : List UInt8) : ∀ (n k : Nat) (d : Dev), P d → P (Go.Pl.wrSecs ring d k n).1 := by
  intro n
  induction n with
  | zero => intro k d h; exact h
  | succ n ih =>
    intro k d h
    rw [Go.Pl.wrSecs]
    split
    · exact K.write _ _ _ h
    · exact ih _ _ (K.write _ _ _ h)
theorem Kept.save (s : Sup) (d : Dev) (b : List UInt8) (h : P d) : P (s.save d 0 b).2.1 := by
  unfold Sup.save supWrite
  split
  · exact h
  · split
    · exact K.write _ _ _ h
    · split
      · exact K.flush _ (K.write _ _ _ h)
      · exact K.flush _ (K.write _ _ _ h)
theorem Kept.force (l : Log) (d : Dev) (to : Int) (h : P d) : P (l.force d to).2.1 := by
  have hw : ∀ to, P (l.write d to).2.1 := by
    intro to
    have h1 := K.wrSecs l.ring (secsTo (l.forced / 64) to) (l.forced / 64) d h
    unfold Log.write
    split
    · exact h1
    · split
      · exact K.flush _ h1
      · exact K.save _ _ _ (K.flush _ h1)
  unfold Log.force
  split
  · exact h
  · split
    · exact h
    · split
      · exact hw _
      · exact hw _
theorem Kept.clean (fs : List Fr) (is : List Nat) (l : Log) (d : Dev) (h : P d) : P (poolClean fs is l d).2.2.1 := by
  have h1 := K.force l d (topLsn (picks fs is)) h
  unfold poolClean
  split
  · exact h
  · split
    · exact h1
    · split
      · exact K.frames _ _ h1
      · split
        · exact K.flush _ (K.frames _ _ h1)
        · exact K.flush _ (K.frames _ _ h1)
theorem Kept.step (fs : List Fr) (l : Log) (d : Dev) (h : P d) : P (roomStep fs l d).2.2.1 := by
  unfold roomStep
  split
  · split
    · exact K.clean _ _ _ _ h
    · exact K.clean _ _ _ _ h
  · exact h
theorem Kept.rooms (n : Nat) : ∀ (k : Nat) (fs : List Fr) (l : Log) (d : Dev), P d → P (poolRoom n k fs l d).2.2.1 := by
  intro k
  induction k with
  | zero => intro fs l d h; exact h
  | succ k ih =>
    intro fs l d h
    rw [poolRoom]
    split
    · exact K.step _ _ _ h
    · exact ih _ _ _ (K.step _ _ _ h)
theorem Kept.put (fs : List Fr) (l : Log) (d : Dev) (no : Int) (b : List UInt8) (lsn : Int) (h : P d) : P (poolPut fs l d no b lsn).2.2.2 := by
  unfold poolPut
  split
  · exact h
  · split
    · exact h
    · exact K.rooms _ _ _ _ _ h
theorem Kept.ask (fs : List Fr) (l : Log) (d : Dev) (no : Int) (h : P d) : P (poolPage fs l d no).2.2.2.2 := by
  unfold poolPage
  split
  · exact h
  · split
    · split
      · exact h
      · split
        · exact K.rooms _ _ _ _ _ h
        · exact K.rooms _ _ _ _ _ h
    · exact h
theorem Kept.pflush (fs : List Fr) (l : Log) (d : Dev) (no : Int) (h : P d) : P (poolFlush fs l d no).2.2.2 := by
  unfold poolFlush
  split
  · exact h
  · split
    · exact h
    · exact K.clean _ _ _ _ h
theorem Kept.cut (l : Log) (d : Dev) (h : P d) : P (logCut l d).2.1 := by
  have h1 := K.force l d (l.end_ : Nat) h
  unfold logCut
  split
  · exact h1
  · unfold cutTail
    split
    · exact K.save _ _ _ h1
    · exact K.save _ _ _ h1
theorem Kept.cpage (c : Cor) (no : Int) (h : P c.d) : P (c.page no).2.2.d := by
  unfold Cor.page
  split
  · exact h
  · dsimp only; rw [Cor.is_d]; exact K.ask _ _ _ _ h
theorem Kept.cflush (c : Cor) (no : Int) (h : P c.d) : P (c.flush no).2.d := by
  unfold Cor.flush
  split
  · exact h
  · dsimp only; rw [Cor.is_d]; exact K.pflush _ _ _ _ h
theorem Kept.cforce (c : Cor) (h : P c.d) : P c.force.2.d := by
  unfold Cor.force
  split
  · exact h
  · dsimp only; rw [Cor.is_d]; exact K.force _ _ _ h
theorem Kept.ccheck (c : Cor) (h : P c.d) : P c.check.2.d := by
  have h1 : P (poolAll c.fs c.l c.d).2.2.2 := K.clean _ _ _ _ h
  unfold Cor.check
  split
  · exact h
  · split
    · dsimp only; rw [Cor.is_d]; exact h1
    · dsimp only; rw [Cor.is_d]; exact K.cut _ _ h1
theorem Kept.putAll (lsn : Int) : ∀ (xs : List Img) (bad : Int) (fs : List Fr) (l : Log) (d : Dev), P d → P (Go.Pl.putAll lsn xs bad fs l d).2.2.2 := by
  intro xs
  induction xs with
  | nil => intro bad fs l d h; exact h
  | cons x xs ih => intro bad fs l d h; rw [Go.Pl.putAll]; exact ih _ _ _ _ (K.put _ _ _ _ _ _ h)
theorem Kept.replay : ∀ (xs : List Img) (fs : List Fr) (l : Log) (d : Dev), P d → P (Go.Pl.replay xs fs l d).2.2.2 := by
  intro xs
  induction xs with
  | nil => intro fs l d h; exact h
  | cons x xs ih =>
    intro fs l d h
    rw [Go.Pl.replay]
    split
    · exact K.put _ _ _ _ _ _ h
    · exact ih _ _ _ (K.put _ _ _ _ _ _ h)
theorem Kept.capply (c : Cor) (l : List Img) (h : P c.d) : P (c.apply l).2.d := by
  have hr : P (c.roomFor (encImgs l).length).2.d := by
    unfold Cor.roomFor
    split
    · exact h
    · exact K.ccheck _ h
  unfold Cor.apply
  split
  · exact h
  · split
    · exact h
    · split
      · exact hr
      · unfold Cor.add
        split
        · dsimp only; rw [Cor.is_d]; exact hr
        · dsimp only; rw [Cor.is_d]; exact K.putAll _ _ _ _ _ _ hr
theorem Kept.copen (d : Dev) (s : Sup) (base end_ : Nat) (xs : List Img) (h : P d) : P (corOpen d s base end_ xs).2.d := by
  have h1 := K.replay xs [] (openLog d s base end_) d h
  unfold corOpen
  split
  · exact h1
  · exact K.ccheck _ h1
end
/-- no fuse is lit, and it is not dead -/
def Calm (d : Dev) : Prop := d.fuse = none ∧ d.dead = false
theorem calm_kept : Kept Calm := by
  refine ⟨fun d i b h => ?_, fun d h => ?_⟩
  · unfold Dev.write
    split
    · exact h
    · split
      · exact h
      · split
        · exact h
        · exact ⟨by show d.fuse.map _ = none; rw [h.1]; rfl, h.2⟩
  · unfold Dev.flush
    split
    · exact h
    · exact ⟨by show d.fuse.map _ = none; rw [h.1]; rfl, h.2⟩
theorem Calm.gone {d : Dev} (h : Calm d) : d.gone = false := by unfold Dev.gone; rw [h.1, h.2]; rfl
/-- what is true of a device if it is to be calm -/
def CalmIf (cm : Prop) (d : Dev) : Prop := cm → Calm d
theorem calmIf_kept (cm : Prop) : Kept (CalmIf cm) := ⟨fun d i b h hc => calm_kept.write d i b (h hc), fun d h hc => calm_kept.flush d (h hc)⟩

/-! ### a fuse is lit -/
theorem WInv.light {l : Log} {d : Dev} {rs : List (List UInt8)} {nf : Nat} (h : WInv l d rs nf) {n : Int} (hn : n ≤ 9223372036854775807) : WInv l (d.light n) rs nf :=
  ⟨h.disk.light hn, h.ok, h.bad, h.few, h.forced, h.end_, h.recs, h.ends, h.ring, h.slot, h.sup, h.on⟩
theorem KInv.light {Q : PQ} {now : Int → List UInt8} {fs : List Fr} {l : Log} {d : Dev} {rs : List (List UInt8)} {nf : Nat} (h : KInv Q now fs l d rs nf) {n : Int} (hn : n ≤ 9223372036854775807) : KInv Q now fs l (d.light n) rs nf :=
  ⟨h.w.light hn, h.pg, h.rest, h.fr, h.lsn, h.q, h.on, h.nodup⟩
theorem CorI.light {Can : Pages → Prop} {now : Pages} {c : Cor} {n : Nat} (h : CorI Can now c n) {f : Int} (hf : f ≤ 9223372036854775807) : CorI Can now { c with d := c.d.light f } n := by
  obtain ⟨bp, rss, nf, nw, h1, h2⟩ := h.k
  exact ⟨⟨bp, rss, nf, nw, h1.light hf, h2⟩, h.few, h.up, ⟨h.bud.turn, h.bud.on⟩, h.end_⟩
theorem FallC.light {Can : Pages → Prop} {d : Dev} {n : Nat} (h : FallC Can d n) {f : Int} (hf : f ≤ 9223372036854775807) : FallC Can (d.light f) n :=
  ⟨⟨h.fall.1.light hf, h.fall.2⟩, h.on⟩
theorem gone_light {d : Dev} (h : d.gone = true) (f : Int) : (d.light f).gone = true := by unfold Dev.gone Dev.light; rw [h]; rfl

/-! ### made -/
def zeroP : Pages := fun _ => noughts 256
theorem Free.disk_write {d : Dev} (hf : Free d) (h : Disk d) {no : Int} (hn : mayPage no) {b : List UInt8} (hb : b.length = 256) : Disk (writePage d no b).1 := by
  rcases writePage_crash (Q := fun _ _ => True) h (fun _ _ _ _ _ => trivial) hn hb (fun _ _ => trivial) with ⟨_, h, _⟩ | ⟨_, _, h, _⟩
  · exact h
  · exact h
theorem rest_now (s : Sec) : s.rest.now = s.now := rfl
theorem mkPages_disk {d : Dev} (hf : Free d) (h : Disk d) : ∀ k : Nat, k ≤ 96 → Disk (mkPages d k) ∧ ∀ no, mayPage no → no < (k : Int) → pageNow (mkPages d k) no = noughts 256 := by
  intro k
  induction k with
  | zero => intro _; exact ⟨h, fun no hn hk => by have := hn.1; omega⟩
  | succ k ih =>
    intro hk
    obtain ⟨h1, h2⟩ := ih (by omega)
    have hfk := mkPages_free hf k (by omega)
    have hm : mayPage (k : Nat) := ⟨by omega, by omega⟩
    refine ⟨hfk.disk_write h1 hm (noughts_length _), fun no hn hlt => ?_⟩
    by_cases he : no = (k : Nat)
    · subst he; exact (writePage_free hfk hm (b := noughts 256) (noughts_length _)).2.2.1
    · exact (writePage_other hfk hm (noughts_length _) hn he).trans (h2 no hn (by omega))
theorem made {d : Dev} (hf : Free d) (h : Disk d) (ht : TurnOn d 1) : ∃ l d2, logMake (mkPages d 96).flush.1 = (some l, d2, 0) ∧ CorI (fun P => EqP P zeroP) zeroP ⟨[], l, d2, false⟩ 1 ∧ Calm d2 := by
  obtain ⟨hd, hp⟩ := mkPages_disk hf h 96 (by omega)
  have hfk := mkPages_free hf 96 (by omega)
  obtain ⟨_, f1, f2, f3⟩ := hfk.flush2 hd
  obtain ⟨l, d2, hm, g1, g2, g3, g4, g5, g6, g7, g8, g9⟩ := logMake_free f1 f2
  have hpg : ∀ no, mayPage no → pageNow d2 no = noughts 256 := fun no hn => by
    have hn' := hn
    unfold mayPage at hn'
    rw [show pageNow d2 no = pageNow (mkPages d 96).flush.1 no from reads_same 4 _ fun i h0 h1 => g8 i (by omega) (by omega)]
    rw [show pageNow (mkPages d 96).flush.1 no = pageNow (mkPages d 96) no from reads_same 4 _ fun i h0 h1 => by rw [f3 i (by omega) (by omega), rest_now]]
    exact hp no hn (by have := hn.2; omega)
  have hturn : TurnOn d2 1 := by
    intro i h0 h1
    have hx := g2.sup
    have hi := g2.slot
    have key : ∀ i : Int, 0 ≤ i → i < 2 → ∀ x, (d2.sec i).may x → secTurn x ≤ ((1 : Nat) : Int) := by
      intro i h0 h1 x hxm
      have h00 := hx _ _ (g2.disk.may_now (i := 0) (by omega) (by omega)) (g2.disk.may_now (i := 1) (by omega) (by omega))
      rw [g9 i h0 (by omega) x hxm]
      obtain ⟨s0, s1⟩ := h00.is
      rw [g7] at s0 s1
      have hsl := h00.slot
      by_cases hz : l.sup.slot = 0
      · obtain ⟨e, le⟩ := s0 hz
        by_cases hi0 : i = 0
        · subst hi0; rw [e, secTurn_sup (by omega)]; omega
        · obtain rfl : i = 1 := by omega
          omega
      · obtain ⟨e, le⟩ := s1 (by omega)
        by_cases hi0 : i = 0
        · subst hi0; omega
        · obtain rfl : i = 1 := by omega
          rw [e, secTurn_sup (by omega)]; omega
    exact ⟨key i h0 h1 _ (g2.disk.may_now h0 (by omega)), key i h0 h1 _ (may_lasts _)⟩
  refine ⟨l, d2, hm, ⟨⟨zeroP, [], 0, zeroP, ⟨g2, ?_, ?_, by simp, by simp, by simp, fun no hn _ => by rw [hpg no hn]; unfold zeroP; rfl, by simp [nos]⟩, EqP.refl _, EqP.refl _, by simp, fun no _ => by unfold zeroP; exact noughts_length _, fun k _ hk => ?_⟩, by simp, rfl, ⟨by show l.sup.turn ≤ _; rw [g7]; decide, hturn.mono (by decide)⟩, by show l.end_ ≤ _; rw [g5]; decide⟩, g1.fuse, g1.dead⟩
  · intro i h0 h1 x hx
    right
    have hx := g9 i (by omega) (by omega) x hx
    have hno : mayPage ((i - 2) / 4) := by unfold mayPage; omega
    have e := pageNow_quarter g2.disk hno (k := ((i - 2) % 4).toNat) (by omega)
    rw [show 2 + 4 * ((i - 2) / 4) + (((i - 2) % 4).toNat : Int) = i by omega, hpg _ hno] at e
    rw [hx, ← e]; rfl
  · exact fun i h0 h1 x hx => g9 i (by omega) (by omega) x hx
  · have : k = 0 := by simpa using hk
    subst this
    exact ⟨zeroP, EqP.refl _, EqP.refl _⟩
theorem FallC.core' {d : Dev} {Can : Pages → Prop} {n : Nat} (h : FallC Can d n) (hn : n < 100000000000) (keep : List Bool) {fu : Option Nat} {dd : Bool} (hfu : ∀ m, fu = some m → m ≤ 9223372036854775807) {d' : Dev} (hd' : d' = ⟨(d.crash keep).secs, fu, dd⟩) :
    ∃ s base end_ rss, Opens d' s base end_ (recs rss) ∧ (∀ l ∈ rss, MayImgs l) ∧ s.turn ≤ lim n ∧ rss.flatten.length ≤ 65536 ∧
      ((replay rss.flatten [] (openLog d' s base end_) d').1 = 0 → CutOk ⟨(replay rss.flatten [] (openLog d' s base end_) d').2.1, (replay rss.flatten [] (openLog d' s base end_) d').2.2.1, (replay rss.flatten [] (openLog d' s base end_) d').2.2.2, false⟩) ∧ end_ ≤ lim n ∧
      (((corOpen d' s base end_ rss.flatten).1 = 0 ∧ ∃ P, Can P ∧ CorI (fun P' => EqP P' P) P (corOpen d' s base end_ rss.flatten).2 (n + 2) ∧ (∀ f ∈ (corOpen d' s base end_ rss.flatten).2.fs, f.dirty = false)) ∨
       ((corOpen d' s base end_ rss.flatten).1 = 5 ∧ FallC Can (corOpen d' s base end_ rss.flatten).2.d (n + 2) ∧ (corOpen d' s base end_ rss.flatten).2.d.gone = true)) := by
  obtain ⟨s, base, end_, rss, h1, h2, h3, h4, h5, h6, h7⟩ := h.core hn keep hfu hd'
  refine ⟨s, base, end_, rss, h1, h2, h3, h4, fun h0 => ?_, h5, h7⟩
  obtain ⟨Q, nw, nf, q1, q2, q3⟩ := h6 h0
  exact q2.cutOk q1 q3
theorem new_turn : TurnOn (Dev.new 1410) 1 := fun i h0 h1 => by
  rw [new_sec h0 (by omega)]
  have : secTurn sec0.now = 0 := secTurn_noughts
  exact ⟨by rw [this]; decide, by show secTurn sec0.now ≤ _; rw [this]; decide⟩
end Go.Pl
end

section
namespace Go.Pl
open Go Go.Sx

def bRecs (n : Nat) : List (List UInt8) := (List.range n).map fun k => [UInt8.ofNat k]
theorem bRecs_length (n : Nat) : (bRecs n).length = n := by simp [bRecs]
theorem bRecs_succ (n : Nat) : bRecs (n + 1) = bRecs n ++ [[UInt8.ofNat n]] := by simp [bRecs, List.range_succ]
theorem bRecs_take {n m : Nat} (h : m ≤ n) : (bRecs n).take m = bRecs m := by
  unfold bRecs; rw [← List.map_take, List.take_range, Nat.min_eq_left h]
theorem stream_b (n : Nat) : (stream (bRecs n)).length = 5 * n := by
  induction n with
  | zero => rfl
  | succ n ih => rw [bRecs_succ, stream_append, stream_one, List.length_append, ih, recBytes_length]; simp; omega
theorem endAt_b {n m : Nat} (h : m ≤ n) : endAt 0 (bRecs n) m = 5 * m := by unfold endAt; rw [bRecs_take h, stream_b]; omega
def Qa : PQ := fun fo i x => ∀ no : Int, 0 ≤ no → no < 10 → i = 2 + 4 * no → 5 * (x.getD 0 0).toNat ≤ fo
theorem Qa_mono : Mono Qa := fun a b i x h hq no h0 h1 he => Nat.le_trans (hq no h0 h1 he) h
structure HInv (n k : Nat) (now : Int → List UInt8) (fs : List Fr) (l : Log) (d : Dev) : Prop where
  inv : ∃ nf, KInv Qa now fs l d (bRecs n) nf
  few : fs.length ≤ 6
  turn : l.sup.turn ≤ 1 + k
  base : l.base = 0
def HEnd (n : Nat) (d : Dev) : Prop := Disk d ∧ ∃ m, m ≤ n ∧ Fallen d (UpTo 0 (bRecs n) m) ∧ PgOn d (Qa (5 * m))
theorem HInv.end_ {n k : Nat} {now : Int → List UInt8} {fs : List Fr} {l : Log} {d : Dev} (h : HInv n k now fs l d) : HEnd n d := by
  obtain ⟨nf, hk⟩ := h.inv
  have hf := hk.w.few
  rw [bRecs_length] at hf
  have hfo := hk.w.forced
  rw [h.base, endAt_b hf] at hfo
  have hfa := hk.w.fallen
  rw [h.base] at hfa
  exact ⟨hk.w.disk, nf, hf, hfa, by rw [← hfo]; exact hk.pg⟩
theorem HInv.log_end {n k : Nat} {now : Int → List UInt8} {fs : List Fr} {l : Log} {d : Dev} (h : HInv n k now fs l d) : l.end_ = 5 * n := by
  obtain ⟨nf, hk⟩ := h.inv
  rw [hk.w.end_, h.base, bRecs_length, endAt_b (Nat.le_refl _)]
theorem Lost.end_ {n nf : Nat} {d : Dev} (h : Lost Qa 0 (bRecs n) nf d) : HEnd n d := by
  obtain ⟨_, m, _, h2, h3, h4⟩ := h
  rw [bRecs_length] at h2
  rw [endAt_b h2] at h4
  exact ⟨h3.1, m, h2, h3, h4⟩
theorem HInv.append {n k : Nat} {now : Int → List UInt8} {fs : List Fr} {l : Log} {d : Dev} (h : HInv n k now fs l d) (hn : n < 20) :
    ∃ l', l.append [UInt8.ofNat n] = (l', ((5 * (n + 1) : Nat) : Int), 0) ∧ HInv (n + 1) k now fs l' d ∧ 5 * (n + 1) ∈ l'.ends := by
  have he := h.log_end
  have hb := h.base
  obtain ⟨nf, hk⟩ := h.inv
  have hor := hk.w.ok.order
  obtain ⟨a1, a2, a3, a4, a5, a6, a7, a8⟩ := hk.w.append (b := [UInt8.ofNat n]) (by unfold Log.fits; simp only [List.length_cons, List.length_nil]; omega) (by omega)
  simp only [List.length_cons, List.length_nil] at a3 a8
  rw [← bRecs_succ] at a4
  refine ⟨(l.append [UInt8.ofNat n]).1, ?_, ⟨⟨nf, a4, ?_, hk.rest, hk.fr, ?_, ?_, hk.on, hk.nodup⟩, h.few, by rw [a6]; exact h.turn, by rw [a5]; exact hb⟩, by rw [a8]; simp; omega⟩
  · refine Prod.ext rfl (Prod.ext ?_ a1)
    rw [a2, a3, he]
    show ((_ : Nat) : Int) = _
    congr 1
  · rw [a7]; exact hk.pg
  · intro f hf
    rw [a7, a8]
    exact (hk.lsn f hf).imp id fun ⟨e, h1, h2⟩ => ⟨e, by simp [h1], h2⟩
  · intro f hf fo h0 h1
    rw [a7] at h0
    exact hk.q f hf fo h0 h1
theorem HInv.res {n k : Nat} {now now' : Int → List UInt8} {fs fs' : List Fr} {l l' : Log} {d d' : Dev} {nf : Nat} {e : Int} (h : HInv n k now fs l d) (hr : KRes Qa now' l (bRecs n) nf e fs' l' d') (hf : e = 0 → fs'.length ≤ 6) (ht : l'.sup.turn ≤ l.sup.turn + 1) :
    (e = 0 ∧ HInv n (k + 1) now' fs' l' d') ∨ (e = 5 ∧ HEnd n d') := by
  have hb := h.base
  have htu := h.turn
  rcases hr with ⟨r1, m, m0, m1, r2, r3, r4⟩ | ⟨r1, r2⟩
  · exact .inl ⟨r1, ⟨m, r2⟩, hf r1, by omega, by rw [r4]; exact hb⟩
  · rw [hb] at r2
    exact .inr ⟨r1, r2.end_⟩
theorem HInv.put {n k : Nat} {now : Int → List UInt8} {fs : List Fr} {l : Log} {d : Dev} (h : HInv (n + 1) k now fs l d) (hn : n < 20) (hk : k ≤ 100) {no : Int} (h0 : 0 ≤ no) (h1 : no < 10) (he : 5 * (n + 1) ∈ l.ends) :
    ((poolPut fs l d no (pageOf [UInt8.ofNat (n + 1), 9]) ((5 * (n + 1) : Nat) : Int)).1 = 0 ∧ HInv (n + 1) (k + 1) (upd now no (pageOf [UInt8.ofNat (n + 1), 9])) (poolPut fs l d no (pageOf [UInt8.ofNat (n + 1), 9]) ((5 * (n + 1) : Nat) : Int)).2.1 (poolPut fs l d no (pageOf [UInt8.ofNat (n + 1), 9]) ((5 * (n + 1) : Nat) : Int)).2.2.1 (poolPut fs l d no (pageOf [UInt8.ofNat (n + 1), 9]) ((5 * (n + 1) : Nat) : Int)).2.2.2) ∨
    ((poolPut fs l d no (pageOf [UInt8.ofNat (n + 1), 9]) ((5 * (n + 1) : Nat) : Int)).1 = 5 ∧ HEnd (n + 1) (poolPut fs l d no (pageOf [UInt8.ofNat (n + 1), 9]) ((5 * (n + 1) : Nat) : Int)).2.2.2) := by
  have htu := h.turn
  have hm : mayPage no := by unfold mayPage; omega
  have hbl : (pageOf [UInt8.ofNat (n + 1), 9]).length = 256 := pageOf_length (by simp)
  obtain ⟨nf, hi⟩ := h.inv
  obtain ⟨r1, r2⟩ := hi.put Qa_mono (by omega) h.few hm hbl (lsn := ((5 * (n + 1) : Nat) : Int)) (.inr ⟨_, he, rfl⟩) (by
    intro fo _ hfo j hj no' h0' h1' hno
    obtain rfl : j = 0 := by omega
    obtain rfl : no' = no := by omega
    have e : (quarter 0 (pageOf [UInt8.ofNat (n + 1), 9])).getD 0 0 = UInt8.ofNat (n + 1) := rfl
    rw [e, UInt8.toNat_ofNat']
    omega)
  have ht : (poolPut fs l d no (pageOf [UInt8.ofNat (n + 1), 9]) ((5 * (n + 1) : Nat) : Int)).2.2.1.sup.turn ≤ l.sup.turn + 1 := by
    unfold poolPut
    rw [if_neg (by simpa using hm), if_neg (by omega)]
    have h7 := (hi.putAt h.few hm hbl (lsn := ((5 * (n + 1) : Nat) : Int)) (.inr ⟨_, he, rfl⟩) (by
      intro fo _ hfo j hj no' h0' h1' hno
      obtain rfl : j = 0 := by omega
      obtain rfl : no' = no := by omega
      have e : (quarter 0 (pageOf [UInt8.ofNat (n + 1), 9])).getD 0 0 = UInt8.ofNat (n + 1) := rfl
      rw [e, UInt8.toNat_ofNat']
      omega)).2
    have := poolRoom_turn 6 ((putAt fs no (pageOf [UInt8.ofNat (n + 1), 9]) ((5 * (n + 1) : Nat) : Int)).length - 6) (putAt fs no (pageOf [UInt8.ofNat (n + 1), 9]) ((5 * (n + 1) : Nat) : Int)) l d
    unfold room
    dsimp only
    omega
  exact h.res r1 r2 ht
theorem poolFlush_turn (fs : List Fr) (l : Log) (d : Dev) (no : Int) : (poolFlush fs l d no).2.2.1.sup.turn ≤ l.sup.turn + 1 := by
  unfold poolFlush
  split
  · exact Nat.le_succ _
  · split
    · exact Nat.le_succ _
    · exact poolClean_turn ..
theorem HInv.flush {n k : Nat} {now : Int → List UInt8} {fs : List Fr} {l : Log} {d : Dev} (h : HInv n k now fs l d) (hk : k ≤ 100) {no : Int} (h0 : 0 ≤ no) (h1 : no < 10) :
    ((poolFlush fs l d no).1 = 0 ∧ HInv n (k + 1) now (poolFlush fs l d no).2.1 (poolFlush fs l d no).2.2.1 (poolFlush fs l d no).2.2.2) ∨ ((poolFlush fs l d no).1 = 5 ∧ HEnd n (poolFlush fs l d no).2.2.2) := by
  have htu := h.turn
  obtain ⟨nf, hi⟩ := h.inv
  obtain ⟨r1, r2⟩ := hi.flush Qa_mono (by omega) (no := no) (by unfold mayPage; omega)
  exact h.res r1 (fun e => by rw [r2 e]; exact h.few) (poolFlush_turn ..)
/-- the beginning: a log is made, the fuse is lit -/
theorem hinv_zero {f : Int} (hf : f ≤ 9223372036854775807) : ∃ l d, logMake (Dev.new 1410) = (some l, d, 0) ∧ HInv 0 0 (fun _ => noughts 256) [] l (d.light f) ∧ l.sup.turn = 1 ∧ l.end_ = 0 := by
  obtain ⟨l, d, h1, h2, h3, h4, h5, h6, h7, h8, h9, h10⟩ := logMake_free new_free disk_new
  have hw : WInv l (d.light f) [] 0 := h3.same (h3.disk.light hf) (Same.refl _ _ _) (Same.refl _ _ _)
  have hnow : ∀ i, 2 ≤ i → i < 1410 → (d.sec i).now = noughts 64 := fun i h0 h1 => by rw [h9 i h0 h1, new_sec (by omega) h1]; rfl
  refine ⟨l, d, h1, ⟨⟨0, hw, ?_, ?_, by simp, by simp, by simp, ?_, by simp [nos]⟩, by simp, by omega, h4⟩, h8, h6⟩
  · intro i h0 h1 x hx no _ _ _
    have := h10 i (by omega) (by omega) x hx
    rw [this, hnow i h0 (by omega)]
    have e : (noughts 64).getD 0 0 = 0 := rfl
    rw [e]; exact Nat.zero_le _
  · intro i h0 h1 x hx
    exact h10 i (by omega) (by omega) x hx
  · intro no hn _
    unfold mayPage at hn
    show pageNow d no = noughts 256
    unfold pageNow
    simp only [Dev.reads]
    rw [hnow _ (by omega) (by omega), hnow _ (by omega) (by omega), hnow _ (by omega) (by omega), hnow _ (by omega) (by omega)]
    rw [List.append_nil, ← noughts_add, ← noughts_add, ← noughts_add]
/-- behind a crash -/
theorem HEnd.opens {n : Nat} {d : Dev} (h : HEnd n d) (keep : List Bool) : ∃ s base end_ rs, Opens (d.crash keep) s base end_ rs ∧ rs.length ≤ n ∧
    ∀ no : Int, 0 ≤ no → no < 10 → ∃ b c, readPage (d.crash keep) no = (b, 0) ∧ b.length = 256 ∧ b[0]? = some c ∧ c.toNat ≤ rs.length := by
  obtain ⟨hd, m, hm, hf, hp⟩ := h
  obtain ⟨T, sl, base, rs, ho, _, ⟨rfl, m', h1, h2, rfl⟩, _, _⟩ := hf.opens keep
  rw [bRecs_length] at h2
  obtain ⟨cd, cg, cs⟩ := hd.crash keep
  have hl : ((bRecs n).take m').length = m' := by rw [bRecs_take h2, bRecs_length]
  refine ⟨_, _, _, _, ho, by rw [hl]; exact h2, fun no h0 h9 => ?_⟩
  have hsok := cd.sok (i := 2 + 4 * no) (by omega) (by omega)
  have hne : ((d.crash keep).sec (2 + 4 * no)).now ≠ [] := by intro he; have := hsok.1; rw [he] at this; cases this
  obtain ⟨c, r, hcr⟩ : ∃ c r, ((d.crash keep).sec (2 + 4 * no)).now = c :: r := by
    cases hq : ((d.crash keep).sec (2 + 4 * no)).now with
    | nil => exact absurd hq hne
    | cons c r => exact ⟨c, r, rfl⟩
  have hq := hp (2 + 4 * no) (by omega) (by omega) _ (cs _ (by omega) (by omega)).1 no h0 h9 rfl
  rw [hcr] at hq
  have hrd : readPage (d.crash keep) no = ((d.crash keep).reads (2 + 4 * no) 4, 0) := by
    unfold readPage
    rw [if_neg (by unfold mayPage; omega), if_pos (cd.in (by omega) (by omega))]
  have hlen := readPage_length cd.ok (no := no) (by rw [hrd])
  rw [hrd] at hlen
  refine ⟨_, c, hrd, hlen, ?_, by rw [hl]; simp only [List.getD_cons_zero] at hq; omega⟩
  rw [Dev.reads, hcr]; rfl
theorem mod10 (y : Int) (h0 : -9223372036854775808 ≤ y) (h1 : y ≤ 9223372036854775807) : ∃ k : Nat, k < 10 ∧ (IntKind.i64.wrap (y.tmod 10 + 10)).tmod 10 = k := by
  have hm : y.tmod 10 = y % 10 ∨ y.tmod 10 = y % 10 - 10 := by
    rw [Int.tmod_eq_emod]
    split
    · left; omega
    · right; omega
  have e : IntKind.i64.wrap (y.tmod 10 + 10) = y.tmod 10 + 10 := wrap_i64 (by omega) (by omega)
  rw [e]
  refine ⟨((y.tmod 10 + 10).tmod 10).toNat, ?_, ?_⟩ <;> rw [Int.tmod_eq_emod_of_nonneg (by omega)] <;> omega
end Go.Pl
end

section
namespace Go.Pl
open Go Go.Sx

/-- one image a page, the first pages -/
def rangeImgs (m : Nat) (f : Nat → List UInt8) : List Img := (List.range m).map fun k : Nat => ((k : Int), f k)
theorem rangeImgs_length (m : Nat) (f : Nat → List UInt8) : (rangeImgs m f).length = m := by unfold rangeImgs; simp
theorem rangeImgs_succ (m : Nat) (f : Nat → List UInt8) : rangeImgs (m + 1) f = rangeImgs m f ++ [((m : Int), f m)] := by unfold rangeImgs; rw [List.range_succ, List.map_append]; rfl
theorem rangeImgs_may {m : Nat} {f : Nat → List UInt8} (h1 : 1 ≤ m) (h2 : m ≤ 96) (hf : ∀ k, k < m → (f k).length = 256) : MayImgs (rangeImgs m f) := by
  refine ⟨?_, ?_, ?_⟩
  · intro e; have := congrArg List.length e; rw [rangeImgs_length] at this; simp at this; omega
  · intro x hx
    obtain ⟨k, hk, rfl⟩ := List.mem_map.1 hx
    rw [List.mem_range] at hk
    exact ⟨⟨by show 0 ≤ (k : Int); omega, by show (k : Int) < 96; omega⟩, hf k hk⟩
  · unfold rangeImgs
    rw [List.pairwise_map]
    refine List.Pairwise.imp ?_ List.pairwise_lt_range
    intro a b hab
    show (a : Int) < b
    omega
theorem lay_range (P : Pages) (f : Nat → List UInt8) : ∀ {m k : Nat}, k < m → lay P (rangeImgs m f) (k : Nat) = f k := by
  intro m
  induction m with
  | zero => intro k h; omega
  | succ m ih =>
    intro k h
    rw [rangeImgs_succ, lay_snoc]
    unfold upd
    dsimp only
    split
    · rename_i he
      have : k = m := by omega
      rw [this]
    · exact ih (by omega)
theorem lay_range_off (P : Pages) (f : Nat → List UInt8) {m : Nat} {no : Int} (h : (m : Int) ≤ no) : lay P (rangeImgs m f) no = P no := by
  refine lay_off fun ⟨x, hx, e⟩ => ?_
  obtain ⟨k, hk, rfl⟩ := List.mem_map.1 hx
  rw [List.mem_range] at hk
  dsimp only at e
  omega
/-- the first pages have one byte together -/
def OneByte (m R : Nat) (Q : Pages) : Prop := ∃ b : UInt8, b.toNat ≤ R ∧ ∀ k : Nat, k < m → Q (k : Nat) = pageOf [b]
theorem OneByte.zero {m : Nat} (h : m ≤ 96) {Q : Pages} (hq : EqP Q zeroP) : OneByte m 0 Q := ⟨0, by decide, fun k hk => by rw [hq (k : Nat) ⟨by omega, by omega⟩]; rfl⟩
theorem OneByte.next {m R : Nat} (hm : m ≤ 96) (hR : R + 1 ≤ 200) {P Q : Pages} (h : OneByte m R Q ∨ EqP Q (lay P (rangeImgs m fun _ => pageOf [UInt8.ofNat (R + 1)]))) : OneByte m (R + 1) Q := by
  rcases h with ⟨b, h1, h2⟩ | h
  · exact ⟨b, by omega, h2⟩
  · refine ⟨UInt8.ofNat (R + 1), by rw [UInt8.toNat_ofNat']; omega, fun k hk => ?_⟩
    rw [h (k : Nat) ⟨by omega, by omega⟩, lay_range _ _ hk]
theorem OneByte.now {m R : Nat} (hm : m ≤ 96) (hR : R + 1 ≤ 200) {P Q : Pages} (h : EqP Q (lay P (rangeImgs m fun _ => pageOf [UInt8.ofNat (R + 1)]))) : OneByte m (R + 1) Q := OneByte.next hm hR (.inr h)
theorem one_may {no : Int} (hn : mayPage no) {b : List UInt8} (hb : b.length = 256) : MayImgs [(no, b)] := ⟨by simp, fun x hx => by rw [List.mem_singleton] at hx; subst hx; exact ⟨hn, hb⟩, by simp⟩
theorem lay_one (P : Pages) (no : Int) (b : List UInt8) : lay P [(no, b)] = upd P no b := rfl
/-! ### numbers of six -/
def modOf (m : Int) (y : Int) : Nat := ((IntKind.i64.wrap (y.tmod m + m)).tmod m).toNat
theorem modOf_eq {m y : Int} (hm : 0 < m ∧ m ≤ 1000) (_h0 : -9223372036854775808 ≤ y) (_h1 : y ≤ 9223372036854775807) : (IntKind.i64.wrap (y.tmod m + m)).tmod m = (modOf m y : Nat) ∧ (modOf m y : Int) < m := by
  have hlt : -m < y.tmod m ∧ y.tmod m < m := ⟨Int.lt_tmod_of_pos y hm.1, Int.tmod_lt_of_pos y hm.1⟩
  have e : IntKind.i64.wrap (y.tmod m + m) = y.tmod m + m := wrap_i64 (by omega) (by omega)
  have h0 : 0 ≤ (y.tmod m + m).tmod m := Int.tmod_nonneg m (by omega)
  have h1 : (y.tmod m + m).tmod m < m := Int.tmod_lt_of_pos _ hm.1
  unfold modOf
  rw [e]
  omega
def wants (ys : List Int) : Nat → List UInt8
  | 0 => noughts 6
  | i + 1 => (wants ys i).set (modOf 6 (ys.getD i 0)) (UInt8.ofNat (i + 1))
theorem wants_length (ys : List Int) (i : Nat) : (wants ys i).length = 6 := by
  induction i with
  | zero => rfl
  | succ i ih => rw [wants, List.length_set, ih]
theorem wants_lay {ys : List Int} {i : Nat} {P : Pages} (h : ∀ k : Nat, k < 6 → P (k : Nat) = List.replicate 256 ((wants ys i).getD k 0)) :
    ∀ k : Nat, k < 6 → upd P (modOf 6 (ys.getD i 0) : Nat) (List.replicate 256 (UInt8.ofNat (i + 1))) (k : Nat) = List.replicate 256 ((wants ys (i + 1)).getD k 0) := by
  intro k hk
  have hl := wants_length ys i
  unfold upd
  rw [wants]
  generalize modOf 6 (ys.getD i 0) = m
  rw [List.getD_eq_getElem?_getD]
  by_cases he : k = m
  · rw [if_pos (by omega), he, List.getElem?_set_self (by omega)]; rfl
  · rw [if_neg (by omega), List.getElem?_set_ne (by omega), ← List.getD_eq_getElem?_getD]; exact h k hk
/-- a page of nines but for its first byte -/
def nines (x : UInt8) : List UInt8 := x :: List.replicate 255 9
theorem nines_length (x : UInt8) : (nines x).length = 256 := by unfold nines; rw [List.length_cons, List.length_replicate]
theorem fill_step {α : Type} {a b : α} {n k : Nat} (h : k < n) : (List.replicate k a ++ List.replicate (n - k) b).set k a = List.replicate (k + 1) a ++ List.replicate (n - (k + 1)) b := by
  rw [List.set_append_right _ _ (by simp)]
  rw [List.length_replicate, Nat.sub_self, show n - k = (n - (k + 1)) + 1 by omega, List.replicate_succ, List.set_cons_zero, List.replicate_succ', List.append_assoc]
  rfl
theorem fill_at {α : Type} {a b : α} {n k : Nat} (h : k < n) : (List.replicate k a ++ List.replicate (n - k) b)[k]? = some b := by
  rw [List.getElem?_append_right (by simp), List.length_replicate, Nat.sub_self, List.getElem?_replicate, if_pos (by omega)]
theorem fill_length {α : Type} {a b : α} {n k : Nat} (h : k ≤ n) : (List.replicate k a ++ List.replicate (n - k) b).length = n := by simp; omega
end Go.Pl
end
