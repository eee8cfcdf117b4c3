/- Several texts in one. A pool of clean pages alone, plainly; bytes by their places. No program in sight. How far the log was forced ahead of the pages, plainly. No program in sight. A pool of pages over a device that may die, plainly: what is told is what was put last; no page lasts ahead of its log. No program in sight. The pool's calls over a device that may die, plainly. No program in sight. A log made, opened, plainly. No program in sight. BufAhead, plainly: each page's first byte tells with which record it was put; none is there ahead of its record. No program in sight. -/
import Derived.Test.YtoalhcodigpgkaaMC

section
namespace Go.Pl
open Go Go.Sx

theorem firstAt_clean {fs : List Fr} (h : ∀ f ∈ fs, f.dirty = false) (hn : 0 < fs.length) : firstAt isClean 0 fs = 0 := by
  cases fs with
  | nil => cases hn
  | cons f l => rw [firstAt, if_pos (by unfold isClean; rw [h f (by simp)]; rfl)]; rfl
theorem firstAt_cleanT {ts : List Tr} (h : ∀ t ∈ ts, t.2.1.dirty = false) (hn : 0 < ts.length) : firstAt (fun t : Tr => isClean t.2.1) 0 ts = 0 := by
  cases ts with
  | nil => cases hn
  | cons t l => rw [firstAt, if_pos (by unfold isClean; rw [h t (by simp)]; rfl)]; rfl
theorem cut_zero {α : Type} (l : List α) : cut l 0 = l.drop 1 := by unfold cut; simp
def keep6 (l : List Fr) : List Fr := l.drop (l.length - 6)
def pageC (fs : List Fr) (d : Dev) (no : Int) : List UInt8 × List Fr :=
  if found fs no < 0 then ((readPage d no).1, keep6 (fs ++ [⟨no, (readPage d no).1, false, 0⟩])) else ((lastFr (asked fs no)).b, asked fs no)
structure CInv (now : Int → List UInt8) (fs : List Fr) (d : Dev) : Prop where
  free : Free d
  fr : ∀ f ∈ fs, mayPage f.no ∧ f.b.length = 256 ∧ f.b = now f.no ∧ f.dirty = false
  on : ∀ no, mayPage no → pageNow d no = now no
  few : fs.length ≤ 6
theorem CInv.page {now : Int → List UInt8} {fs : List Fr} {d : Dev} (h : CInv now fs d) {no : Int} (hn : mayPage no) : (readPage d no).2 = 0 ∧ (pageC fs d no).1 = now no ∧ CInv now (pageC fs d no).2 d := by
  have hrd := readPage_free h.free hn
  have hlen : (now no).length = 256 := by
    have := readPage_length h.free.ok (no := no) (by rw [hrd])
    rw [hrd, h.on no hn] at this; exact this
  refine ⟨by rw [hrd], ?_⟩
  unfold pageC
  split
  · rw [hrd, h.on no hn]
    refine ⟨rfl, h.free, fun f hf => ?_, h.on, ?_⟩
    · unfold keep6 at hf
      rcases List.mem_append.1 (List.mem_of_mem_drop hf) with hf | hf
      · exact h.fr f hf
      · rw [List.mem_singleton] at hf; subst hf; exact ⟨hn, hlen, rfl, rfl⟩
    · unfold keep6; rw [List.length_drop]; omega
  · rename_i h0
    obtain ⟨us, t, e, ht, hp⟩ := asked_some h0
    rw [e]
    have ha := h.fr t (hp.symm.subset (by simp))
    simp only [lastFr, List.getLast?_concat, Option.getD_some]
    refine ⟨by rw [ha.2.2.1, ht], h.free, fun f hf => h.fr f (hp.symm.subset hf), h.on, ?_⟩
    rw [← hp.length_eq]; exact h.few

/-! ### bytes by their places -/
theorem mod96 (x : Int) (h0 : -9223372036854775808 ≤ x) (h1 : x ≤ 9223372036854775807) : ∃ k : Nat, k < 96 ∧ (IntKind.i64.wrap (x.tmod 96 + 96)).tmod 96 = (k : Int) := by
  have h2 : -96 < x.tmod 96 ∧ x.tmod 96 < 96 := by
    constructor
    · have := Int.lt_tmod_of_pos x (show (0 : Int) < 96 by decide); omega
    · exact Int.tmod_lt_of_pos x (by decide)
  rw [wrap_i64 (by omega) (by omega), Int.tmod_eq_emod_of_nonneg (by omega)]
  exact ⟨((x.tmod 96 + 96) % 96).toNat, by omega, by omega⟩
theorem bytes_at {nb : List UInt8} {k : Nat} {c : UInt8} (h : nb[k]? = some c) {o : Nat} (ho : o = k) : (nb.flatMap encB)[o]? = some (.int .u8 c.toNat) := by
  subst ho
  have e : ∀ l : List UInt8, l.flatMap encB = l.map fun c => Value.int .u8 c.toNat := by
    intro l
    induction l with
    | nil => rfl
    | cons x l ih => rw [List.flatMap_cons, ih]; rfl
  rw [e, List.getElem?_map, h]; rfl
theorem bytes_set {nb : List UInt8} {k : Nat} (h : k < nb.length) (c : UInt8) {o : Nat} (ho : o = k) : splice (nb.flatMap encB) o [.int .u8 c.toNat] = (nb.set k c).flatMap encB := by
  subst ho
  rw [set_over h]
  have := over_flat (enc := encB) (sz := 1) (xs := nb) (fun _ _ => rfl) (j := o) (ys := [c]) (fun _ _ => rfl)
  rw [Nat.mul_one] at this
  exact this.symm
theorem byte_sum (x : UInt8) (i : Nat) : IntKind.u8.wrap ((x.toNat : Int) + IntKind.u8.wrap (i : Int)) = ((UInt8.ofNat (x.toNat + i)).toNat : Int) := by
  rw [IntKind.wrap_u8, IntKind.wrap_u8, UInt8.toNat_ofNat']
  omega
/-- each page's first byte -/
def Firsts (now : Int → List UInt8) (nb : List UInt8) : Prop := ∀ k : Nat, k < 96 → (now k)[0]? = nb[k]?
theorem Firsts.zero : Firsts (fun _ => noughts 256) (noughts 96) := fun k hk => by unfold noughts; rw [List.getElem?_replicate, List.getElem?_replicate, if_pos (by omega), if_pos hk]
theorem Firsts.set {now : Int → List UInt8} {nb : List UInt8} (h : Firsts now nb) (hl : nb.length = 96) {k : Nat} (hk : k < 96) {c : UInt8} {b : List UInt8} (hb : b[0]? = some c) : Firsts (upd now k b) (nb.set k c) := fun j hj => by
  unfold upd
  by_cases he : j = k
  · subst he
    rw [if_pos rfl, List.getElem?_set_self (by omega), hb]
  · rw [if_neg (by omega), List.getElem?_set_ne (by omega)]; exact h j hj
end Go.Pl
end

section
namespace Go.Pl
open Go Go.Sx

/-- each page's record is forced, or its frame is dirty and knows it -/
def LInv (ls : Int → Int) (fs : List Fr) (l : Log) : Prop :=
  ∀ no, mayPage no → ls no ≤ l.forced ∨ ((∃ e ∈ l.ends, ls no = (e : Int)) ∧ ∃ f ∈ fs, f.no = no ∧ f.dirty = true ∧ ls no ≤ f.lsn)
theorem far_ge {l : Log} (hl : l.ok) {to : Int} {e : Nat} (he : e ∈ l.ends) (hto : (e : Int) ≤ to) : e ≤ l.far to := by
  obtain ⟨i, hi, rfl⟩ := List.getElem_of_mem he
  have hlt : i < lead to l.ends := by
    refine Classical.byContradiction fun h => ?_
    have hle := lead_le to l.ends
    have hend : l.ends[lead to l.ends]? = some (l.ends[lead to l.ends]'(by omega)) := List.getElem?_eq_getElem (by omega)
    have := lead_end hend
    have hm : l.ends[lead to l.ends]'(by omega) ≤ l.ends[i] := by
      rcases Nat.lt_or_ge (lead to l.ends) i with h1 | h1
      · exact Nat.le_of_lt (List.pairwise_iff_getElem.1 hl.sorted _ _ _ _ h1)
      · have : lead to l.ends = i := by omega
        simp only [this]; exact Nat.le_refl _
    omega
  have hle := lead_le to l.ends
  rw [Log.far_eq]
  unfold Log.farAt
  rw [if_neg (by omega), List.getD_eq_getElem?_getD, List.getElem?_eq_getElem (by omega)]
  simp only [Option.getD_some]
  rcases Nat.lt_or_ge i (lead to l.ends - 1) with h1 | h1
  · exact Nat.le_of_lt (List.pairwise_iff_getElem.1 hl.sorted _ _ _ _ h1)
  · have : i = lead to l.ends - 1 := by omega
    simp only [this]; exact Nat.le_refl _
theorem force_ends {l : Log} {d : Dev} (h : Free d) (hl : l.ok) (hs : 0 ≤ l.sup.slot ∧ l.sup.slot ≤ 1) (hb : l.bad = false) (to : Int) :
    l.forced ≤ (l.force d to).1.forced ∧ (∀ e ∈ l.ends, (e : Int) ≤ to → e ≤ (l.force d to).1.forced) ∧ (∀ e ∈ l.ends, e ≤ (l.force d to).1.forced ∨ e ∈ (l.force d to).1.ends) := by
  obtain ⟨f1, f2, _⟩ := Log.force_free h hl hs hb to
  have hr := Log.farAt_range hl (lead_le to l.ends)
  rw [← Log.far_eq] at hr
  refine ⟨by rw [f2]; exact hr.1, fun e he hto => by rw [f2]; exact far_ge hl he hto, fun e he => ?_⟩
  by_cases hto : (e : Int) ≤ to
  · left; rw [f2]; exact far_ge hl he hto
  · have hmem : e ∈ l.ends.drop (lead to l.ends) := by
      obtain ⟨i, hi, rfl⟩ := List.getElem_of_mem he
      have hge : lead to l.ends ≤ i := by
        refine Classical.byContradiction fun hlt => hto ?_
        exact lead_at (by omega) (List.getElem?_eq_getElem hi)
      have e1 : (l.ends.drop (lead to l.ends))[i - lead to l.ends]? = some l.ends[i] := by
        rw [List.getElem?_drop, show lead to l.ends + (i - lead to l.ends) = i by omega, List.getElem?_eq_getElem hi]
      exact List.mem_of_getElem? e1
    unfold Log.force
    split
    · exact .inr he
    · split
      · exact .inr he
      · split
        · exact .inr he
        · exact .inr hmem
theorem topLsn_ge {l : List Fr} {f : Fr} (h : f ∈ l) : f.lsn ≤ topLsn l := by
  have key : ∀ (l : List Fr) (m : Int), m ≤ l.foldl (fun m f => max m f.lsn) m ∧ ∀ f ∈ l, f.lsn ≤ l.foldl (fun m f => max m f.lsn) m := by
    intro l
    induction l with
    | nil => intro m; exact ⟨Int.le_refl _, by simp⟩
    | cons x l ih =>
      intro m
      obtain ⟨h1, h2⟩ := ih (max m x.lsn)
      rw [List.foldl_cons]
      refine ⟨by omega, fun f hf => ?_⟩
      rcases List.mem_cons.1 hf with rfl | hf
      · omega
      · exact h2 f hf
  exact (key l 0).2 f h
theorem LInv.perm {ls : Int → Int} {fs gs : List Fr} {l : Log} (h : LInv ls fs l) (hp : fs.Perm gs) : LInv ls gs l := fun no hn => (h no hn).imp id fun ⟨h1, f, hf, h2⟩ => ⟨h1, f, hp.subset hf, h2⟩
theorem LInv.clean {now : Int → List UInt8} {ls : Int → Int} {fs : List Fr} {l : Log} {d : Dev} (h : PInv now fs l d) (hL : LInv ls fs l) (is : List Nat) : LInv ls (cleaned fs is) (poolClean fs is l d).2.1 ∧ l.forced ≤ (poolClean fs is l d).2.1.forced := by
  by_cases his : is = []
  · subst his
    unfold poolClean
    rw [if_pos rfl]
    exact ⟨hL, Nat.le_refl _⟩
  · obtain ⟨e1, e2, e3⟩ := force_ends h.free h.lok h.slot h.bad (topLsn (picks fs is))
    have hlog : (poolClean fs is l d).2.1 = (l.force d (topLsn (picks fs is))).1 := by
      unfold poolClean
      rw [if_neg his]
      split
      · rfl
      · split
        · rfl
        · split <;> rfl
    rw [hlog]
    refine ⟨fun no hn => ?_, e1⟩
    rcases hL no hn with h0 | ⟨⟨e, he, hle⟩, f, hf, hfn, hfd, hfl⟩
    · left; omega
    · obtain ⟨k, hk, hkf⟩ := List.getElem_of_mem hf
      have hg : fs[k]? = some f := by rw [List.getElem?_eq_getElem hk, hkf]
      by_cases hki : k ∈ is
      · left
        have := topLsn_ge (mem_picks hki hg)
        have := e2 e he (by omega)
        omega
      · have hm : (cleaned fs is)[k]? = some f := by rw [cleaned_get, if_neg hki, hg]
        rcases e3 e he with h1 | h1
        · left; omega
        · exact .inr ⟨⟨e, h1, hle⟩, f, List.mem_of_getElem? hm, hfn, hfd, hfl⟩
theorem LInv.cut {ls : Int → Int} {fs : List Fr} {l : Log} (hL : LInv ls fs l) {k : Nat} {g : Fr} (hg : fs[k]? = some g) (hc : g.dirty = false) : LInv ls (Go.Pl.cut fs k) l := fun no hn => (hL no hn).imp id fun ⟨h1, f, hf, h2, h3, h4⟩ => by
  rcases List.mem_cons.1 ((cut_perm hg).subset hf) with rfl | hf
  · rw [hc] at h3; cases h3
  · exact ⟨h1, f, hf, h2, h3, h4⟩
theorem LInv.step {now : Int → List UInt8} {ls : Int → Int} {fs : List Fr} {l : Log} {d : Dev} (h : PInv now fs l d) (hL : LInv ls fs l) (hl : 1 < fs.length) : LInv ls (roomStep fs l d).1 (roomStep fs l d).2.1 := by
  unfold roomStep
  split
  · obtain ⟨c1, c2, c3, c4, c5⟩ := h.clean [0]
    rw [if_neg (by omega)]
    obtain ⟨g, hg⟩ := nth (l := fs) (i := 0) (by omega)
    have hg2 : (cleaned fs [0])[0]? = some g.clean := by rw [cleaned_get, if_pos (by simp), hg]; rfl
    rw [c2]
    exact (LInv.clean h hL [0]).1.cut hg2 rfl
  · rename_i hc
    obtain ⟨i, hi, hil⟩ := firstAt_some hc
    rw [List.length_take] at hil
    obtain ⟨g, hg⟩ := nth (l := fs) (i := i) (by omega)
    have hgt : (fs.take (fs.length - 1))[i]? = some g := by rw [List.getElem?_take, if_pos (by omega)]; exact hg
    have hq := firstAt_true (q := isClean) (k := 0) (i := i) (by rw [hi]; simp) hgt
    rw [hi, Int.toNat_natCast]
    exact hL.cut hg (by unfold isClean at hq; simpa using hq)
theorem LInv.rooms {now : Int → List UInt8} {ls : Int → Int} {n : Nat} (hn : 1 ≤ n) : ∀ (k : Nat) {fs : List Fr} {l : Log} {d : Dev}, PInv now fs l d → LInv ls fs l → fs.length = n + k → LInv ls (poolRoom n k fs l d).1 (poolRoom n k fs l d).2.1 := by
  intro k
  induction k with
  | zero => intro fs l d _ hL _; exact hL
  | succ k ih =>
    intro fs l d h hL hl
    obtain ⟨s1, s2, _⟩ := h.step (by omega)
    have hsl := (roomStep_last (fs := fs) (l := l) (d := d) (by omega)).2 s1
    rw [poolRoom, if_neg (by omega)]
    exact ih s2 (hL.step h (by omega)) (by rw [hsl]; omega)
theorem LInv.room {now : Int → List UInt8} {ls : Int → Int} {n : Nat} (hn : 1 ≤ n) {fs : List Fr} {l : Log} {d : Dev} (h : PInv now fs l d) (hL : LInv ls fs l) : LInv ls (Go.Pl.room n fs l d).1 (Go.Pl.room n fs l d).2.1 := by
  by_cases hl : fs.length ≤ n
  · rw [room_small hl]; exact hL
  · unfold Go.Pl.room; exact hL.rooms hn _ h (by omega)
/-! ### the calls -/
def updI (ls : Int → Int) (no : Int) (n : Int) : Int → Int := fun k => if k = no then n else ls k
theorem LInv.put {now : Int → List UInt8} {ls : Int → Int} {fs : List Fr} {l : Log} {d : Dev} (h : PInv now fs l d) (hL : LInv ls fs l) (hf : fs.length ≤ 6) {no : Int} (hn : mayPage no) {b : List UInt8} (hb : b.length = 256) {e : Nat} (he : e ∈ l.ends) :
    LInv (updI ls no (e : Int)) (poolPut fs l d no b (e : Int)).2.1 (poolPut fs l d no b (e : Int)).2.2.1 := by
  have key : PInv (upd now no b) (putAt fs no b (e : Int)) l d ∧ LInv (updI ls no (e : Int)) (putAt fs no b (e : Int)) l := by
    refine ⟨?_, ?_⟩
    · have := h.put hf hn hb (e : Int)
      -- the pool's state ahead of the room
      exact PInv.putAt h hf hn hb (e : Int)
    · unfold putAt
      split
      · intro k hk
        unfold updI
        by_cases hke : k = no
        · rw [if_pos hke]
          exact .inr ⟨⟨e, he, rfl⟩, ⟨no, b, true, max 0 (e : Int)⟩, by simp, hke.symm, rfl, by dsimp only; omega⟩
        · rw [if_neg hke]
          exact (hL k hk).imp id fun ⟨h1, f, hf', h2⟩ => ⟨h1, f, by simp [hf'], h2⟩
      · rename_i h0
        obtain ⟨us, t, ea, ht, hp⟩ := asked_some h0
        rw [ea]
        simp only [List.dropLast_concat, lastFr, List.getLast?_concat, Option.getD_some]
        intro k hk
        unfold updI
        by_cases hke : k = no
        · rw [if_pos hke]
          exact .inr ⟨⟨e, he, rfl⟩, ⟨t.no, b, true, max t.lsn (e : Int)⟩, by simp, by rw [hke]; exact ht, rfl, by dsimp only; omega⟩
        · rw [if_neg hke]
          refine (hL k hk).imp id fun ⟨h1, f, hf', h2, h3⟩ => ⟨h1, f, ?_, h2, h3⟩
          rcases List.mem_append.1 (hp.subset hf') with hf' | hf'
          · simp [hf']
          · rw [List.mem_singleton] at hf'; subst hf'; exact absurd (h2.symm.trans ht) hke
  unfold poolPut
  rw [if_neg (by simpa using hn), if_neg (by omega)]
  exact key.2.room (n := 6) (by omega) key.1
theorem LInv.page {now : Int → List UInt8} {ls : Int → Int} {fs : List Fr} {l : Log} {d : Dev} (h : PInv now fs l d) (hL : LInv ls fs l) {no : Int} (hn : mayPage no) : LInv ls (poolPage fs l d no).2.2.1 (poolPage fs l d no).2.2.2.1 := by
  unfold poolPage
  rw [if_neg (by simpa using hn)]
  by_cases h0 : found fs no < 0
  · have hnot := found_not h0
    have hpg : pageNow d no = now no := h.on no hn fun f hf' he => absurd he (hnot f hf')
    have hrd := readPage_free h.free hn
    rw [if_pos h0, hrd, hpg]
    simp only
    rw [if_neg (by simp)]
    have hk := PInv.pageAt h hn h0
    have hLn : LInv ls (fs ++ [⟨no, now no, false, 0⟩]) l := fun k hk => (hL k hk).imp id fun ⟨h1, f, hf', h2⟩ => ⟨h1, f, by simp [hf'], h2⟩
    have := hLn.room (n := 6) (by omega) hk
    have he := (hk.room (n := 6) (by omega)).1
    rw [if_neg (by omega)]
    exact this
  · rw [if_neg h0]
    obtain ⟨us, t, e, ht, hp⟩ := asked_some h0
    dsimp only
    rw [e]
    exact hL.perm hp
end Go.Pl
end

section
namespace Go.Pl
open Go Go.Sx

/-- what may be said of a page's sector, by how far the log lasts -/
abbrev PQ := Nat → Int → List UInt8 → Prop
def PgOn (d : Dev) (Q : Int → List UInt8 → Prop) : Prop := ∀ i, 2 ≤ i → i < 386 → ∀ x, (d.sec i).may x → Q i x
def quarter (k : Nat) (b : List UInt8) : List UInt8 := (b.drop (64 * k)).take 64
theorem quarters_get {b : List UInt8} {k : Nat} {x : List UInt8} (h : (quarters b)[k]? = some x) : x = quarter k b ∧ k < 4 := by
  unfold quarters at h
  match k, h with
  | 0, h => simp at h; exact ⟨by rw [← h]; rfl, by omega⟩
  | 1, h => simp at h; exact ⟨by rw [← h]; rfl, by omega⟩
  | 2, h => simp at h; exact ⟨by rw [← h]; rfl, by omega⟩
  | 3, h => simp at h; exact ⟨by rw [← h]; rfl, by omega⟩
theorem PgOn.same {d d' : Dev} {Q : Int → List UInt8 → Prop} (h : PgOn d Q) (hs : Same 2 386 d d') : PgOn d' Q := fun i h0 h1 x hx => h i h0 h1 x ((hs i h0 h1).2 x hx)
theorem Fallen.same {d d' : Dev} {Ok : Nat → List (List UInt8) → Prop} (h : Fallen d Ok) (hd : Disk d') (h1 : Same 0 2 d d') (h2 : Same 386 1410 d d') : Fallen d' Ok := by
  refine ⟨hd, fun x y hx hy => ?_⟩
  obtain ⟨T, sl, base, rs, k1, k2, k3⟩ := h.2 x y ((h1 0 (by omega) (by omega)).2 x hx) ((h1 1 (by omega) (by omega)).2 y hy)
  exact ⟨T, sl, base, rs, k1, k2.same h2, k3⟩
theorem WInv.same {l : Log} {d d' : Dev} {rs : List (List UInt8)} {nf : Nat} (h : WInv l d rs nf) (hd : Disk d') (h1 : Same 0 2 d d') (h2 : Same 386 1410 d d') : WInv l d' rs nf :=
  ⟨hd, h.ok, h.bad, h.few, h.forced, h.end_, h.recs, h.ends, h.ring, h.slot, h.sup.same h1, h.on.same h2⟩
/-- what is beside the pages is the same -/
def Beside (d d' : Dev) : Prop := Same 0 2 d d' ∧ Same 386 1410 d d'
theorem Beside.refl (d : Dev) : Beside d d := ⟨Same.refl _ _ _, Same.refl _ _ _⟩
theorem Beside.trans {d d' d'' : Dev} (h : Beside d d') (h' : Beside d' d'') : Beside d d'' := ⟨h.1.trans h'.1, h.2.trans h'.2⟩
theorem Beside.flush {d : Dev} (h : Disk d) : Beside d d.flush.1 := ⟨Same.flush h (by omega) (by omega), Same.flush h (by omega) (by omega)⟩
theorem writes_crash {Q : Int → List UInt8 → Prop} : ∀ (l : List (List UInt8)) {d : Dev} (i : Int), Disk d → PgOn d Q → 2 ≤ i → i + l.length ≤ 386 → (∀ b ∈ l, b.length = 64) → (∀ k x, l[k]? = some x → Q (i + (k : Nat)) x) →
    ((d.writes i l).2 = 0 ∧ Disk (d.writes i l).1 ∧ PgOn (d.writes i l).1 Q ∧ Beside d (d.writes i l).1 ∧ (d.writes i l).1.reads i l.length = l.flatten ∧ (∀ k, 0 ≤ k → k < i ∨ i + l.length ≤ k → (d.writes i l).1.sec k = d.sec k)) ∨
    ((d.writes i l).2 = 5 ∧ (d.writes i l).1.gone = true ∧ Disk (d.writes i l).1 ∧ PgOn (d.writes i l).1 Q ∧ Beside d (d.writes i l).1) := by
  intro l
  induction l with
  | nil => intro d i h hp _ _ _ _; exact .inl ⟨rfl, h, hp, Beside.refl _, rfl, fun _ _ _ => rfl⟩
  | cons b l ih =>
    intro d i h hp h0 h1 hb hq
    simp only [List.length_cons] at h1 ⊢
    have hbl := hb b (by simp)
    have hB : Beside d (d.write i b).1 := ⟨Same.write h (by omega) (by omega) hbl (by omega) (.inr (by omega)), Same.write h (by omega) (by omega) hbl (by omega) (.inl (by omega))⟩
    rw [Dev.writes]
    rcases h.write (i := i) (by omega) (by omega) hbl with ⟨g, e⟩ | ⟨g, e, hd, e1, e2⟩
    · right
      rw [e, if_pos (by simp)]
      exact ⟨rfl, g, h, hp, Beside.refl _⟩
    · rw [if_neg (by omega)]
      generalize hdq : (d.write i b).1 = d1 at *
      have hp1 : PgOn d1 Q := by
        intro k hk0 hk1 x hx
        by_cases hk : k = i
        · subst hk
          rw [e1] at hx
          rcases may_put (h.sok (by omega) (by omega)) hbl hx with rfl | rfl
          · exact hp _ hk0 hk1 _ (may_lasts _)
          · have := hq 0 x rfl
            rwa [show k + ((0 : Nat) : Int) = k by omega] at this
        · rw [e2 k (by omega) hk] at hx
          exact hp k hk0 hk1 x hx
      rcases ih (i + 1) hd hp1 (by omega) (by omega) (fun c hc => hb c (by simp [hc])) (fun k x hx => by have := hq (k + 1) x (by simpa using hx); rwa [show i + ((k + 1 : Nat) : Int) = i + 1 + (k : Nat) by omega] at this) with ⟨a1, a2, a3, a4, a5, a6⟩ | ⟨a1, a2, a3, a4, a5⟩
      · left
        refine ⟨a1, a2, a3, hB.trans a4, ?_, fun k hk hor => ?_⟩
        · rw [Dev.reads, a5, a6 i (by omega) (.inl (by omega)), e1, put_now (h.sok (by omega) (by omega)) hbl]
          rfl
        · rw [a6 k hk (by omega), e2 k hk (by omega)]
      · right
        exact ⟨a1, a2, a3, a4, hB.trans a5⟩
/-- a page is written -/
theorem writePage_crash {Q : Int → List UInt8 → Prop} {d : Dev} (h : Disk d) (hp : PgOn d Q) {no : Int} (hn : mayPage no) {b : List UInt8} (hb : b.length = 256) (hq : ∀ k, k < 4 → Q (2 + 4 * no + (k : Nat)) (quarter k b)) :
    ((writePage d no b).2 = 0 ∧ Disk (writePage d no b).1 ∧ PgOn (writePage d no b).1 Q ∧ Beside d (writePage d no b).1 ∧ pageNow (writePage d no b).1 no = b ∧ (∀ k, mayPage k → k ≠ no → pageNow (writePage d no b).1 k = pageNow d k)) ∨
    ((writePage d no b).2 = 5 ∧ (writePage d no b).1.gone = true ∧ Disk (writePage d no b).1 ∧ PgOn (writePage d no b).1 Q ∧ Beside d (writePage d no b).1) := by
  have hn' := hn
  unfold mayPage at hn'
  unfold writePage
  rw [if_neg (by simpa using hn), if_neg (by omega)]
  rcases writes_crash (quarters b) (2 + 4 * no) h hp (by omega) (by simp [quarters]; omega) (quarters_len hb) (fun k x hx => by obtain ⟨rfl, hk⟩ := quarters_get hx; exact hq k hk) with ⟨a1, a2, a3, a4, a5, a6⟩ | a
  · left
    refine ⟨a1, a2, a3, a4, ?_, fun k hk hne => ?_⟩
    · unfold pageNow; rw [show (4 : Nat) = (quarters b).length from rfl, a5, quarters_flat hb]
    · unfold mayPage at hk
      exact reads_same 4 _ fun i h0 h1 => by rw [a6 i (by omega) (by simp only [quarters, List.length_cons, List.length_nil]; omega)]
  · exact .inr a
theorem wrFrames_crash {Q : Int → List UInt8 → Prop} (now : Int → List UInt8) : ∀ (l : List Fr) {d : Dev}, Disk d → PgOn d Q → (∀ f ∈ l, mayPage f.no ∧ f.b.length = 256 ∧ f.b = now f.no ∧ ∀ k, k < 4 → Q (2 + 4 * f.no + (k : Nat)) (quarter k f.b)) →
    ((wrFrames d l).2 = 0 ∧ Disk (wrFrames d l).1 ∧ PgOn (wrFrames d l).1 Q ∧ Beside d (wrFrames d l).1 ∧ ∀ no, mayPage no → (pageNow d no = now no ∨ ∃ f ∈ l, f.no = no) → pageNow (wrFrames d l).1 no = now no) ∨
    ((wrFrames d l).2 = 5 ∧ (wrFrames d l).1.gone = true ∧ Disk (wrFrames d l).1 ∧ PgOn (wrFrames d l).1 Q ∧ Beside d (wrFrames d l).1) := by
  intro l
  induction l with
  | nil => intro d h hp _; exact .inl ⟨rfl, h, hp, Beside.refl _, fun no _ hh => by rcases hh with hh | ⟨f, hf, _⟩; exact hh; cases hf⟩
  | cons f l ih =>
    intro d h hp hl
    obtain ⟨hm, hb, hnw, hq⟩ := hl f (by simp)
    rw [wrFrames]
    rcases writePage_crash h hp hm hb hq with ⟨a1, a2, a3, a4, a5, a6⟩ | ⟨a1, a2, a3, a4, a5⟩
    · rw [if_neg (by omega)]
      rcases ih a2 a3 (fun g hg => hl g (by simp [hg])) with ⟨b1, b2, b3, b4, b5⟩ | ⟨b1, b2, b3, b4, b5⟩
      · left
        refine ⟨b1, b2, b3, a4.trans b4, fun no hno hh => b5 no hno ?_⟩
        by_cases he : no = f.no
        · left; rw [he, a5, hnw]
        · rcases hh with hh | ⟨g, hg, rfl⟩
          · left; rw [a6 no hno he]; exact hh
          · rcases List.mem_cons.1 hg with rfl | hg
            · exact absurd rfl he
            · exact .inr ⟨g, hg, rfl⟩
      · right
        exact ⟨b1, b2, b3, b4, a4.trans b5⟩
    · right
      rw [if_pos (by omega)]
      exact ⟨a1, a2, a3, a4, a5⟩

/-- all is as it was put last; a page's sector is right by how far the log lasts -/
structure KInv (Q : PQ) (now : Int → List UInt8) (fs : List Fr) (l : Log) (d : Dev) (rs : List (List UInt8)) (nf : Nat) : Prop where
  w : WInv l d rs nf
  pg : PgOn d (Q l.forced)
  rest : ∀ i, 2 ≤ i → i < 386 → ∀ x, (d.sec i).may x → x = (d.sec i).now
  fr : ∀ f ∈ fs, mayPage f.no ∧ f.b.length = 256 ∧ f.b = now f.no
  lsn : ∀ f ∈ fs, f.lsn ≤ l.forced ∨ ∃ e ∈ l.ends, (e : Int) = f.lsn
  q : ∀ f ∈ fs, ∀ fo : Nat, l.forced ≤ fo → f.lsn ≤ fo → ∀ k, k < 4 → Q fo (2 + 4 * f.no + (k : Nat)) (quarter k f.b)
  on : ∀ no, mayPage no → (∀ f ∈ fs, f.no = no → f.dirty = false) → pageNow d no = now no
  nodup : (nos fs).Nodup
def Mono (Q : PQ) : Prop := ∀ a b i x, a ≤ b → Q a i x → Q b i x
/-- the device is gone; whatever is behind a crash can be opened, and its pages are right by its log -/
def Lost (Q : PQ) (base : Nat) (rs : List (List UInt8)) (nf : Nat) (d : Dev) : Prop :=
  d.gone = true ∧ ∃ m, nf ≤ m ∧ m ≤ rs.length ∧ Fallen d (UpTo base rs m) ∧ PgOn d (Q (endAt base rs m))
theorem Lost.less {Q : PQ} {base : Nat} {rs : List (List UInt8)} {nf nf' : Nat} {d : Dev} (h : Lost Q base rs nf d) (hl : nf' ≤ nf) : Lost Q base rs nf' d := by
  obtain ⟨h1, m, h2, h3⟩ := h
  exact ⟨h1, m, by omega, h3⟩
theorem KInv.perm {Q : PQ} {now : Int → List UInt8} {fs gs : List Fr} {l : Log} {d : Dev} {rs : List (List UInt8)} {nf : Nat} (h : KInv Q now fs l d rs nf) (hp : fs.Perm gs) : KInv Q now gs l d rs nf :=
  ⟨h.w, h.pg, h.rest, fun f hf => h.fr f (hp.symm.subset hf), fun f hf => h.lsn f (hp.symm.subset hf), fun f hf => h.q f (hp.symm.subset hf), fun no hn hh => h.on no hn fun f hf => hh f (hp.subset hf), (hp.map _).nodup_iff.1 h.nodup⟩
theorem KInv.mono {Q Q' : PQ} {now : Int → List UInt8} {fs : List Fr} {l : Log} {d : Dev} {rs : List (List UInt8)} {nf : Nat} (h : KInv Q now fs l d rs nf) (hq : ∀ a i x, Q a i x → Q' a i x) : KInv Q' now fs l d rs nf :=
  ⟨h.w, fun i h0 h1 x hx => hq _ _ _ (h.pg i h0 h1 x hx), h.rest, h.fr, h.lsn, fun f hf fo h0 h1 k hk => hq _ _ _ (h.q f hf fo h0 h1 k hk), h.on, h.nodup⟩
theorem rest_flush {d : Dev} (h : Disk d) (hg : d.flush.2 = 0) : ∀ i, 2 ≤ i → i < 386 → ∀ x, (d.flush.1.sec i).may x → x = (d.flush.1.sec i).now := by
  intro i h0 h1 x hx
  rcases h.flush with ⟨_, e⟩ | ⟨_, _, _, e⟩
  · rw [e] at hg; cases hg
  · rw [e i (by omega) (by omega)] at hx ⊢; rw [may_rest hx]; rfl
/-- some frames are cleaned, and last; or the device is gone -/
theorem KInv.clean {Q : PQ} (hM : Mono Q) {now : Int → List UInt8} {fs : List Fr} {l : Log} {d : Dev} {rs : List (List UInt8)} {nf : Nat} (h : KInv Q now fs l d rs nf) (hT : l.sup.turn + 1 ≤ 4611686018427387904) (is : List Nat) :
    ∃ m, nf ≤ m ∧ m ≤ rs.length ∧
    (((poolClean fs is l d).2.2.2 = 0 ∧ (poolClean fs is l d).1 = cleaned fs is ∧ KInv Q now (cleaned fs is) (poolClean fs is l d).2.1 (poolClean fs is l d).2.2.1 rs m ∧ (poolClean fs is l d).2.1.end_ = l.end_ ∧ (poolClean fs is l d).2.1.base = l.base) ∨
     ((poolClean fs is l d).2.2.2 = 5 ∧ Lost Q l.base rs nf (poolClean fs is l d).2.2.1)) := by
  by_cases his : is = []
  · subst his
    refine ⟨nf, Nat.le_refl _, h.w.few, .inl ?_⟩
    unfold poolClean
    rw [if_pos rfl]
    exact ⟨rfl, rfl, h, rfl, rfl⟩
  · obtain ⟨m, hm0, hm1, hfar, hcase⟩ := Log.force_crash h.w hT (topLsn (picks fs is))
    refine ⟨m, hm0, hm1, ?_⟩
    unfold poolClean
    rw [if_neg his]
    generalize hlq : l.force d (topLsn (picks fs is)) = w at *
    obtain ⟨l1, d1, e1⟩ := w
    dsimp only at hcase ⊢
    rcases hcase with ⟨a1, a2, a3, a4, a5⟩ | ⟨a1, a2, a3, a4⟩
    · rw [if_neg (by omega)]
      have hfo : l1.forced = endAt l.base rs m := by rw [a2.forced, a3]
      have hfle : l.forced ≤ l1.forced := by rw [hfo, h.w.forced]; exact endAt_mono hm0
      have hpg1 : PgOn d1 (Q l1.forced) := fun i h0 h1 x hx => hM _ _ _ _ hfle (h.pg.same a5 i h0 h1 x hx)
      have hge : ∀ f ∈ picks fs is, f.lsn ≤ l1.forced := by
        intro f hf
        obtain ⟨k, _, hk⟩ := picks_mem hf
        have hmem := List.mem_of_getElem? hk
        rcases h.lsn f hmem with h0 | ⟨e, he, hee⟩
        · omega
        · have := far_ge h.w.ok he (to := topLsn (picks fs is)) (by rw [hee]; exact topLsn_ge hf)
          rw [hfar, ← hfo] at this
          omega
      have hpk : ∀ f ∈ picks fs is, mayPage f.no ∧ f.b.length = 256 ∧ f.b = now f.no ∧ ∀ k, k < 4 → Q l1.forced (2 + 4 * f.no + (k : Nat)) (quarter k f.b) := by
        intro f hf
        obtain ⟨k, _, hk⟩ := picks_mem hf
        have hmem := List.mem_of_getElem? hk
        obtain ⟨b1, b2, b3⟩ := h.fr f hmem
        exact ⟨b1, b2, b3, h.q f hmem l1.forced hfle (hge f hf)⟩
      have lost : ∀ d', Disk d' → d'.gone = true → PgOn d' (Q l1.forced) → Beside d1 d' → Lost Q l.base rs nf d' := by
        intro d' hd' hg hp hb
        refine ⟨hg, m, hm0, hm1, ?_, by rw [← hfo]; exact hp⟩
        have := a2.fallen.same hd' hb.1 hb.2
        rwa [a3] at this
      rcases wrFrames_crash now (picks fs is) a2.disk hpg1 hpk with ⟨b1, b2, b3, b4, b5⟩ | ⟨b1, b2, b3, b4, b5⟩
      · rw [if_neg (by omega)]
        generalize hdq : (wrFrames d1 (picks fs is)).1 = d2 at *
        rcases b2.flush with ⟨g, f⟩ | ⟨g, f, hd3, f1⟩
        · right
          rw [f, if_pos (by simp)]
          exact ⟨rfl, lost _ b2 g b3 b4⟩
        · left
          rw [if_neg (by omega)]
          have hB := b4.trans (Beside.flush b2)
          refine ⟨rfl, rfl, ⟨a2.same hd3 hB.1 hB.2, b3.same (Same.flush b2 (by omega) (by omega)), rest_flush b2 f, ?_, ?_, ?_, ?_, by rw [cleaned_nos]; exact h.nodup⟩, a4, a3⟩
          · intro f hf
            obtain ⟨k, g, hg, ⟨_, rfl⟩ | ⟨_, rfl⟩⟩ := cleaned_mem hf
            · exact h.fr g (List.mem_of_getElem? hg)
            · exact h.fr f (List.mem_of_getElem? hg)
          · intro f hf
            obtain ⟨k, g, hg, ⟨_, rfl⟩ | ⟨_, rfl⟩⟩ := cleaned_mem hf
            · left; show (0 : Int) ≤ _; omega
            · show f.lsn ≤ (l1.forced : Int) ∨ ∃ e ∈ l1.ends, (e : Int) = f.lsn
              rcases h.lsn f (List.mem_of_getElem? hg) with h0 | ⟨e, he, hee⟩
              · left; omega
              · rw [h.w.ends] at he
                obtain ⟨j, hj, rfl⟩ := List.mem_map.1 he
                rw [List.mem_range'_1] at hj
                by_cases hjm : j ≤ m
                · left
                  have := endAt_mono (base := l.base) (rs := rs) hjm
                  rw [hfo, ← hee]; omega
                · right
                  refine ⟨_, ?_, hee⟩
                  rw [a2.ends, a3]
                  exact List.mem_map.2 ⟨j, by rw [List.mem_range'_1]; omega, rfl⟩
          · intro f hf fo h0 h1 k hk
            have h0 : l1.forced ≤ fo := h0
            obtain ⟨i, g, hg, ⟨hi, rfl⟩ | ⟨_, rfl⟩⟩ := cleaned_mem hf
            · have := hge g (mem_picks hi hg)
              exact h.q g (List.mem_of_getElem? hg) fo (by omega) (by omega) k hk
            · exact h.q f (List.mem_of_getElem? hg) fo (by omega) h1 k hk
          · intro no hn hh
            have hk : ∀ i, 2 ≤ i → i < 386 → (d2.flush.1.sec i).now = (d2.sec i).now := fun i h0 h1 => by rw [f1 i (by omega) (by omega)]; rfl
            have hn' := hn
            unfold mayPage at hn'
            rw [show pageNow d2.flush.1 no = pageNow d2 no from reads_same 4 _ fun i h0 h1 => hk i (by omega) (by omega)]
            refine b5 no hn ?_
            by_cases hp : ∃ f ∈ picks fs is, f.no = no
            · exact .inr hp
            · left
              rw [show pageNow d1 no = pageNow d no from reads_same 4 _ fun i h0 h1 => (a5 i (by omega) (by omega)).1]
              refine h.on no hn fun f hf hfn => ?_
              obtain ⟨k, hk, hkf⟩ := List.getElem_of_mem hf
              have hg : fs[k]? = some f := by rw [List.getElem?_eq_getElem hk, hkf]
              have hki : k ∉ is := fun hki => hp ⟨f, mem_picks hki hg, hfn⟩
              have hm : (cleaned fs is)[k]? = some f := by rw [cleaned_get, if_neg hki, hg]
              exact hh f (List.mem_of_getElem? hm) hfn
      · right
        rw [if_pos (by omega)]
        exact ⟨b1, lost _ b3 b2 b4 b5⟩
    · right
      rw [if_pos (by omega)]
      refine ⟨a1, a2, nf, Nat.le_refl _, h.w.few, a3, ?_⟩
      rw [← h.w.forced]
      exact h.pg.same a4
end Go.Pl
end

section
namespace Go.Pl
open Go Go.Sx

theorem KInv.cut {Q : PQ} {now : Int → List UInt8} {fs : List Fr} {l : Log} {d : Dev} {rs : List (List UInt8)} {nf : Nat} (h : KInv Q now fs l d rs nf) {k : Nat} {g : Fr} (hg : fs[k]? = some g) (hc : g.dirty = false) : KInv Q now (Go.Pl.cut fs k) l d rs nf := by
  have hp := cut_perm hg
  refine ⟨h.w, h.pg, h.rest, fun f hf => h.fr f (cut_mem hf), fun f hf => h.lsn f (cut_mem hf), fun f hf => h.q f (cut_mem hf), fun no hn hh => h.on no hn fun f hf hfn => ?_, ?_⟩
  · rcases List.mem_cons.1 (hp.subset hf) with rfl | hf
    · exact hc
    · exact hh f hf hfn
  · have := (hp.map Fr.no).nodup_iff.1 (show (fs.map Fr.no).Nodup from h.nodup)
    exact (List.nodup_cons.1 this).2
/-- what a call leaves: all is right; or the device is gone -/
def KRes (Q : PQ) (now : Int → List UInt8) (l : Log) (rs : List (List UInt8)) (nf : Nat) (e : Int) (fs' : List Fr) (l' : Log) (d' : Dev) : Prop :=
  (e = 0 ∧ ∃ m, nf ≤ m ∧ m ≤ rs.length ∧ KInv Q now fs' l' d' rs m ∧ l'.end_ = l.end_ ∧ l'.base = l.base) ∨ (e = 5 ∧ Lost Q l.base rs nf d')
theorem roomStep_turn (fs : List Fr) (l : Log) (d : Dev) : (roomStep fs l d).2.1.sup.turn ≤ l.sup.turn + 1 := by
  unfold roomStep
  split
  · split
    · exact poolClean_turn ..
    · exact poolClean_turn ..
  · exact Nat.le_succ _
theorem poolRoom_turn (n : Nat) : ∀ (k : Nat) (fs : List Fr) (l : Log) (d : Dev), (poolRoom n k fs l d).2.1.sup.turn ≤ l.sup.turn + k := by
  intro k
  induction k with
  | zero => intro fs l d; exact Nat.le_refl _
  | succ k ih =>
    intro fs l d
    have h1 := roomStep_turn fs l d
    rw [poolRoom]
    split
    · omega
    · have := ih (roomStep fs l d).1 (roomStep fs l d).2.1 (roomStep fs l d).2.2.1
      omega
theorem KInv.step {Q : PQ} (hM : Mono Q) {now : Int → List UInt8} {fs : List Fr} {l : Log} {d : Dev} {rs : List (List UInt8)} {nf : Nat} (h : KInv Q now fs l d rs nf) (hT : l.sup.turn + 1 ≤ 4611686018427387904) (hl : 1 < fs.length) :
    KRes Q now l rs nf (roomStep fs l d).2.2.2 (roomStep fs l d).1 (roomStep fs l d).2.1 (roomStep fs l d).2.2.1 := by
  unfold roomStep
  split
  · rename_i hc
    obtain ⟨m, m0, m1, ⟨c1, c2, c3, c4, c5⟩ | ⟨c1, c2⟩⟩ := h.clean hM hT [0]
    · rw [if_neg (by omega)]
      obtain ⟨g, hg⟩ := nth (l := fs) (i := 0) (by omega)
      have hg2 : (cleaned fs [0])[0]? = some g.clean := by rw [cleaned_get, if_pos (by simp), hg]; rfl
      rw [c2]
      exact .inl ⟨rfl, m, m0, m1, c3.cut hg2 rfl, c4, c5⟩
    · rw [if_pos (by omega)]
      exact .inr ⟨c1, c2⟩
  · rename_i hc
    obtain ⟨i, hi, hil⟩ := firstAt_some hc
    rw [List.length_take] at hil
    obtain ⟨g, hg⟩ := nth (l := fs) (i := i) (by omega)
    have hgt : (fs.take (fs.length - 1))[i]? = some g := by rw [List.getElem?_take, if_pos (by omega)]; exact hg
    have hq := firstAt_true (q := isClean) (k := 0) (i := i) (by rw [hi]; simp) hgt
    rw [hi, Int.toNat_natCast]
    exact .inl ⟨rfl, nf, Nat.le_refl _, h.w.few, h.cut hg (by unfold isClean at hq; simpa using hq), rfl, rfl⟩
theorem KInv.rooms {Q : PQ} (hM : Mono Q) {now : Int → List UInt8} {n : Nat} (hn : 1 ≤ n) : ∀ (k : Nat) {fs : List Fr} {l : Log} {d : Dev} {rs : List (List UInt8)} {nf : Nat}, KInv Q now fs l d rs nf → l.sup.turn + k ≤ 4611686018427387904 → fs.length = n + k →
    KRes Q now l rs nf (poolRoom n k fs l d).2.2.2 (poolRoom n k fs l d).1 (poolRoom n k fs l d).2.1 (poolRoom n k fs l d).2.2.1 ∧ ((poolRoom n k fs l d).2.2.2 = 0 → (poolRoom n k fs l d).1.length = n) := by
  intro k
  induction k with
  | zero => intro fs l d rs nf h _ hl; exact ⟨.inl ⟨rfl, nf, Nat.le_refl _, h.w.few, h, rfl, rfl⟩, fun _ => hl⟩
  | succ k ih =>
    intro fs l d rs nf h hT hl
    have hs := h.step hM (by omega) (by omega)
    have ht := roomStep_turn fs l d
    rw [poolRoom]
    rcases hs with ⟨s1, m, m0, m1, s2, s3, s4⟩ | ⟨s1, s2⟩
    · rw [if_neg (by omega)]
      have hsl := (roomStep_last (fs := fs) (l := l) (d := d) (by omega)).2 s1
      obtain ⟨r1, r2⟩ := ih s2 (by omega) (by rw [hsl]; omega)
      refine ⟨?_, r2⟩
      rcases r1 with ⟨q1, m', p0, p1, q2, q3, q4⟩ | ⟨q1, q2⟩
      · exact .inl ⟨q1, m', by omega, p1, q2, by rw [q3, s3], by rw [q4, s4]⟩
      · rw [s4] at q2
        exact .inr ⟨q1, q2.less m0⟩
    · rw [if_pos (by omega)]
      exact ⟨.inr ⟨s1, s2⟩, fun h => by omega⟩
theorem KInv.room {Q : PQ} (hM : Mono Q) {now : Int → List UInt8} {n : Nat} (hn : 1 ≤ n) {fs : List Fr} {l : Log} {d : Dev} {rs : List (List UInt8)} {nf : Nat} (h : KInv Q now fs l d rs nf) (hT : l.sup.turn + (fs.length - n) ≤ 4611686018427387904) :
    KRes Q now l rs nf (Go.Pl.room n fs l d).2.2.2 (Go.Pl.room n fs l d).1 (Go.Pl.room n fs l d).2.1 (Go.Pl.room n fs l d).2.2.1 ∧ ((Go.Pl.room n fs l d).2.2.2 = 0 → (Go.Pl.room n fs l d).1.length ≤ n) := by
  by_cases hl : fs.length ≤ n
  · rw [room_small hl]
    exact ⟨.inl ⟨rfl, nf, Nat.le_refl _, h.w.few, h, rfl, rfl⟩, fun _ => hl⟩
  · obtain ⟨r1, r2⟩ := KInv.rooms hM hn (fs.length - n) h hT (by omega)
    exact ⟨r1, fun h => Nat.le_of_eq (r2 h)⟩

/-! ### put -/
theorem KInv.putAt {Q : PQ} {now : Int → List UInt8} {fs : List Fr} {l : Log} {d : Dev} {rs : List (List UInt8)} {nf : Nat} (h : KInv Q now fs l d rs nf) (hf : fs.length ≤ 6) {no : Int} (hn : mayPage no) {b : List UInt8} (hb : b.length = 256) {lsn : Int}
    (hl : lsn ≤ l.forced ∨ ∃ e ∈ l.ends, (e : Int) = lsn) (hq : ∀ fo : Nat, l.forced ≤ fo → lsn ≤ fo → ∀ k, k < 4 → Q fo (2 + 4 * no + (k : Nat)) (quarter k b)) :
    KInv Q (upd now no b) (Go.Pl.putAt fs no b lsn) l d rs nf ∧ (Go.Pl.putAt fs no b lsn).length ≤ 7 := by
  have hmax : ∀ a : Int, (a ≤ l.forced ∨ ∃ e ∈ l.ends, (e : Int) = a) → (max a lsn ≤ l.forced ∨ ∃ e ∈ l.ends, (e : Int) = max a lsn) := by
    intro a ha
    rcases (show max a lsn = a ∨ max a lsn = lsn by omega) with e | e
    · rw [e]; exact ha
    · rw [e]; exact hl
  unfold Go.Pl.putAt
  split
  · rename_i h0
    have hnot := found_not h0
    refine ⟨⟨h.w, h.pg, h.rest, ?_, ?_, ?_, ?_, ?_⟩, by simp; omega⟩
    · intro f hf'
      rcases List.mem_append.1 hf' with hf' | hf'
      · obtain ⟨a1, a2, a3⟩ := h.fr f hf'
        exact ⟨a1, a2, by unfold upd; rw [if_neg (hnot f hf')]; exact a3⟩
      · rw [List.mem_singleton] at hf'; subst hf'
        exact ⟨hn, hb, by unfold upd; rw [if_pos rfl]⟩
    · intro f hf'
      rcases List.mem_append.1 hf' with hf' | hf'
      · exact h.lsn f hf'
      · rw [List.mem_singleton] at hf'; subst hf'
        exact hmax 0 (.inl (by omega))
    · intro f hf' fo h1 h2 k hk
      rcases List.mem_append.1 hf' with hf' | hf'
      · exact h.q f hf' fo h1 h2 k hk
      · rw [List.mem_singleton] at hf'; subst hf'
        dsimp only at h2 ⊢
        exact hq fo h1 (by omega) k hk
    · intro k hk hh
      by_cases he : k = no
      · exfalso
        have := hh ⟨no, b, true, max 0 lsn⟩ (by simp) he.symm
        cases this
      · unfold upd; rw [if_neg he]
        exact h.on k hk fun f hf' => hh f (by simp [hf'])
    · unfold nos; rw [List.map_append]
      refine List.nodup_append.2 ⟨h.nodup, by simp, ?_⟩
      intro a ha c hc
      simp only [List.map_cons, List.map_nil, List.mem_singleton] at hc
      subst hc
      obtain ⟨f, hf', rfl⟩ := List.mem_map.1 ha
      exact hnot f hf'
  · rename_i h0
    obtain ⟨us, t, e, ht, hp⟩ := asked_some h0
    have hq' := h.perm hp
    have hlen := hp.length_eq
    rw [e]
    simp only [List.dropLast_concat, lastFr, List.getLast?_concat, Option.getD_some]
    have hnd := hq'.nodup
    unfold nos at hnd
    rw [List.map_append, List.nodup_append] at hnd
    have hus : ∀ f ∈ us, f.no ≠ no := fun f hf' he => hnd.2.2 f.no (List.mem_map.2 ⟨f, hf', rfl⟩) t.no (by simp) (by rw [he, ht])
    refine ⟨⟨h.w, h.pg, h.rest, ?_, ?_, ?_, ?_, ?_⟩, by simp at hlen ⊢; omega⟩
    · intro f hf'
      rcases List.mem_append.1 hf' with hf' | hf'
      · obtain ⟨a1, a2, a3⟩ := hq'.fr f (by simp [hf'])
        exact ⟨a1, a2, by unfold upd; rw [if_neg (hus f hf')]; exact a3⟩
      · rw [List.mem_singleton] at hf'; subst hf'
        exact ⟨by rw [ht]; exact hn, hb, by unfold upd; rw [if_pos ht]⟩
    · intro f hf'
      rcases List.mem_append.1 hf' with hf' | hf'
      · exact hq'.lsn f (by simp [hf'])
      · rw [List.mem_singleton] at hf'; subst hf'
        exact hmax t.lsn (hq'.lsn t (by simp))
    · intro f hf' fo h1 h2 k hk
      rcases List.mem_append.1 hf' with hf' | hf'
      · exact hq'.q f (by simp [hf']) fo h1 h2 k hk
      · rw [List.mem_singleton] at hf'; subst hf'
        dsimp only at h2 ⊢
        rw [ht]
        exact hq fo h1 (by omega) k hk
    · intro k hk hh
      by_cases he : k = no
      · exfalso
        have := hh ⟨t.no, b, true, max t.lsn lsn⟩ (by simp) (by rw [he]; exact ht)
        cases this
      · unfold upd; rw [if_neg he]
        refine hq'.on k hk fun f hf' hfk => ?_
        rcases List.mem_append.1 hf' with hf' | hf'
        · exact hh f (by simp [hf']) hfk
        · rw [List.mem_singleton] at hf'; subst hf'; exact absurd (hfk.symm.trans ht) he
    · unfold nos; rw [List.map_append]
      refine List.nodup_append.2 ⟨hnd.1, by simp, ?_⟩
      intro a ha c hc
      simp only [List.map_cons, List.map_nil, List.mem_singleton] at hc
      subst hc
      exact hnd.2.2 a ha t.no (by simp)
theorem KInv.put {Q : PQ} (hM : Mono Q) {now : Int → List UInt8} {fs : List Fr} {l : Log} {d : Dev} {rs : List (List UInt8)} {nf : Nat} (h : KInv Q now fs l d rs nf) (hT : l.sup.turn + 1 ≤ 4611686018427387904) (hf : fs.length ≤ 6) {no : Int} (hn : mayPage no) {b : List UInt8} (hb : b.length = 256) {lsn : Int}
    (hl : lsn ≤ l.forced ∨ ∃ e ∈ l.ends, (e : Int) = lsn) (hq : ∀ fo : Nat, l.forced ≤ fo → lsn ≤ fo → ∀ k, k < 4 → Q fo (2 + 4 * no + (k : Nat)) (quarter k b)) :
    KRes Q (upd now no b) l rs nf (poolPut fs l d no b lsn).1 (poolPut fs l d no b lsn).2.1 (poolPut fs l d no b lsn).2.2.1 (poolPut fs l d no b lsn).2.2.2 ∧ ((poolPut fs l d no b lsn).1 = 0 → (poolPut fs l d no b lsn).2.1.length ≤ 6) := by
  obtain ⟨h1, h2⟩ := h.putAt hf hn hb hl hq
  unfold poolPut
  rw [if_neg (by simpa using hn), if_neg (by omega)]
  exact h1.room hM (n := 6) (by omega) (by omega)
theorem KInv.flush {Q : PQ} (hM : Mono Q) {now : Int → List UInt8} {fs : List Fr} {l : Log} {d : Dev} {rs : List (List UInt8)} {nf : Nat} (h : KInv Q now fs l d rs nf) (hT : l.sup.turn + 1 ≤ 4611686018427387904) {no : Int} (hn : mayPage no) :
    KRes Q now l rs nf (poolFlush fs l d no).1 (poolFlush fs l d no).2.1 (poolFlush fs l d no).2.2.1 (poolFlush fs l d no).2.2.2 ∧ ((poolFlush fs l d no).1 = 0 → (poolFlush fs l d no).2.1.length = fs.length) := by
  unfold poolFlush
  rw [if_neg (by simpa using hn)]
  split
  · exact ⟨.inl ⟨rfl, nf, Nat.le_refl _, h.w.few, h, rfl, rfl⟩, fun _ => rfl⟩
  · obtain ⟨m, m0, m1, ⟨c1, c2, c3, c4, c5⟩ | ⟨c1, c2⟩⟩ := h.clean hM hT [(firstAt (isNoDirty no) 0 fs).toNat]
    · rw [c2]
      exact ⟨.inl ⟨c1, m, m0, m1, c3, c4, c5⟩, fun _ => cleaned_length _ _⟩
    · exact ⟨.inr ⟨c1, c2⟩, fun h => by dsimp only at h; omega⟩
end Go.Pl
end

section
namespace Go.Pl
open Go Go.Sx

theorem Free.writes2 {d : Dev} (hf : Free d) (h : Disk d) {i : Int} (h0 : 0 ≤ i) (h1 : i < 1410) {b : List UInt8} (hb : b.length = 64) :
    (d.write i b).2 = 0 ∧ Free (d.write i b).1 ∧ Disk (d.write i b).1 ∧ (d.write i b).1.sec i = (d.sec i).put b ∧ ∀ k, 0 ≤ k → k ≠ i → (d.write i b).1.sec k = d.sec k := by
  rcases h.write h0 h1 hb with ⟨g, _⟩ | ⟨_, e, hd, e1, e2⟩
  · rw [hf.gone] at g; cases g
  · exact ⟨e, hf.write_free i b, hd, e1, e2⟩
theorem Free.flush2 {d : Dev} (hf : Free d) (h : Disk d) : d.flush.2 = 0 ∧ Free d.flush.1 ∧ Disk d.flush.1 ∧ ∀ k, 0 ≤ k → k < 1410 → d.flush.1.sec k = (d.sec k).rest := by
  rcases h.flush with ⟨g, _⟩ | ⟨_, e, hd, e1⟩
  · rw [hf.gone] at g; cases g
  · exact ⟨e, hf.flush_free, hd, e1⟩
/-- a log is made on a device that does not die -/
theorem logMake_free {d : Dev} (hf : Free d) (h : Disk d) : ∃ l d', logMake d = (some l, d', 0) ∧ Free d' ∧ WInv l d' [] 0 ∧ l.base = 0 ∧ l.forced = 0 ∧ l.end_ = 0 ∧ l.ends = [] ∧ l.sup.turn = 1 ∧
    (∀ i, 2 ≤ i → i < 1410 → (d'.sec i).now = (d.sec i).now) ∧ ∀ i, 0 ≤ i → i < 1410 → ∀ x, (d'.sec i).may x → x = (d'.sec i).now := by
  have hz : (noughts 64).length = 64 := noughts_length 64
  have ht := logText_length (a := 0) (b := 0) (by omega) (by omega)
  obtain ⟨a1, a2, a3, a4, a5⟩ := hf.writes2 h (i := 0) (by omega) (by omega) hz
  obtain ⟨b1, b2, b3, b4, b5⟩ := a2.writes2 a3 (i := 0 + 1) (by omega) (by omega) hz
  have hw : d.writes 0 [noughts 64, noughts 64] = (((d.write 0 (noughts 64)).1.write (0 + 1) (noughts 64)).1, 0) := by
    rw [Dev.writes, if_neg (by omega), Dev.writes, if_neg (by omega), Dev.writes]
  generalize hd2 : ((d.write 0 (noughts 64)).1.write (0 + 1) (noughts 64)).1 = d2 at *
  have hsl : (supSec 1 (logText 0 0)).length = 64 := supSec_length (by omega)
  obtain ⟨c1, c2, c3, c4, c5⟩ := b2.writes2 b3 (i := 0 + 0) (by omega) (by omega) hsl
  obtain ⟨f1, f2, f3, f4⟩ := c2.flush2 c3
  have hs : supWrite ⟨0, 0, []⟩ d2 0 0 1 (logText 0 0) = (⟨0, 1, logText 0 0⟩, (d2.write (0 + 0) (supSec 1 (logText 0 0))).1.flush.1, 0) := by
    unfold supWrite; rw [if_neg (by omega), if_neg (by omega)]
  generalize hd3 : (d2.write (0 + 0) (supSec 1 (logText 0 0))).1 = d3 at *
  have hm : supMake d 0 (logText 0 0) = (some ⟨0, 1, logText 0 0⟩, d3.flush.1, 0) := by
    unfold supMake
    rw [if_neg (by omega), if_neg (by rw [hf.len]; omega), hw]
    dsimp only
    rw [if_neg (by omega), hs]
    rw [if_neg (by simp)]
  have hrl := ringLoad_length f2.ok (by rw [f2.len]; omega)
  refine ⟨⟨Log.load d3.flush.1, 0, 0, 0, [], false, ⟨0, 1, logText 0 0⟩⟩, d3.flush.1, ?_, f2, ?_, rfl, rfl, rfl, rfl, rfl, ?_, ?_⟩
  · unfold logMake
    rw [if_neg (by rw [hf.len]; omega), hm]
  · refine ⟨f3, ⟨hrl, ⟨Nat.le_refl _, Nat.le_refl _⟩, by dsimp only; omega, by simp, by simp, by dsimp only; omega⟩, rfl, Nat.le_refl _, (endAt_zero _ _).symm, (endAt_zero _ _).symm, by simp, rfl, fun p h0 h1 => by dsimp only at h1; omega, ⟨by dsimp only; omega, by dsimp only; omega⟩, ?_, fun p h0 h1 => by dsimp only at h1; omega⟩
    intro x y hx hy
    rw [f4 0 (by omega) (by omega)] at hx
    rw [f4 1 (by omega) (by omega)] at hy
    have hx := may_rest hx
    have hy := may_rest hy
    rw [show (0 : Int) = 0 + 0 by omega, c4, put_now (b3.sok (by omega) (by omega)) hsl] at hx
    rw [c5 1 (by omega) (by omega), show (1 : Int) = 0 + 1 by omega, b4, put_now (a3.sok (by omega) (by omega)) hz] at hy
    subst hx; subst hy
    exact ⟨by dsimp only; omega, by dsimp only; omega, by dsimp only; omega, fun _ => ⟨rfl, by rw [secTurn_noughts]; dsimp only; omega⟩, fun h => by dsimp only at h; omega⟩
  · intro i h0 h1
    rw [f4 i (by omega) (by omega)]
    show (d3.sec i).now = _
    rw [c5 i (by omega) (by omega), b5 i (by omega) (by omega), a5 i (by omega) (by omega)]
  · intro i h0 h1 x hx
    rw [f4 i h0 h1] at hx ⊢
    rw [may_rest hx]; rfl

/-! ### opened -/
theorem reads_get {d : Dev} (h : Disk d) : ∀ (n : Nat) (i : Int) (k j : Nat), 0 ≤ i → i + n ≤ 1410 → k < n → j < 64 → (d.reads i n).getD (64 * k + j) 0 = (d.sec (i + k)).now.getD j 0 := by
  intro n
  induction n with
  | zero => intro i k j _ _ hk; omega
  | succ n ih =>
    intro i k j h0 h1 hk hj
    have hl := (h.sok (i := i) (by omega) (by omega)).1
    rw [Dev.reads]
    cases k with
    | zero =>
      rw [List.getD_eq_getElem?_getD, List.getElem?_append_left (by omega), Nat.mul_zero, Nat.zero_add, ← List.getD_eq_getElem?_getD]
      simp
    | succ k =>
      rw [List.getD_eq_getElem?_getD, List.getElem?_append_right (by omega), hl, show 64 * (k + 1) + j - 64 = 64 * k + j by omega, ← List.getD_eq_getElem?_getD, ih (i + 1) k j (by omega) (by omega) (by omega) hj]
      rw [show i + 1 + (k : Int) = i + ((k + 1 : Nat) : Int) by omega]
theorem load_get {d : Dev} (h : Disk d) (p : Nat) : (Log.load d).getD (p % 65536) 0 = ((d.sec (ringAt p)).now).getD (p % 64) 0 := by
  have := reads_get h 1024 386 (p / 64 % 1024) (p % 64) (by omega) (by omega) (by omega) (by omega)
  unfold Log.load ringAt
  rw [← this]
  congr 1
  omega
theorem ringGet_eq {ring : List UInt8} : ∀ (l : List UInt8) (at_ : Nat), (∀ i, i < l.length → ring.getD ((at_ + i) % 65536) 0 = l.getD i 0) → ringGet ring at_ l.length = l := by
  intro l
  induction l with
  | nil => intro at_ _; rfl
  | cons c l ih =>
    intro at_ h
    rw [List.length_cons, ringGet]
    congr 1
    · simpa using h 0 (by simp)
    · exact ih (at_ + 1) fun i hi => by
        have := h (i + 1) (by simpa using hi)
        rw [show at_ + 1 + i = at_ + (i + 1) by omega, this]; rfl
theorem recsFrom_stream {ring : List UInt8} {end_ : Nat} : ∀ (rs : List (List UInt8)) (base f : Nat), (∀ r ∈ rs, 1 ≤ r.length ∧ r.length ≤ 60000) → base + (stream rs).length = end_ → (stream rs).length ≤ f →
    ringGet ring base (stream rs).length = stream rs → recsFrom ring end_ f base = some rs := by
  intro rs
  induction rs with
  | nil =>
    intro base f _ he _ _
    exact recsFrom_done (by simp [stream] at he; omega)
  | cons r rs ih =>
    intro base f hr he hf hg
    obtain ⟨hr1, hr2⟩ := hr r (by simp)
    have e : stream (r :: rs) = be 4 r.length ++ (r ++ stream rs) := by simp [stream, recBytes]
    have hl : (stream (r :: rs)).length = 4 + (r.length + (stream rs).length) := by rw [e, List.length_append, List.length_append, be_length]
    have hb4 : (be 4 r.length).length = 4 := be_length _ _
    rw [hl, ringGet_add, ringGet_add, e] at hg
    obtain ⟨g1, g2⟩ := List.append_inj hg (by rw [ringGet_length, hb4])
    obtain ⟨g2, g3⟩ := List.append_inj g2 (by rw [ringGet_length])
    have hlen : recLen ring base end_ = r.length := by
      unfold recLen
      rw [if_pos (by omega), g1, fromBe_be (by have : (256 : Nat) ^ 4 = 4294967296 := by decide
                                               omega)]
    obtain ⟨f', rfl⟩ : ∃ f', f = f' + 1 := ⟨f - 1, by omega⟩
    rw [recsFrom, if_pos (by omega), hlen, if_neg (by omega), ih (base + 4 + r.length) f' (fun x hx => hr x (by simp [hx])) (by omega) (by omega) (by rw [show base + 4 + r.length = base + 4 + r.length from rfl]; exact g3), g2]
    rfl
/-- what is behind a crash can be opened -/
theorem Fallen.opens {d : Dev} {Ok : Nat → List (List UInt8) → Prop} (h : Fallen d Ok) (keep : List Bool) :
    ∃ T sl base rs, Opens (d.crash keep) ⟨sl, T, logText base (endAt base rs rs.length)⟩ base (endAt base rs rs.length) rs ∧ SupIs ((d.crash keep).sec 0).now ((d.crash keep).sec 1).now T sl (logText base (endAt base rs rs.length)) ∧ Ok base rs ∧ (∀ r ∈ rs, 1 ≤ r.length ∧ r.length ≤ 60000) ∧
      (∀ p, base ≤ p → p < endAt base rs rs.length → ((d.crash keep).sec (ringAt p)).now.getD (p % 64) 0 = (stream rs).getD (p - base) 0) := by
  obtain ⟨hd, hok⟩ := h
  obtain ⟨cd, cg, cs⟩ := hd.crash keep
  obtain ⟨T, sl, base, rs, h1, h2, h3, h4, h5, h6⟩ := hok _ _ (cs 0 (by omega) (by omega)).1 (cs 1 (by omega) (by omega)).1
  have hb : ∀ p, base ≤ p → p < endAt base rs rs.length → ((d.crash keep).sec (ringAt p)).now.getD (p % 64) 0 = (stream rs).getD (p - base) 0 := fun p h0 h1 => by
    have := ringAt_range p
    exact h2 p h0 h1 _ (cs _ (by omega) (by omega)).1
  have hle : base ≤ endAt base rs rs.length := by rw [endAt_all]; omega
  refine ⟨T, sl, base, rs, ⟨by rw [cd.len]; omega, h1.opens cd.len, rfl, hle, h4, h5, ?_⟩, h1, h6, h3, hb⟩
  rw [endAt_all] at h4 hb ⊢
  refine recsFrom_stream rs base 65536 h3 rfl (by omega) (ringGet_eq _ _ fun i hi => ?_)
  rw [load_get cd, hb (base + i) (by omega) (by omega), Nat.add_sub_cancel_left]
end Go.Pl
end

section
namespace Go.Pl
open Go Go.Sx

def bRecs (n : Nat) : List (List UInt8) := (List.range n).map fun k => [UInt8.ofNat k]
theorem bRecs_length (n : Nat) : (bRecs n).length = n := by simp [bRecs]
theorem bRecs_succ (n : Nat) : bRecs (n + 1) = bRecs n ++ [[UInt8.ofNat n]] := by simp [bRecs, List.range_succ]
theorem bRecs_take {n m : Nat} (h : m ≤ n) : (bRecs n).take m = bRecs m := by
  unfold bRecs; rw [← List.map_take, List.take_range, Nat.min_eq_left h]
theorem stream_b (n : Nat) : (stream (bRecs n)).length = 5 * n := by
  induction n with
  | zero => rfl
  | succ n ih => rw [bRecs_succ, stream_append, stream_one, List.length_append, ih, recBytes_length]; simp; omega
theorem endAt_b {n m : Nat} (h : m ≤ n) : endAt 0 (bRecs n) m = 5 * m := by unfold endAt; rw [bRecs_take h, stream_b]; omega
def Qa : PQ := fun fo i x => ∀ no : Int, 0 ≤ no → no < 10 → i = 2 + 4 * no → 5 * (x.getD 0 0).toNat ≤ fo
theorem Qa_mono : Mono Qa := fun a b i x h hq no h0 h1 he => Nat.le_trans (hq no h0 h1 he) h
structure HInv (n k : Nat) (now : Int → List UInt8) (fs : List Fr) (l : Log) (d : Dev) : Prop where
  inv : ∃ nf, KInv Qa now fs l d (bRecs n) nf
  few : fs.length ≤ 6
  turn : l.sup.turn ≤ 1 + k
  base : l.base = 0
def HEnd (n : Nat) (d : Dev) : Prop := Disk d ∧ ∃ m, m ≤ n ∧ Fallen d (UpTo 0 (bRecs n) m) ∧ PgOn d (Qa (5 * m))
theorem HInv.end_ {n k : Nat} {now : Int → List UInt8} {fs : List Fr} {l : Log} {d : Dev} (h : HInv n k now fs l d) : HEnd n d := by
  obtain ⟨nf, hk⟩ := h.inv
  have hf := hk.w.few
  rw [bRecs_length] at hf
  have hfo := hk.w.forced
  rw [h.base, endAt_b hf] at hfo
  have hfa := hk.w.fallen
  rw [h.base] at hfa
  exact ⟨hk.w.disk, nf, hf, hfa, by rw [← hfo]; exact hk.pg⟩
theorem HInv.log_end {n k : Nat} {now : Int → List UInt8} {fs : List Fr} {l : Log} {d : Dev} (h : HInv n k now fs l d) : l.end_ = 5 * n := by
  obtain ⟨nf, hk⟩ := h.inv
  rw [hk.w.end_, h.base, bRecs_length, endAt_b (Nat.le_refl _)]
theorem Lost.end_ {n nf : Nat} {d : Dev} (h : Lost Qa 0 (bRecs n) nf d) : HEnd n d := by
  obtain ⟨_, m, _, h2, h3, h4⟩ := h
  rw [bRecs_length] at h2
  rw [endAt_b h2] at h4
  exact ⟨h3.1, m, h2, h3, h4⟩
theorem HInv.append {n k : Nat} {now : Int → List UInt8} {fs : List Fr} {l : Log} {d : Dev} (h : HInv n k now fs l d) (hn : n < 20) :
    ∃ l', l.append [UInt8.ofNat n] = (l', ((5 * (n + 1) : Nat) : Int), 0) ∧ HInv (n + 1) k now fs l' d ∧ 5 * (n + 1) ∈ l'.ends := by
  have he := h.log_end
  have hb := h.base
  obtain ⟨nf, hk⟩ := h.inv
  have hor := hk.w.ok.order
  obtain ⟨a1, a2, a3, a4, a5, a6, a7, a8⟩ := hk.w.append (b := [UInt8.ofNat n]) (by unfold Log.fits; simp only [List.length_cons, List.length_nil]; omega) (by omega)
  simp only [List.length_cons, List.length_nil] at a3 a8
  rw [← bRecs_succ] at a4
  refine ⟨(l.append [UInt8.ofNat n]).1, ?_, ⟨⟨nf, a4, ?_, hk.rest, hk.fr, ?_, ?_, hk.on, hk.nodup⟩, h.few, by rw [a6]; exact h.turn, by rw [a5]; exact hb⟩, by rw [a8]; simp; omega⟩
  · refine Prod.ext rfl (Prod.ext ?_ a1)
    rw [a2, a3, he]
    show ((_ : Nat) : Int) = _
    congr 1
  · rw [a7]; exact hk.pg
  · intro f hf
    rw [a7, a8]
    exact (hk.lsn f hf).imp id fun ⟨e, h1, h2⟩ => ⟨e, by simp [h1], h2⟩
  · intro f hf fo h0 h1
    rw [a7] at h0
    exact hk.q f hf fo h0 h1
theorem HInv.res {n k : Nat} {now now' : Int → List UInt8} {fs fs' : List Fr} {l l' : Log} {d d' : Dev} {nf : Nat} {e : Int} (h : HInv n k now fs l d) (hr : KRes Qa now' l (bRecs n) nf e fs' l' d') (hf : e = 0 → fs'.length ≤ 6) (ht : l'.sup.turn ≤ l.sup.turn + 1) :
    (e = 0 ∧ HInv n (k + 1) now' fs' l' d') ∨ (e = 5 ∧ HEnd n d') := by
  have hb := h.base
  have htu := h.turn
  rcases hr with ⟨r1, m, m0, m1, r2, r3, r4⟩ | ⟨r1, r2⟩
  · exact .inl ⟨r1, ⟨m, r2⟩, hf r1, by omega, by rw [r4]; exact hb⟩
  · rw [hb] at r2
    exact .inr ⟨r1, r2.end_⟩
theorem HInv.put {n k : Nat} {now : Int → List UInt8} {fs : List Fr} {l : Log} {d : Dev} (h : HInv (n + 1) k now fs l d) (hn : n < 20) (hk : k ≤ 100) {no : Int} (h0 : 0 ≤ no) (h1 : no < 10) (he : 5 * (n + 1) ∈ l.ends) :
    ((poolPut fs l d no (pageOf [UInt8.ofNat (n + 1), 9]) ((5 * (n + 1) : Nat) : Int)).1 = 0 ∧ HInv (n + 1) (k + 1) (upd now no (pageOf [UInt8.ofNat (n + 1), 9])) (poolPut fs l d no (pageOf [UInt8.ofNat (n + 1), 9]) ((5 * (n + 1) : Nat) : Int)).2.1 (poolPut fs l d no (pageOf [UInt8.ofNat (n + 1), 9]) ((5 * (n + 1) : Nat) : Int)).2.2.1 (poolPut fs l d no (pageOf [UInt8.ofNat (n + 1), 9]) ((5 * (n + 1) : Nat) : Int)).2.2.2) ∨
    ((poolPut fs l d no (pageOf [UInt8.ofNat (n + 1), 9]) ((5 * (n + 1) : Nat) : Int)).1 = 5 ∧ HEnd (n + 1) (poolPut fs l d no (pageOf [UInt8.ofNat (n + 1), 9]) ((5 * (n + 1) : Nat) : Int)).2.2.2) := by
  have htu := h.turn
  have hm : mayPage no := by unfold mayPage; omega
  have hbl : (pageOf [UInt8.ofNat (n + 1), 9]).length = 256 := pageOf_length (by simp)
  obtain ⟨nf, hi⟩ := h.inv
  obtain ⟨r1, r2⟩ := hi.put Qa_mono (by omega) h.few hm hbl (lsn := ((5 * (n + 1) : Nat) : Int)) (.inr ⟨_, he, rfl⟩) (by
    intro fo _ hfo j hj no' h0' h1' hno
    obtain rfl : j = 0 := by omega
    obtain rfl : no' = no := by omega
    have e : (quarter 0 (pageOf [UInt8.ofNat (n + 1), 9])).getD 0 0 = UInt8.ofNat (n + 1) := rfl
    rw [e, UInt8.toNat_ofNat']
    omega)
  have ht : (poolPut fs l d no (pageOf [UInt8.ofNat (n + 1), 9]) ((5 * (n + 1) : Nat) : Int)).2.2.1.sup.turn ≤ l.sup.turn + 1 := by
    unfold poolPut
    rw [if_neg (by simpa using hm), if_neg (by omega)]
    have h7 := (hi.putAt h.few hm hbl (lsn := ((5 * (n + 1) : Nat) : Int)) (.inr ⟨_, he, rfl⟩) (by
      intro fo _ hfo j hj no' h0' h1' hno
      obtain rfl : j = 0 := by omega
      obtain rfl : no' = no := by omega
      have e : (quarter 0 (pageOf [UInt8.ofNat (n + 1), 9])).getD 0 0 = UInt8.ofNat (n + 1) := rfl
      rw [e, UInt8.toNat_ofNat']
      omega)).2
    have := poolRoom_turn 6 ((putAt fs no (pageOf [UInt8.ofNat (n + 1), 9]) ((5 * (n + 1) : Nat) : Int)).length - 6) (putAt fs no (pageOf [UInt8.ofNat (n + 1), 9]) ((5 * (n + 1) : Nat) : Int)) l d
    unfold room
    dsimp only
    omega
  exact h.res r1 r2 ht
theorem poolFlush_turn (fs : List Fr) (l : Log) (d : Dev) (no : Int) : (poolFlush fs l d no).2.2.1.sup.turn ≤ l.sup.turn + 1 := by
  unfold poolFlush
  split
  · exact Nat.le_succ _
  · split
    · exact Nat.le_succ _
    · exact poolClean_turn ..
theorem HInv.flush {n k : Nat} {now : Int → List UInt8} {fs : List Fr} {l : Log} {d : Dev} (h : HInv n k now fs l d) (hk : k ≤ 100) {no : Int} (h0 : 0 ≤ no) (h1 : no < 10) :
    ((poolFlush fs l d no).1 = 0 ∧ HInv n (k + 1) now (poolFlush fs l d no).2.1 (poolFlush fs l d no).2.2.1 (poolFlush fs l d no).2.2.2) ∨ ((poolFlush fs l d no).1 = 5 ∧ HEnd n (poolFlush fs l d no).2.2.2) := by
  have htu := h.turn
  obtain ⟨nf, hi⟩ := h.inv
  obtain ⟨r1, r2⟩ := hi.flush Qa_mono (by omega) (no := no) (by unfold mayPage; omega)
  exact h.res r1 (fun e => by rw [r2 e]; exact h.few) (poolFlush_turn ..)
/-- the beginning: a log is made, the fuse is lit -/
theorem hinv_zero {f : Int} (hf : f ≤ 9223372036854775807) : ∃ l d, logMake (Dev.new 1410) = (some l, d, 0) ∧ HInv 0 0 (fun _ => noughts 256) [] l (d.light f) ∧ l.sup.turn = 1 ∧ l.end_ = 0 := by
  obtain ⟨l, d, h1, h2, h3, h4, h5, h6, h7, h8, h9, h10⟩ := logMake_free new_free disk_new
  have hw : WInv l (d.light f) [] 0 := h3.same (h3.disk.light hf) (Same.refl _ _ _) (Same.refl _ _ _)
  have hnow : ∀ i, 2 ≤ i → i < 1410 → (d.sec i).now = noughts 64 := fun i h0 h1 => by rw [h9 i h0 h1, new_sec (by omega) h1]; rfl
  refine ⟨l, d, h1, ⟨⟨0, hw, ?_, ?_, by simp, by simp, by simp, ?_, by simp [nos]⟩, by simp, by omega, h4⟩, h8, h6⟩
  · intro i h0 h1 x hx no _ _ _
    have := h10 i (by omega) (by omega) x hx
    rw [this, hnow i h0 (by omega)]
    have e : (noughts 64).getD 0 0 = 0 := rfl
    rw [e]; exact Nat.zero_le _
  · intro i h0 h1 x hx
    exact h10 i (by omega) (by omega) x hx
  · intro no hn _
    unfold mayPage at hn
    show pageNow d no = noughts 256
    unfold pageNow
    simp only [Dev.reads]
    rw [hnow _ (by omega) (by omega), hnow _ (by omega) (by omega), hnow _ (by omega) (by omega), hnow _ (by omega) (by omega)]
    rw [List.append_nil, ← noughts_add, ← noughts_add, ← noughts_add]
/-- behind a crash -/
theorem HEnd.opens {n : Nat} {d : Dev} (h : HEnd n d) (keep : List Bool) : ∃ s base end_ rs, Opens (d.crash keep) s base end_ rs ∧ rs.length ≤ n ∧
    ∀ no : Int, 0 ≤ no → no < 10 → ∃ b c, readPage (d.crash keep) no = (b, 0) ∧ b.length = 256 ∧ b[0]? = some c ∧ c.toNat ≤ rs.length := by
  obtain ⟨hd, m, hm, hf, hp⟩ := h
  obtain ⟨T, sl, base, rs, ho, _, ⟨rfl, m', h1, h2, rfl⟩, _, _⟩ := hf.opens keep
  rw [bRecs_length] at h2
  obtain ⟨cd, cg, cs⟩ := hd.crash keep
  have hl : ((bRecs n).take m').length = m' := by rw [bRecs_take h2, bRecs_length]
  refine ⟨_, _, _, _, ho, by rw [hl]; exact h2, fun no h0 h9 => ?_⟩
  have hsok := cd.sok (i := 2 + 4 * no) (by omega) (by omega)
  have hne : ((d.crash keep).sec (2 + 4 * no)).now ≠ [] := by intro he; have := hsok.1; rw [he] at this; cases this
  obtain ⟨c, r, hcr⟩ : ∃ c r, ((d.crash keep).sec (2 + 4 * no)).now = c :: r := by
    cases hq : ((d.crash keep).sec (2 + 4 * no)).now with
    | nil => exact absurd hq hne
    | cons c r => exact ⟨c, r, rfl⟩
  have hq := hp (2 + 4 * no) (by omega) (by omega) _ (cs _ (by omega) (by omega)).1 no h0 h9 rfl
  rw [hcr] at hq
  have hrd : readPage (d.crash keep) no = ((d.crash keep).reads (2 + 4 * no) 4, 0) := by
    unfold readPage
    rw [if_neg (by unfold mayPage; omega), if_pos (cd.in (by omega) (by omega))]
  have hlen := readPage_length cd.ok (no := no) (by rw [hrd])
  rw [hrd] at hlen
  refine ⟨_, c, hrd, hlen, ?_, by rw [hl]; simp only [List.getD_cons_zero] at hq; omega⟩
  rw [Dev.reads, hcr]; rfl
theorem mod10 (y : Int) (h0 : -9223372036854775808 ≤ y) (h1 : y ≤ 9223372036854775807) : ∃ k : Nat, k < 10 ∧ (IntKind.i64.wrap (y.tmod 10 + 10)).tmod 10 = k := by
  have hm : y.tmod 10 = y % 10 ∨ y.tmod 10 = y % 10 - 10 := by
    rw [Int.tmod_eq_emod]
    split
    · left; omega
    · right; omega
  have e : IntKind.i64.wrap (y.tmod 10 + 10) = y.tmod 10 + 10 := wrap_i64 (by omega) (by omega)
  rw [e]
  refine ⟨((y.tmod 10 + 10).tmod 10).toNat, ?_, ?_⟩ <;> rw [Int.tmod_eq_emod_of_nonneg (by omega)] <;> omega
end Go.Pl
end
