/- A device that does not die, plainly: what is written is there, and what is not stays. No program in sight. -/
import Derived.Test.YtoalhcodigpgkaaPdE
namespace Go.Pl
open Go Go.Sx

/-- a device of full length that does not die -/
structure Free (d : Dev) : Prop where
  ok : d.ok
  fuse : d.fuse = none
  dead : d.dead = false
  len : d.secs.length = 1410
theorem Free.gone {d : Dev} (h : Free d) : d.gone = false := by unfold Dev.gone; rw [h.dead, h.fuse]; rfl
theorem Free.in {d : Dev} (h : Free d) {i : Int} (h0 : 0 ≤ i) (h1 : i < 1410) : d.in i := by unfold Dev.in; rw [h.len]; omega
theorem Free.burn {d : Dev} (h : Free d) : d.burn = d := by
  unfold Dev.burn; rw [h.fuse]
  have := h.fuse
  obtain ⟨a, b, c⟩ := d
  dsimp only at this; subst this; rfl
theorem Free.write {d : Dev} (h : Free d) {i : Int} (h0 : 0 ≤ i) (h1 : i < 1410) {b : List UInt8} (hb : b.length ≤ 64) :
    d.write i b = ({ d with secs := d.secs.set i.toNat ((d.sec i).put b) }, 0) := by
  unfold Dev.write
  rw [if_neg (by rw [h.gone]; decide), if_neg (by simpa using h.in h0 h1), if_neg (by omega), h.burn]
theorem Free.write_free {d : Dev} (h : Free d) (i : Int) (b : List UInt8) : Free (d.write i b).1 := by
  refine ⟨Dev.write_ok h.ok i b, ?_, ?_, by rw [Dev.write_secs]; exact h.len⟩
  · unfold Dev.write; split
    · exact h.fuse
    · split
      · exact h.fuse
      · split
        · exact h.fuse
        · show d.burn.fuse = none; rw [h.burn]; exact h.fuse
  · unfold Dev.write; split
    · exact h.dead
    · split
      · exact h.dead
      · split
        · exact h.dead
        · exact h.dead
theorem Free.write_err {d : Dev} (h : Free d) {i : Int} (h0 : 0 ≤ i) (h1 : i < 1410) {b : List UInt8} (hb : b.length ≤ 64) : (d.write i b).2 = 0 := by rw [h.write h0 h1 hb]
theorem Free.write_same {d : Dev} (h : Free d) {i : Int} (h0 : 0 ≤ i) (h1 : i < 1410) {b : List UInt8} (hb : b.length ≤ 64) : (d.write i b).1.sec i = (d.sec i).put b := by
  rw [h.write h0 h1 hb]
  unfold Dev.sec
  dsimp only
  rw [List.getD_eq_getElem?_getD, List.getElem?_set_self (by rw [h.len]; omega)]
  rfl
theorem Free.write_other {d : Dev} (h : Free d) {i k : Int} (h0 : 0 ≤ i) (h1 : i < 1410) {b : List UInt8} (hb : b.length ≤ 64) (hk : 0 ≤ k) (hne : k ≠ i) : (d.write i b).1.sec k = d.sec k := by
  rw [h.write h0 h1 hb]
  unfold Dev.sec
  dsimp only
  rw [List.getD_eq_getElem?_getD, List.getElem?_set_ne (by omega), ← List.getD_eq_getElem?_getD]
theorem Free.flush {d : Dev} (h : Free d) : d.flush = ({ d with secs := d.secs.map Sec.rest }, 0) := by
  unfold Dev.flush; rw [if_neg (by rw [h.gone]; decide), h.burn]
theorem Free.flush_free {d : Dev} (h : Free d) : Free d.flush.1 := by
  refine ⟨Dev.flush_ok h.ok, ?_, ?_, by rw [Dev.flush_secs]; exact h.len⟩
  · rw [h.flush]; exact h.fuse
  · rw [h.flush]; exact h.dead
theorem Free.flush_err {d : Dev} (h : Free d) : d.flush.2 = 0 := by rw [h.flush]
theorem Free.flush_sec {d : Dev} (h : Free d) {k : Int} (h0 : 0 ≤ k) (h1 : k < 1410) : d.flush.1.sec k = (d.sec k).rest := by
  rw [h.flush]
  unfold Dev.sec
  dsimp only
  rw [List.getD_eq_getElem?_getD, List.getElem?_map, List.getD_eq_getElem?_getD, List.getElem?_eq_getElem (by rw [h.len]; omega)]
  rfl
theorem crash_sec {d : Dev} {k : Int} (h0 : 0 ≤ k) (h1 : k < d.secs.length) : ((d.crash []).sec k).now = (d.sec k).lasts ∧ ((d.crash []).sec k).lasts = (d.sec k).lasts := by
  have key : ∀ (l : List Sec) (j i : Nat), i < l.length → ((crashSecs [] l j).getD i sec0).now = (l.getD i sec0).lasts ∧ ((crashSecs [] l j).getD i sec0).lasts = (l.getD i sec0).lasts := by
    intro l
    induction l with
    | nil => intro j i hi; cases hi
    | cons x l ih =>
      intro j i hi
      unfold crashSecs
      split
      · cases i with
        | zero => dsimp only; simp
        | succ i => simpa using ih (j + 1) i (by simpa using hi)
      · cases i with
        | zero => simp
        | succ i => simpa using ih j i (by simpa using hi)
  exact key d.secs 0 k.toNat (by omega)
theorem crash_free {d : Dev} (h : Free d) (keep : List Bool) : Free (d.crash keep) :=
  ⟨Dev.crash_ok h.ok keep, rfl, rfl, by unfold Dev.crash; rw [crash_length]; exact h.len⟩

/-- some sectors are as they were -/
def Keeps (a z : Int) (d d' : Dev) : Prop := ∀ i, a ≤ i → i < z → (d'.sec i).now = (d.sec i).now
theorem Keeps.refl (a z : Int) (d : Dev) : Keeps a z d d := fun _ _ _ => rfl
theorem Keeps.trans {a z : Int} {d d' d'' : Dev} (h : Keeps a z d d') (h' : Keeps a z d' d'') : Keeps a z d d'' := fun i h0 h1 => (h' i h0 h1).trans (h i h0 h1)
theorem Keeps.flush {a z : Int} {d : Dev} (h : Free d) (ha : 0 ≤ a) (hz : z ≤ 1410) : Keeps a z d d.flush.1 := fun i h0 h1 => by rw [h.flush_sec (by omega) (by omega)]; rfl
theorem Keeps.write {a z : Int} {d : Dev} (h : Free d) {i : Int} (h0 : 0 ≤ i) (h1 : i < 1410) {b : List UInt8} (hb : b.length ≤ 64) (ha : 0 ≤ a) (ho : i < a ∨ z ≤ i) : Keeps a z d (d.write i b).1 := fun k h2 h3 => by
  rw [h.write_other h0 h1 hb (by omega) (by omega)]
theorem ringSec_length {ring : List UInt8} (hr : ring.length = 65536) {k : Nat} (hk : k < 1024) : (ringSec ring k).length = 64 := by
  unfold ringSec; rw [List.length_drop, List.length_take, hr]; omega
theorem wrSecs_free {ring : List UInt8} (hr : ring.length = 65536) : ∀ (n : Nat) {d : Dev} (k : Nat), Free d → (wrSecs ring d k n).2 = 0 ∧ Free (wrSecs ring d k n).1 ∧ Keeps 0 386 d (wrSecs ring d k n).1 := by
  intro n
  induction n with
  | zero => intro d k h; exact ⟨rfl, h, Keeps.refl _ _ _⟩
  | succ n ih =>
    intro d k h
    have hs := ringSec_length hr (k := k % 1024) (by omega)
    have he := h.write_err (i := 386 + (k % 1024 : Nat)) (b := ringSec ring (k % 1024)) (by omega) (by omega) (by omega)
    rw [wrSecs, if_neg (by omega)]
    obtain ⟨h1, h2, h3⟩ := ih (k + 1) (h.write_free (386 + (k % 1024 : Nat)) (ringSec ring (k % 1024)))
    exact ⟨h1, h2, (Keeps.write h (by omega) (by omega) (by omega) (by omega) (.inr (by omega))).trans h3⟩
theorem supWrite_free {s : Sup} {d : Dev} (h : Free d) {slot : Int} (hsl : 0 ≤ slot ∧ slot ≤ 1) {n : Nat} {b : List UInt8} (hb : b.length ≤ 40) :
    (supWrite s d 0 slot n b).2.2 = 0 ∧ (supWrite s d 0 slot n b).1 = ⟨slot, n, b⟩ ∧ Free (supWrite s d 0 slot n b).2.1 ∧ Keeps 2 1410 d (supWrite s d 0 slot n b).2.1 := by
  have hs := supSec_length (n := n) (b := b) (by omega)
  have he := h.write_err (i := 0 + slot) (b := supSec n b) (by omega) (by omega) (by omega)
  have hw := h.write_free (0 + slot) (supSec n b)
  have hf := hw.flush_err
  unfold supWrite
  rw [if_neg (by omega), if_neg (by omega)]
  exact ⟨rfl, rfl, hw.flush_free, (Keeps.write h (by omega) (by omega) (by omega) (by omega) (.inl (by omega))).trans (Keeps.flush hw (by omega) (by omega))⟩
theorem Log.write_free {l : Log} {d : Dev} (h : Free d) (hl : l.ok) (hs : 0 ≤ l.sup.slot ∧ l.sup.slot ≤ 1) {to : Nat} (hto : to ≤ 1152921504606846976) :
    (l.write d to).2.2 = 0 ∧ (l.write d to).1 = ⟨1 - l.sup.slot, l.sup.turn + 1, logText l.base to⟩ ∧ Free (l.write d to).2.1 ∧ Keeps 2 386 d (l.write d to).2.1 := by
  obtain ⟨h1, h2, h3⟩ := wrSecs_free hl.ring (secsTo (l.forced / 64) to) (l.forced / 64) h
  have hf := h2.flush_err
  have ht := logText_length (a := l.base) (b := to) (by have := hl.order; have := hl.most; omega) hto
  unfold Log.write
  rw [if_neg (by omega), if_neg (by omega)]
  unfold Sup.save
  rw [if_neg (by omega)]
  obtain ⟨k1, k2, k3, k4⟩ := supWrite_free (s := l.sup) (d := (wrSecs l.ring d (l.forced / 64) (secsTo (l.forced / 64) to)).1.flush.1) h2.flush_free (slot := 1 - l.sup.slot) (by omega) (n := l.sup.turn + 1) (b := logText l.base to) (by omega)
  refine ⟨k1, k2, k3, fun i h0 h4 => ?_⟩
  rw [k4 i h0 (by omega), Keeps.flush h2 (a := 0) (z := 386) (by omega) (by omega) i (by omega) h4, h3 i (by omega) h4]
/-- forced, on a device that does not die -/
theorem Log.force_free {l : Log} {d : Dev} (h : Free d) (hl : l.ok) (hs : 0 ≤ l.sup.slot ∧ l.sup.slot ≤ 1) (hb : l.bad = false) (to : Int) :
    (l.force d to).2.2 = 0 ∧ (l.force d to).1.forced = l.far to ∧ (l.force d to).1.base = l.base ∧ (l.force d to).1.end_ = l.end_ ∧ (l.force d to).1.bad = false ∧ (0 ≤ (l.force d to).1.sup.slot ∧ (l.force d to).1.sup.slot ≤ 1) ∧ Free (l.force d to).2.1 ∧ Keeps 2 386 d (l.force d to).2.1 := by
  have hr := Log.farAt_range hl (lead_le to l.ends)
  rw [← Log.far_eq] at hr
  obtain ⟨h1, h2, h3, h4⟩ := Log.write_free (to := l.far to) h hl hs (by have := hl.most; omega)
  unfold Log.force
  rw [if_neg (by rw [hb]; decide)]
  split
  · rename_i hf; exact ⟨rfl, hf.symm, rfl, rfl, hb, hs, h, Keeps.refl _ _ _⟩
  · rw [if_neg (by omega)]
    exact ⟨rfl, rfl, rfl, rfl, hb, by dsimp only; rw [h2]; dsimp only; omega, h3, h4⟩

/-! ### pages -/
/-- a page as it is, as it lasts -/
def pageNow (d : Dev) (no : Int) : List UInt8 := d.reads (2 + 4 * no) 4
theorem readPage_free {d : Dev} (h : Free d) {no : Int} (hn : mayPage no) : readPage d no = (pageNow d no, 0) := by
  unfold readPage; unfold mayPage at hn
  rw [if_neg (by unfold mayPage; omega), if_pos (h.in (by omega) (by omega))]; rfl
theorem reads_same {d d' : Dev} : ∀ (n : Nat) (i : Int), (∀ k, i ≤ k → k < i + n → (d'.sec k).now = (d.sec k).now) → d'.reads i n = d.reads i n := by
  intro n
  induction n with
  | zero => intro i _; rfl
  | succ n ih => intro i h; rw [Dev.reads, Dev.reads, h i (by omega) (by omega), ih (i + 1) fun k h0 h1 => h k (by omega) (by omega)]
theorem pageNow_keeps {d d' : Dev} (h : Keeps 2 386 d d') {no : Int} (hn : mayPage no) : pageNow d' no = pageNow d no := by
  unfold mayPage at hn
  exact reads_same 4 _ fun k h0 h1 => h k (by omega) (by omega)
theorem put_full {s : Sec} (h : s.ok) {b : List UInt8} (hb : b.length = 64) : (s.put b).now = b := by
  unfold Sec.put; dsimp only; rw [List.drop_eq_nil_of_le (by rw [h.1]; omega), List.append_nil]
theorem writes_free : ∀ (l : List (List UInt8)) {d : Dev} (i : Int), Free d → 0 ≤ i → i + l.length ≤ 1410 → (∀ b ∈ l, b.length = 64) →
    (d.writes i l).2 = 0 ∧ Free (d.writes i l).1 ∧ (∀ k, 0 ≤ k → k < i ∨ i + l.length ≤ k → (d.writes i l).1.sec k = d.sec k) ∧ (d.writes i l).1.reads i l.length = l.flatten := by
  intro l
  induction l with
  | nil => intro d i h _ _ _; exact ⟨rfl, h, fun _ _ _ => rfl, rfl⟩
  | cons b l ih =>
    intro d i h h0 h1 hb
    simp only [List.length_cons] at h1 ⊢
    have hbl := hb b (by simp)
    have he := h.write_err (i := i) (b := b) h0 (by omega) (by omega)
    have hw := h.write_free i b
    obtain ⟨k1, k2, k3, k4⟩ := ih (i + 1) hw (by omega) (by omega) (fun c hc => hb c (by simp [hc]))
    rw [Dev.writes, if_neg (by omega)]
    refine ⟨k1, k2, fun k hk hor => ?_, ?_⟩
    · rw [k3 k hk (by omega), h.write_other h0 (by omega) (by omega) hk (by omega)]
    · rw [Dev.reads, k4, k3 i h0 (.inl (by omega)), h.write_same h0 (by omega) (by omega), put_full (Dev.sec_ok h.ok (h.in h0 (by omega))) hbl]
      rfl
theorem quarters_flat {b : List UInt8} (h : b.length = 256) : (quarters b).flatten = b := by
  unfold quarters
  simp only [List.flatten_cons, List.flatten_nil, List.append_nil]
  have e4 : (b.drop 192).take 64 = b.drop 192 := List.take_of_length_le (by rw [List.length_drop]; omega)
  rw [e4]
  have h3 : (b.drop 128).take 64 ++ b.drop 192 = b.drop 128 := by rw [show b.drop 192 = (b.drop 128).drop 64 by rw [List.drop_drop], List.take_append_drop]
  rw [h3]
  have h2 : (b.drop 64).take 64 ++ b.drop 128 = b.drop 64 := by rw [show b.drop 128 = (b.drop 64).drop 64 by rw [List.drop_drop], List.take_append_drop]
  rw [h2, List.take_append_drop]
theorem quarters_len {b : List UInt8} (h : b.length = 256) : ∀ c ∈ quarters b, c.length = 64 := by
  intro c hc
  unfold quarters at hc
  simp only [List.mem_cons, List.not_mem_nil, or_false] at hc
  rcases hc with rfl | rfl | rfl | rfl <;> simp only [List.length_take, List.length_drop] <;> omega
theorem writePage_free {d : Dev} (h : Free d) {no : Int} (hn : mayPage no) {b : List UInt8} (hb : b.length = 256) :
    (writePage d no b).2 = 0 ∧ Free (writePage d no b).1 ∧ pageNow (writePage d no b).1 no = b ∧ (∀ k, 0 ≤ k → k < 2 + 4 * no ∨ 6 + 4 * no ≤ k → (writePage d no b).1.sec k = d.sec k) := by
  have hn' := hn
  unfold mayPage at hn'
  unfold writePage
  rw [if_neg (by simpa using hn), if_neg (by omega)]
  obtain ⟨k1, k2, k3, k4⟩ := writes_free (quarters b) (2 + 4 * no) h (by omega) (by simp [quarters]; omega) (quarters_len hb)
  refine ⟨k1, k2, ?_, fun k hk hor => k3 k hk ?_⟩
  · unfold pageNow; rw [show (4 : Nat) = (quarters b).length from rfl, k4, quarters_flat hb]
  · simp only [quarters, List.length_cons, List.length_nil]; omega
theorem writePage_other {d : Dev} (h : Free d) {no : Int} (hn : mayPage no) {b : List UInt8} (hb : b.length = 256) {k : Int} (hk : mayPage k) (hne : k ≠ no) : pageNow (writePage d no b).1 k = pageNow d k := by
  obtain ⟨_, _, _, h4⟩ := writePage_free h hn hb
  unfold mayPage at hk hn
  exact reads_same 4 _ fun i h0 h1 => by rw [h4 i (by omega) (by omega)]
/-- behind a flush all pages last -/
theorem crash_flush {d : Dev} (h : Free d) {no : Int} (hn : mayPage no) : pageNow (d.flush.1.crash []) no = pageNow d no := by
  unfold mayPage at hn
  refine reads_same 4 _ fun i h0 h1 => ?_
  rw [(crash_sec (d := d.flush.1) (by omega) (by rw [h.flush_free.len]; omega)).1, h.flush_sec (by omega) (by omega)]
  rfl

/-! ### made -/
theorem new_free : Free (Dev.new 1410) := ⟨Dev.new_ok 1410, rfl, rfl, by unfold Dev.new; rw [List.length_replicate]; rfl⟩
theorem new_sec {k : Int} (h0 : 0 ≤ k) (h1 : k < 1410) : (Dev.new 1410).sec k = sec0 := by
  unfold Dev.sec Dev.new
  dsimp only
  rw [List.getD_eq_getElem?_getD, List.getElem?_replicate, if_pos (by omega)]
  rfl
theorem logMake_new : ∃ l d, logMake (Dev.new 1410) = (some l, d, 0) ∧ Free d ∧ l.ok ∧ l.base = 0 ∧ l.forced = 0 ∧ l.end_ = 0 ∧ l.ends = [] ∧ l.bad = false ∧ l.sup.turn = 1 ∧ (0 ≤ l.sup.slot ∧ l.sup.slot ≤ 1) ∧ ∀ no, mayPage no → pageNow d no = noughts 256 := by
  have hz : (noughts 64).length = 64 := noughts_length 64
  obtain ⟨k1, k2, k3, k4⟩ := writes_free [noughts 64, noughts 64] 0 new_free (by omega) (by decide) (by intro b hb; simp only [List.mem_cons, List.not_mem_nil, or_false, or_self] at hb; subst hb; exact hz)
  have ht := logText_length (a := 0) (b := 0) (by omega) (by omega)
  obtain ⟨j1, j2, j3, j4⟩ := supWrite_free (s := ⟨0, 0, []⟩) k2 (slot := 0) (by omega) (n := 1) (b := logText 0 0) (by omega)
  have hm : supMake (Dev.new 1410) 0 (logText 0 0) = (some (supWrite ⟨0, 0, []⟩ ((Dev.new 1410).writes 0 [noughts 64, noughts 64]).1 0 0 1 (logText 0 0)).1, (supWrite ⟨0, 0, []⟩ ((Dev.new 1410).writes 0 [noughts 64, noughts 64]).1 0 0 1 (logText 0 0)).2.1, 0) := by
    unfold supMake
    rw [if_neg (by omega), if_neg (by rw [new_free.len]; decide), if_neg (by omega), if_neg (by omega)]
  refine ⟨⟨Log.load (supWrite ⟨0, 0, []⟩ ((Dev.new 1410).writes 0 [noughts 64, noughts 64]).1 0 0 1 (logText 0 0)).2.1, 0, 0, 0, [], false, (supWrite ⟨0, 0, []⟩ ((Dev.new 1410).writes 0 [noughts 64, noughts 64]).1 0 0 1 (logText 0 0)).1⟩, _, ?_, j3, ?_, rfl, rfl, rfl, rfl, rfl, by dsimp only; rw [j2], by dsimp only; rw [j2]; dsimp only; omega, ?_⟩
  · unfold logMake
    rw [if_neg (by rw [new_free.len]; decide), hm]
  · exact ⟨ringLoad_length j3.ok (by rw [j3.len]; omega), ⟨Nat.le_refl _, Nat.le_refl _⟩, by dsimp only; omega, by simp, by simp, by dsimp only; omega⟩
  · intro no hn
    unfold mayPage at hn
    have e : ∀ k, 2 + 4 * no ≤ k → k < 2 + 4 * no + 4 → ((supWrite ⟨0, 0, []⟩ ((Dev.new 1410).writes 0 [noughts 64, noughts 64]).1 0 0 1 (logText 0 0)).2.1.sec k).now = noughts 64 := by
      intro k h0 h1
      rw [j4 k (by omega) (by omega), k3 k (by omega) (.inr (by simp only [List.length_cons, List.length_nil]; omega)), new_sec (by omega) (by omega)]
      rfl
    unfold pageNow
    simp only [Dev.reads]
    rw [e _ (by omega) (by omega), e _ (by omega) (by omega), e _ (by omega) (by omega), e _ (by omega) (by omega)]
    rw [List.append_nil, ← noughts_add, ← noughts_add, ← noughts_add]
end Go.Pl
