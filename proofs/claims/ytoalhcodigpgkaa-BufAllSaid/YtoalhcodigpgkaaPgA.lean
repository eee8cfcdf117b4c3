/- The laws' first page, plainly: one record, one page put, told, flushed. No program in sight. -/
import Derived.Test.YtoalhcodigpgkaaPfA
namespace Go.Pl
open Go Go.Sx

theorem room_small {n : Nat} {fs : List Fr} (h : fs.length ≤ n) (l : Log) (d : Dev) : room n fs l d = (fs, l, d, 0) := by
  unfold room; rw [show fs.length - n = 0 by omega]; rfl
theorem pageOf_length {b : List UInt8} (h : b.length ≤ 256) : (pageOf b).length = 256 := by unfold pageOf; rw [List.length_append, noughts_length]; omega
/-- what append does, where it may -/
theorem Log.append_fits {l : Log} {b : List UInt8} (hb : l.bad = false) (h1 : 1 ≤ b.length) (h2 : b.length ≤ 60000) (hf : l.end_ - l.base + b.length + 4 ≤ 65536) (ho : l.base ≤ l.end_) :
    ∃ l', l.append b = (l', ((l.end_ + 4 + b.length : Nat) : Int), 0) ∧ l'.end_ = l.end_ + 4 + b.length ∧ l'.ends = l.ends ++ [l.end_ + 4 + b.length] ∧ l'.base = l.base ∧ l'.forced = l.forced ∧ l'.bad = false ∧ l'.sup = l.sup := by
  refine ⟨{ (l.put (be 4 b.length)).put b with ends := l.ends ++ [((l.put (be 4 b.length)).put b).end_] }, ?_, ?_, ?_, rfl, rfl, hb, rfl⟩
  · unfold Log.append
    rw [if_neg (by rw [hb]; decide), if_neg (by omega), if_neg (by unfold Log.fits; omega)]
    simp only [Log.put, be_length]
  · simp only [Log.put, be_length]
  · simp only [Log.put, be_length]

def chA : UInt8 := 97
def frA (x : List UInt8) (no lsn : Int) : Fr := ⟨no, pageOf x, true, lsn⟩
/-- all that is told of one page -/
theorem begun_facts : ∃ l0 d1 l1 l2 d2, logMake (Dev.new 1410) = (some l0, d1, 0) ∧ l0.append [120] = (l1, 5, 0) ∧
    poolPut [] l1 d1 3 (pageOf [97]) 5 = (0, [frA [97] 3 5], l1, d1) ∧ poolPage [frA [97] 3 5] l1 d1 3 = (pageOf [97], 0, [frA [97] 3 5], l1, d1) ∧ readPage d1 3 = (noughts 256, 0) ∧
    poolFlush [frA [97] 3 5] l1 d1 3 = (0, [(frA [97] 3 5).clean], l2, d2) ∧ readPage (d2.crash []) 3 = (pageOf [97], 0) ∧ l2.forced = 5 ∧
    l0.end_ = 0 ∧ l1.sup.turn = 1 ∧ l2.sup.turn ≤ 2 ∧ (∀ x, poolPut [(frA [97] 3 5).clean] l2 d2 96 x 0 = (3, [(frA [97] 3 5).clean], l2, d2)) := by
  obtain ⟨l0, d1, hm, hf, hok, hb, hfo, he, hes, hba, ht, hsl, hpg⟩ := logMake_new
  obtain ⟨l1, ha, ha1, ha2, ha3, ha4, ha5, ha6⟩ := Log.append_fits (l := l0) (b := [120]) hba (by decide) (by decide) (by rw [he, hb]; decide) (by omega)
  rw [he] at ha ha1 ha2
  have hm3 : mayPage 3 := by unfold mayPage; decide
  have hl256 : (pageOf [97]).length = 256 := pageOf_length (by decide)
  have hok1 : l1.ok := by
    have := Log.append_ok hok (by rw [he]; decide) [120]
    rw [ha] at this; exact this
  have hsl1 : 0 ≤ l1.sup.slot ∧ l1.sup.slot ≤ 1 := by rw [ha6]; exact hsl
  have hfar : l1.far 5 = 5 := by
    unfold Log.far
    rw [ha2, hes]
    rfl
  have hpick : picks [frA [97] 3 5] [0] = [frA [97] 3 5] := rfl
  have htop : topLsn [frA [97] 3 5] = 5 := rfl
  obtain ⟨f1, f2, f3, f4, f5, f6, f7, f8⟩ := Log.force_free hf hok1 hsl1 ha5 5
  obtain ⟨w1, w2, w3, w4⟩ := writePage_free (d := (l1.force d1 5).2.1) f7 hm3 hl256
  have hwr : wrFrames (l1.force d1 5).2.1 [frA [97] 3 5] = ((writePage (l1.force d1 5).2.1 3 (pageOf [97])).1, 0) := by
    show (if (writePage (l1.force d1 5).2.1 3 (pageOf [97])).2 ≠ 0 then _ else _) = _
    rw [if_neg (by omega)]
    rfl
  have hfl := w2.flush_err
  have hcl : poolClean [frA [97] 3 5] [0] l1 d1 = ([(frA [97] 3 5).clean], (l1.force d1 5).1, (writePage (l1.force d1 5).2.1 3 (pageOf [97])).1.flush.1, 0) := by
    unfold poolClean
    rw [if_neg (by decide), hpick, htop, if_neg (by omega), hwr, if_neg (by simp), if_neg (by simpa using hfl)]
    have e : cleaned [frA [97] 3 5] [0] = [(frA [97] 3 5).clean] := rfl
    rw [e]
  have ha' : l0.append [120] = (l1, 5, 0) := by rw [ha]; rfl
  refine ⟨l0, d1, l1, (l1.force d1 5).1, (writePage (l1.force d1 5).2.1 3 (pageOf [97])).1.flush.1, hm, ha', ?_, ?_, ?_, ?_, ?_, ?_, he, by rw [ha6]; exact ht, ?_, ?_⟩
  · unfold poolPut
    rw [if_neg (by simpa using hm3), if_neg (by omega)]
    have e : putAt [] 3 (pageOf [97]) 5 = [frA [97] 3 5] := by unfold putAt; rw [if_pos (by decide)]; rfl
    rw [e, room_small (by decide)]
  · unfold poolPage
    rw [if_neg (by simpa using hm3), if_neg (by show ¬ ((if isNo 3 (frA [97] 3 5) = true then ((0 : Nat) : Int) else -1) < 0); rw [if_pos (by rfl)]; decide)]
    rfl
  · rw [readPage_free hf hm3, hpg 3 hm3]
  · unfold poolFlush
    have e : firstAt (isNoDirty 3) 0 [frA [97] 3 5] = 0 := rfl
    rw [if_neg (by simpa using hm3), e, if_neg (by decide)]
    rw [show (0 : Int).toNat = 0 from rfl, hcl]
  · rw [readPage_free (crash_free w2.flush_free []) hm3, crash_flush w2 hm3, w3]
  · rw [f2, hfar]
  · have := Log.force_turn l1 d1 5
    rw [ha6, ht] at this
    exact this
  · intro x
    unfold poolPut
    rw [if_pos (by unfold mayPage; decide)]
theorem dirty_one (x : List UInt8) (no lsn : Int) : poolDirty [frA x no lsn] = [no] := by simp [poolDirty, dirties, frA]
theorem dirty_none (x : List UInt8) (no lsn : Int) : poolDirty [(frA x no lsn).clean] = [] := by simp [poolDirty, dirties, frA, Fr.clean]
theorem own_facts (x : UInt8) : ∃ l0 d1, logMake (Dev.new 1410) = (some l0, d1, 0) ∧ l0.sup.turn = 1 ∧ poolPut [] l0 d1 5 (pageOf [x]) 0 = (0, [frA [x] 5 0], l0, d1) ∧
    poolPage [frA [x] 5 0] l0 d1 5 = (pageOf [x], 0, [frA [x] 5 0], l0, d1) ∧ (∀ b : List UInt8, b.length = 255 → poolPut [frA [x] 5 0] l0 d1 5 b 0 = (1, [frA [x] 5 0], l0, d1)) := by
  obtain ⟨l0, d1, hm, hf, hok, hb, hfo, he, hes, hba, ht, hsl, hpg⟩ := logMake_new
  have hm5 : mayPage 5 := by unfold mayPage; decide
  have hl256 : (pageOf [x]).length = 256 := pageOf_length (by simp)
  refine ⟨l0, d1, hm, ht, ?_, ?_, ?_⟩
  · unfold poolPut
    rw [if_neg (by simpa using hm5), if_neg (by omega)]
    have e : putAt [] 5 (pageOf [x]) 0 = [frA [x] 5 0] := by unfold putAt; rw [if_pos (by decide)]; rfl
    rw [e, room_small (by simp)]
  · unfold poolPage
    rw [if_neg (by simpa using hm5), if_neg (by show ¬ ((if isNo 5 (frA [x] 5 0) = true then ((0 : Nat) : Int) else -1) < 0); rw [if_pos (by rfl)]; decide)]
    rfl
  · intro b hb
    unfold poolPut
    rw [if_neg (by simpa using hm5), if_pos (by omega)]
end Go.Pl
