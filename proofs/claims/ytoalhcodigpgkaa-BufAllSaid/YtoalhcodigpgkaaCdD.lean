/- Pages of four sectors: read, written; a page of some bytes. Printed by a program of ours off the loaded program and our notes; Lean checks it. -/
import Derived.Test.YtoalhcodigpgkaaPdA
import Derived.Test.YtoalhcodigpgkaaSxT
import Derived.Test.YtoalhcodigpgkaaCdC
import Derived.Test.YtoalhcodigpgkaaSxL
namespace Go.Proofs.Ytoalhcodigpgkaa.Sx
open Go Go.Sx Go.Pl
variable [Outer]

set_option maxHeartbeats 1000000 in
set_option maxRecDepth 100000 in
theorem page_May {no : Int} {hs : List Chunk} : Fun Try.prog 46 [.int .i64 no] hs (fun v' hs' => v' = .bool (decide (mayPage no)) ∧ hs = hs') := by
  refine Fun.enter 9 Try.func46 rfl Try.ntmps46 rfl ?_
  refine TT.seq (.region (.pures hT 1 rfl (.nil (.seq (.seq (.region (.pures hT 3 rfl (.split 5 rfl (fun g5 => ?_) (fun g5 => ?_)))))))))
  ·
    have g5 := of_decide_eq_true g5
    refine OT.pures hT 4 rfl (.nil (.seq (.ret (.of (rs := [.tmp 2]) [_] hs rfl (.tmp rfl .nil) sl ?_))))
    dsimp only [one]
    refine ⟨?_, rfl⟩
    by_cases h : no < 96
    · rw [decide_eq_true h, decide_eq_true (by unfold mayPage; omega)]; rfl
    · rw [decide_eq_false h, decide_eq_false (by unfold mayPage; omega)]; rfl
  ·
    have g5 := of_decide_eq_false g5
    refine OT.pures hT 4 rfl (.nil (.seq (.ret (.of (rs := [.tmp 2]) [_] hs rfl (.tmp rfl .nil) sl ?_))))
    dsimp only [one]
    exact ⟨by rw [decide_eq_false (by unfold mayPage; omega)]; rfl, rfl⟩

set_option maxHeartbeats 1000000 in
set_option maxRecDepth 100000 in
theorem law9_Of {vb : Value} {bs : List UInt8} {r : List Chunk} (hr : Row Go.Sx.encB 1 r vb bs) (hl : bs.length ≤ 256) : Fun Try.prog 12 [vb] r (fun v' hs' => ∃ H', hs' = H' :: r ∧ Own Go.Sx.encB 1 5 v' (pageOf bs) H') := by
  refine Fun.enter 9 Try.func12 rfl Try.ntmps12 rfl ?_
  refine TT.seq (.region (.pures hT 1 rfl (.nil (.seq (.seq (.region ?_))))))
  refine OT.make (enc := Go.Sx.encB) (z0 := (0 : UInt8)) (n := 256) el31 Try.zeroValue5 rfl rfl rfl rfl rfl (by omega) rfl (fun v_4 H_4 ho_4 => ?_)
  obtain ⟨eb, eo, ec, _, _, hva, _⟩ := ho_4.over (by simp)
  rw [List.length_replicate] at hva
  subst hva
  obtain ⟨ab, cb, hvb⟩ := hr.len
  subst hvb
  refine OT.pures hT 1 rfl (.nil (.seq (.seq (.region (.pures hT 2 rfl (.copy_own 0 hT rfl rfl rfl rfl pl ho_4 hr.there (by simp; omega) (by simp) (ones_bytes _) rfl (fun H_7 ho_7 => ?_)))))))
  refine OT.nil (.seq (.seq (.region (.pures hT 2 rfl (.nil (.seq (.ret (.of (rs := [.tmp 2]) [_] (H_7 :: r) rfl (.tmp rfl .nil) sl ?_))))))))
  dsimp only [one]
  refine ⟨_, rfl, ?_⟩
  have e : over (List.replicate 256 (0 : UInt8)) 0 (bs.take 256) = pageOf bs := by
    unfold over pageOf noughts
    rw [show bs.take 256 = bs from List.take_of_length_le (by omega), List.take_zero, List.nil_append, Nat.zero_add, List.drop_replicate]
  rw [← e]; exact ho_7

set_option maxHeartbeats 1000000 in
set_option maxRecDepth 100000 in
theorem page_Read {p : Value} {d : Dev} {H : Chunk} {r : List Chunk} (hd : IsDev 89 65 p d H) {no : Int} : Fun Try.prog 24 [p, .int .i64 no] (H :: r) (fun v' hs' => ∃ w H', v' = .tuple ⟨[w, .int .i64 (readPage d no).2]⟩ ∧ hs' = H' :: H :: r ∧ Own Go.Sx.encB 1 5 w (readPage d no).1 H') := by
  refine Fun.enter 34 Try.func24 rfl Try.ntmps24 rfl ?_
  refine TT.seq (.region (.pures hT 2 rfl (.nil (.seq (.seq (.seq (.region (.pures hT 1 rfl (.call Try.call46 rfl rfl rfl rfl (page_May) ?_)))))))))
  rintro v_11 hs_11 ⟨rfl, rfl⟩
  refine OT.pures hT 1 rfl (.nil (.seq (.cond rfl (fun c12 => ?_) (fun c12 => ?_))))
  ·
    have c12 : ¬ mayPage no := of_decide_eq_false (by simpa using c12)
    have hrp : readPage d no = ([], 3) := by unfold readPage; rw [if_pos c12]
    rw [hrp]
    refine TT.seq (.region (.pures hT 2 rfl (.nil (.seq (.ret (.of (rs := [.tmp 4, .tmp 5]) [_, _] ([] :: H :: r) rfl (.tmp rfl (.tmp rfl .nil)) sl ?_))))))
    dsimp only [one]
    exact ⟨_, _, rfl, rfl, Own.nil⟩
  ·
    have c12 : mayPage no := of_decide_eq_true (by simpa using c12)
    have c12' : 0 ≤ no ∧ no < 96 := c12
    refine TT.skip (.seq (.seq (.region (.pures hT 1 rfl (.nil (.seq (.seq (.seq (.region (.pures hT 1 rfl (.nil (.seq (.block (.chunk0 (.loop (ι := Nat × Value × Chunk) (fun j => (j.1) ≤ 4 ∧ Own Go.Sx.encB 1 5 (j.2.1) (d.reads (2 + 4 * no) (j.1)) (j.2.2) ∧ (0 < (j.1) → d.in (2 + 4 * no + ((j.1) - 1 : Nat)))) (fun j => 4 - (j.1)) (fun j => [(0, p), (1, .int .i64 no), (6, (j.2.1)), (13, .int .i64 ((j.1) : Nat))]) (fun j => (j.2.2) :: H :: r) (0, .slice none 0 0, []) ?_ (SubR.cons rfl (SubR.cons rfl (SubR.cons rfl (SubR.cons rfl (SubR.nil _))))) sl ?_)))))))))))))))
    · dsimp only
      exact ⟨by omega, Own.nil, by omega⟩
    rintro ⟨k, w, W⟩ hI
    dsimp only at hI
    obtain ⟨hk, hW, hkin⟩ := hI
    show TT _ _ _ [(0, p), (1, .int .i64 no), (6, w), (13, .int .i64 (k : Nat))] (W :: H :: r)
    refine TT.seq (.region (.pures hT 1 rfl (.nil (.seq (.seq (.cond rfl (fun c14 => ?_) (fun c14 => ?_)))))))
    ·
      have c14 := of_decide_eq_true c14
      refine TT.skip (.seq (.seq (.block (.seq (.region (.pures hT 2 rfl (.nil (.seq (.seq (.region (.pures hT 6 rfl (.reg 22 rfl (v := .int .i64 (2 + 4 * no + (k : Nat))) (int_eq (by rw [wrap_i64 (n := 4 * no) (by omega) (by omega), wrap_i64 (n := 2 + 4 * no) (by omega) (by omega), wrap_i64 (by omega) (by omega)])) (.call Try.call47 rfl rfl rfl rfl (Fun.pull pl (dev_Read hd)) ?_)))))))))))))
      rintro v_23 hs_23 ⟨w1, H1, rfl, rfl, ho1⟩
      refine OT.pures hT 5 rfl (.nil (.seq (.seq (.seq (.region (.pures hT 2 rfl (.nil (.seq (.cond rfl (fun c27 => ?_) (fun c27 => ?_))))))))))
      ·
        have hin : ¬ d.in (2 + 4 * no + (k : Nat)) := by intro h; unfold Dev.read at c27; rw [if_pos h] at c27; cases c27
        have hrd : d.read (2 + 4 * no + (k : Nat)) = ([], 3) := by unfold Dev.read; rw [if_neg hin]
        have hrp : readPage d no = ([], 3) := by unfold readPage; rw [if_neg (by simpa using c12), if_neg (by unfold Dev.in at hin ⊢; omega)]
        rw [hrp, hrd]
        refine TT.seq (.region (.pures hT 3 rfl (.nil (.seq (.ret (.of (rs := [.tmp 4, .tmp 5]) [_, _] ([] :: H :: r) rfl (.tmp rfl (.tmp rfl .nil)) sl ?_))))))
        dsimp only [one]
        exact ⟨_, _, rfl, rfl, Own.nil⟩
      ·
        have hin : d.in (2 + 4 * no + (k : Nat)) := by refine Classical.byContradiction fun h => ?_; unfold Dev.read at c27; rw [if_neg h] at c27; cases c27
        have hrd : d.read (2 + 4 * no + (k : Nat)) = ((d.sec (2 + 4 * no + (k : Nat))).now, 0) := by unfold Dev.read; rw [if_pos hin]
        rw [hrd] at ho1
        dsimp only at ho1
        have hs64 := (Dev.sec_ok hd.ok hin).1
        have hin' : 0 ≤ 2 + 4 * no + (k : Nat) ∧ 2 + 4 * no + (k : Nat) < d.secs.length := hin
        have hrl := Dev.reads_length hd.ok k (2 + 4 * no) (by omega) (by omega)
        refine TT.skip (.seq (.region (.pures hT 2 rfl ?_)))
        refine OT.append hT el31 rfl rfl rfl rfl pl hW ro (ones_bytes _) (by omega) rfl (fun v_31 H_31 ho_31 => ?_)
        refine OT.pures hT 1 rfl (.nil (.blk (.seq (.region (.pures hT 2 rfl (.nil (.loop (k + 1, v_31, H_31) ?_ ?_ (SubR.cons rfl (SubR.cons rfl (SubR.cons rfl (SubR.cons' rfl (by (try dsimp only); exact (int_eq (by rw [wrap_i64 (by omega) (by omega)]; omega))) (SubR.nil _))))) sl)))))))
        · dsimp only
          exact ⟨by omega, by rw [Dev.reads_snoc]; exact ho_31, fun _ => by rw [Nat.add_sub_cancel]; exact hin⟩
        · dsimp only
          omega
    ·
      have c14 := of_decide_eq_false c14
      refine TT.exit (.seq (.loop (.here (.seq (.seq (.region (.pures hT 3 rfl (.nil (.seq (.ret (.of (rs := [.tmp 4, .tmp 5]) [_, _] (W :: H :: r) rfl (.tmp rfl (.tmp rfl .nil)) sl ?_)))))))))))
      dsimp only [one]
      obtain rfl : k = 4 := by omega
      have hin : d.in (2 + 4 * no + 3) := hkin (by omega)
      have hrp : readPage d no = (d.reads (2 + 4 * no) 4, 0) := by unfold readPage; rw [if_neg (by simpa using c12), if_pos hin]
      rw [hrp]
      exact ⟨_, _, rfl, rfl, hW⟩

set_option maxHeartbeats 1000000 in
set_option maxRecDepth 100000 in
theorem page_Write {p : Value} {d : Dev} {H : Chunk} {r : List Chunk} (hd : IsDev 89 65 p d H) {no : Int} {vb : Value} {bs : List UInt8} (hr : Row Go.Sx.encB 1 r vb bs) : Fun Try.prog 57 [p, .int .i64 no, vb] (H :: r) (fun v' hs' => ∃ H', hs' = H' :: r ∧ v' = .int .i64 (writePage d no bs).2 ∧ IsDev 89 65 p (writePage d no bs).1 H') := by
  refine Fun.enter 38 Try.func57 rfl Try.ntmps57 rfl ?_
  obtain ⟨ab, cb, hvb⟩ := hr.len
  subst hvb
  refine TT.seq (.region (.pures hT 1 rfl (.nil (.seq (.seq (.block (.seq (.region (.pures hT 1 rfl (.call Try.call46 rfl rfl rfl rfl (page_May) ?_))))))))))
  rintro v_11 hs_11 ⟨rfl, rfl⟩
  refine OT.pures hT 2 rfl (.nil (.seq (.cond rfl (fun c9 => ?_) (fun c9 => ?_))))
  ·
    have c9 : ¬ mayPage no := of_decide_eq_false (by simpa using c9)
    have hrp : writePage d no bs = (d, 3) := by unfold writePage; rw [if_pos c9]
    rw [hrp]
    refine TT.seq (.region (.pures hT 1 rfl (.nil (.seq (.ret (.of (rs := [.tmp 6]) [_] (H :: r) rfl (.tmp rfl .nil) sl ?_))))))
    dsimp only [one]
    exact ⟨_, rfl, rfl, hd⟩
  ·
    have c9 : mayPage no := of_decide_eq_true (by simpa using c9)
    have c9' : 0 ≤ no ∧ no < 96 := c9
    refine TT.seq (.region (.pures hT 4 rfl (.nil (.seq (.cond rfl (fun c13 => ?_) (fun c13 => ?_))))))
    ·
      have c13 : ¬ bs.length = 256 := by simp at c13; omega
      have hrp : writePage d no bs = (d, 1) := by unfold writePage; rw [if_neg (by simpa using c9), if_pos c13]
      rw [hrp]
      refine TT.seq (.region (.pures hT 1 rfl (.nil (.seq (.ret (.of (rs := [.tmp 6]) [_] (H :: r) rfl (.tmp rfl .nil) sl ?_))))))
      dsimp only [one]
      exact ⟨_, rfl, rfl, hd⟩
    ·
      have c13 : bs.length = 256 := by simp at c13; omega
      have hrp : writePage d no bs = d.writes (2 + 4 * no) (quarters bs) := by unfold writePage; rw [if_neg (by simpa using c9), if_neg (by simpa using c13)]
      rw [hrp]
      refine TT.skip (.blk (.seq (.seq (.seq (.region (.pures hT 1 rfl (.nil (.seq (.block (.loop (ι := Nat × Dev × Chunk) (fun j => (j.1) ≤ 4 ∧ IsDev 89 65 p (j.2.1) (j.2.2) ∧ d.writes (2 + 4 * no) (quarters bs) = (j.2.1).writes (2 + 4 * no + ((j.1) : Nat)) ((quarters bs).drop (j.1))) (fun j => 4 - (j.1)) (fun j => [(0, p), (1, .int .i64 no), (2, .slice ab bs.length cb), (17, .int .i64 ((j.1) : Nat))]) (fun j => (j.2.2) :: r) (0, d, H) ?_ (SubR.cons rfl (SubR.cons rfl (SubR.cons rfl (SubR.cons rfl (SubR.nil _))))) sl ?_))))))))))
      · dsimp only
        exact ⟨by omega, hd, by simp⟩
      rintro ⟨k, d2, W⟩ hI
      dsimp only at hI
      obtain ⟨hk, hW, heq⟩ := hI
      show TT _ _ _ [(0, p), (1, .int .i64 no), (2, .slice ab bs.length cb), (17, .int .i64 (k : Nat))] (W :: r)
      refine TT.seq (.region (.pures hT 1 rfl (.nil (.seq (.seq (.cond rfl (fun c18 => ?_) (fun c18 => ?_)))))))
      ·
        have c18 := of_decide_eq_true c18
        rw [quarters_at c13 (by omega), Dev.writes] at heq
        refine TT.skip (.seq (.seq (.block (.seq (.region (.pures hT 2 rfl (.nil (.seq (.seq (.region (.pures hT 12 rfl (.reg 25 rfl (v := .int .i64 (2 + 4 * no + (k : Nat))) (int_eq (by rw [wrap_i64 (n := 4 * no) (by omega) (by omega), wrap_i64 (n := 2 + 4 * no) (by omega) (by omega), wrap_i64 (by omega) (by omega)])) (.reg 28 rfl (v := .int .i64 ((64 * k : Nat) : Int)) (int_eq (by rw [wrap_i64 (by omega) (by omega)]; omega)) (.reg 31 rfl (v := .int .i64 ((64 * (k + 1) : Nat) : Int)) (int_eq (by rw [wrap_i64 (n := (k : Int) + 1) (by omega) (by omega), wrap_i64 (by omega) (by omega)]; omega)) (.slice_val (64 * k) (64 * (k + 1)) hT rfl rfl rfl rfl rfl (.inr ⟨_, rfl⟩) (.inr ⟨_, rfl⟩) (by omega) (by have := hr.cap_le; omega) rfl ?_)))))))))))))))
        refine OT.call Try.call49 rfl rfl rfl rfl (dev_Write hW (hr.sub (L := 64 * k) (M := 64 * (k + 1)) (by omega) (by omega))) ?_
        rintro v_33 hs_33 ⟨H1, rfl, rfl, hd1⟩
        refine OT.pures hT 1 rfl (.nil (.seq (.seq (.region (.pures hT 2 rfl (.nil (.seq (.cond rfl (fun c35 => ?_) (fun c35 => ?_)))))))))
        ·
          rw [if_pos (by simpa using c35)] at heq
          rw [heq]
          refine TT.seq (.region (.pures hT 2 rfl (.nil (.seq (.ret (.of (rs := [.tmp 6]) [_] (H1 :: r) rfl (.tmp rfl .nil) sl ?_))))))
          dsimp only [one]
          exact ⟨_, rfl, rfl, hd1⟩
        ·
          have c35 := by simpa using c35
          rw [if_neg (by omega)] at heq
          refine TT.skip (.blk (.seq (.region (.pures hT 2 rfl (.nil (.loop (k + 1, (d2.write (2 + 4 * no + (k : Nat)) ((bs.take (64 * (k + 1))).drop (64 * k))).1, H1) ?_ ?_ (SubR.cons rfl (SubR.cons rfl (SubR.cons rfl (SubR.cons' rfl (by (try dsimp only); exact (int_eq (by rw [wrap_i64 (by omega) (by omega)]; omega))) (SubR.nil _))))) sl))))))
          · dsimp only
            exact ⟨by omega, hd1, by rw [heq]; congr 1; omega⟩
          · dsimp only
            omega
      ·
        have c18 := of_decide_eq_false c18
        refine TT.exit (.seq (.loop (.here (.seq (.seq (.region (.pures hT 1 rfl (.nil (.seq (.ret (.of (rs := [.tmp 6]) [_] (W :: r) rfl (.tmp rfl .nil) sl ?_)))))))))))
        dsimp only [one]
        obtain rfl : k = 4 := by omega
        rw [heq]
        exact ⟨_, rfl, rfl, hW⟩

end Go.Proofs.Ytoalhcodigpgkaa.Sx
