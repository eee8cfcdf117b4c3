/- The log: written, forced. Printed by a program of ours off the loaded program and our notes; Lean checks it. -/
import Derived.Test.YtoalhcodigpgkaaPdC
import Derived.Test.YtoalhcodigpgkaaSxT
import Derived.Test.YtoalhcodigpgkaaCdI
import Derived.Test.YtoalhcodigpgkaaSxL
namespace Go.Proofs.Ytoalhcodigpgkaa.Sx
open Go Go.Sx Go.Pl
variable [Outer]

set_option maxHeartbeats 2000000 in
set_option maxRecDepth 100000 in
theorem wal_write {b : Nat} {ps pd v : Value} {l : Log} {d : Dev} {HS HD : Chunk} {r : List Chunk} {to : Nat} (hl : l.ok) (hturn : l.sup.turn ≤ 4611686018427387904) (hto : to ≤ 1152921504606846976) (hSup : IsSup 5 98 ps pd 0 l.sup HS) (hd : IsDev 89 65 pd d HD) : Fun Try.prog 66 [.pointer (some ⟨b, 0, none⟩), .int .i64 (to : Nat)] ([(b, blk (logCells pd ps l.ring l.base l.forced l.end_ v l.bad) 72 (0, 0))] :: HS :: HD :: r) (fun v' hs' => ∃ HS' HD', hs' = [(b, blk (logCells pd ps l.ring l.base l.forced l.end_ v l.bad) 72 (0, 0))] :: HS' :: HD' :: r ∧ v' = .int .i64 (l.write d to).2.2 ∧ IsSup 5 98 ps pd 0 (l.write d to).1 HS' ∧ IsDev 89 65 pd (l.write d to).2.1 HD') := by
  refine Fun.enter 60 Try.func66 rfl Try.ntmps66 rfl ?_
  have hrl := hl.ring
  obtain ⟨hob, hof⟩ := hl.order
  have hmo := hl.most
  refine TT.seq (.region (.pures hT 1 rfl (.nil (.seq (.seq (.seq (.region (.pures hT 3 rfl (.load rfl rfl (Ld.one hT rfl hz (logc_forced hrl)) rfl ?_)))))))))
  refine OT.pures hT 2 rfl (.nil (.seq (.block (.loop (ι := Nat × Dev × Chunk) (fun j => (j.1) ≤ 36028797018963968 ∧ IsDev 89 65 pd (j.2.1) (j.2.2) ∧ (wrSecs l.ring d (l.forced / 64) (secsTo (l.forced / 64) to)) = wrSecs l.ring (j.2.1) (j.1) (secsTo (j.1) to)) (fun j => secsTo (j.1) to) (fun j => [(0, .pointer (some ⟨b, 0, none⟩)), (1, .int .i64 (to : Nat)), (5, .int .i64 ((j.1) : Nat))]) (fun j => [(b, blk (logCells pd ps l.ring l.base l.forced l.end_ v l.bad) 72 (0, 0))] :: HS :: (j.2.2) :: r) (l.forced / 64, d, HD) ?_ (SubR.cons rfl (SubR.cons rfl (SubR.cons' rfl (by (try dsimp only); exact (int_eq (by rw [Int.tdiv_eq_ediv_of_nonneg (by omega), wrap_i64 (by omega) (by omega)]; omega))) (SubR.nil _)))) sl ?_))))
  · dsimp only
    exact ⟨by omega, hd, rfl⟩
  rintro ⟨k, d2, X⟩ hI
  dsimp only at hI
  obtain ⟨hk, hX, heq⟩ := hI
  show TT _ _ _ [(0, .pointer (some ⟨b, 0, none⟩)), (1, .int .i64 (to : Nat)), (5, .int .i64 (k : Nat))] ([(b, blk (logCells pd ps l.ring l.base l.forced l.end_ v l.bad) 72 (0, 0))] :: HS :: X :: r)
  refine TT.seq (.seq (.region (.pures hT 4 rfl (.nil (.seq (.cond rfl (fun c17 => ?_) (fun c17 => ?_)))))))
  ·
    have c17 := of_decide_eq_true c17
    rw [wrap_i64 (by omega) (by omega)] at c17
    have hst := secsTo_step (k := k) (to := to) (by omega)
    rw [hst, wrSecs] at heq
    refine TT.skip (.seq (.seq (.block (.seq (.region (.pures hT 2 rfl (.pures hT 1 rfl (.reg 6 rfl (v := .int .i64 ((k % 1024 : Nat) : Int)) (int_eq (by rw [Int.tmod_eq_emod_of_nonneg (by omega)]; omega)) (.nil (.seq (.seq (.draw ([(b, blk (logCells pd ps l.ring l.base l.forced l.end_ v l.bad) 72 (0, 0))] :: r) mixed (.takes (fuel := 4) hT [0, 1, 2, 4, 5, 6, 7, 8, 9, 10, 11, 12, 13] kr kr rfl (.take (fuel := 3) hT 3 rfl rfl kr kr kr rfl (.load rfl (Ld.one hT rfl hz rfl)) rfl ?_))))))))))))))
    refine AT.op (fuel := 2) 14 kr rfl sl (.reg 32 rfl (v := .int .i64 ((64 * (k % 1024) : Nat) : Int)) (int_eq (by rw [wrap_i64 (by omega) (by omega)]; omega)) (.reg 35 rfl (v := .int .i64 ((64 * (k % 1024 + 1) : Nat) : Int)) (int_eq (by rw [wrap_i64 (n := ((k % 1024 : Nat) : Int) + 1) (by omega) (by omega), wrap_i64 (by omega) (by omega)]; omega)) (.slice_arr (64 * (k % 1024)) (64 * (k % 1024 + 1)) hT rfl rfl rfl rfl rfl (.inr ⟨_, rfl⟩) (.inr ⟨_, rfl⟩) (by omega) (by omega) (by omega) rfl (.nil (.any (.op (fuel := 1) 15 kr rfl sl (.reg 27 rfl (v := .int .i64 (386 + (k % 1024 : Nat))) (int_eq (wrap_i64 (by omega) (by omega))) (.call Try.call49 rfl rfl rfl rfl (Fun.pull (A := X) pl (dev_Write hX (bs := ringSec l.ring (k % 1024)) (Row.of_blk Has.one (fun _ _ => rfl) (by unfold ringSec; rw [List.length_drop, List.length_take, hrl]; omega) (by omega) (by rw [show 0 + 2 + 64 * (k % 1024) * 1 = 2 + 64 * (k % 1024) by omega, show (64 * (k % 1024 + 1) - 64 * (k % 1024)) * 1 = 64 by omega, logc_ring hrl (by omega)]; unfold ringSec; rw [List.drop_take, show 64 * (k % 1024 + 1) - 64 * (k % 1024) = 64 by omega])))) ?_))))))))
    rintro v_37 hs_37 ⟨X2, rfl, rfl, hX2⟩
    refine OT.nil (.any (.takes (fuel := 0) hT [16] kr kr rfl (.done kr sl (.seq (.seq (.region (.pures hT 2 rfl (.nil (.seq (.cond rfl (fun c39 => ?_) (fun c39 => ?_)))))))))))
    ·
      have c39 : (d2.write (386 + (k % 1024 : Nat)) (ringSec l.ring (k % 1024))).2 ≠ 0 := by simpa using c39
      rw [if_pos c39] at heq
      have hw : l.write d to = (l.sup, d2.write (386 + (k % 1024 : Nat)) (ringSec l.ring (k % 1024))) := by unfold Log.write; rw [if_pos (by rw [heq]; exact c39), heq]
      rw [hw]
      refine TT.seq (.region (.pures hT 2 rfl (.nil (.seq (.ret (.of (rs := [.tmp 4]) [_] ([(b, blk (logCells pd ps l.ring l.base l.forced l.end_ v l.bad) 72 (0, 0))] :: HS :: X2 :: r) rfl (.tmp rfl .nil) sl ?_))))))
      dsimp only [one]
      exact ⟨_, _, rfl, rfl, hSup, hX2⟩
    ·
      have c39 : (d2.write (386 + (k % 1024 : Nat)) (ringSec l.ring (k % 1024))).2 = 0 := by simpa using c39
      rw [if_neg (by omega)] at heq
      refine TT.skip (.blk (.seq (.region (.pures hT 3 rfl (.nil (.loop (k + 1, (d2.write (386 + (k % 1024 : Nat)) (ringSec l.ring (k % 1024))).1, X2) ?_ ?_ (SubR.cons rfl (SubR.cons rfl (SubR.cons' rfl (by (try dsimp only); exact (int_eq (by rw [wrap_i64 (by omega) (by omega)]; omega))) (SubR.nil _)))) sl))))))
      · dsimp only
        exact ⟨by omega, hX2, heq⟩
      · dsimp only
        omega
  ·
    have c17 := of_decide_eq_false c17
    rw [wrap_i64 (by omega) (by omega)] at c17
    rw [secsTo_none (k := k) (to := to) (by omega)] at heq
    replace heq : (wrSecs l.ring d (l.forced / 64) (secsTo (l.forced / 64) to)) = (d2, 0) := heq
    refine TT.exit (.seq (.loop (.here (.seq (.seq (.seq (.region (.pures hT 3 rfl (.load rfl rfl (Ld.one hT rfl hz rfl) rfl ?_)))))))))
    refine OT.call Try.call58 rfl rfl rfl rfl (Fun.pull (A := X) pl (dev_Flush hX)) ?_
    rintro v_45 hs_45 ⟨X3, rfl, rfl, hX3⟩
    refine OT.pures hT 1 rfl (.nil (.seq (.seq (.region (.pures hT 2 rfl (.nil (.seq (.cond rfl (fun c47 => ?_) (fun c47 => ?_)))))))))
    ·
      have c47 : d2.flush.2 ≠ 0 := by simpa using c47
      have hw : l.write d to = (l.sup, d2.flush) := by unfold Log.write; rw [heq, if_neg (by simp), if_pos c47]
      rw [hw]
      refine TT.seq (.region (.pures hT 2 rfl (.nil (.seq (.ret (.of (rs := [.tmp 4]) [_] ([(b, blk (logCells pd ps l.ring l.base l.forced l.end_ v l.bad) 72 (0, 0))] :: HS :: X3 :: r) rfl (.tmp rfl .nil) sl ?_))))))
      dsimp only [one]
      exact ⟨_, _, rfl, rfl, hSup, hX3⟩
    ·
      have c47 : d2.flush.2 = 0 := by simpa using c47
      have hw : l.write d to = l.sup.save d2.flush.1 0 (logText l.base to) := by unfold Log.write; rw [heq, if_neg (by simp), if_neg (by simpa using c47)]
      rw [hw]
      refine TT.skip (.seq (.seq (.draw ([(b, blk (logCells pd ps l.ring l.base l.forced l.end_ v l.bad) 72 (0, 0))] :: r) mixed (.takes (fuel := 5) hT [0, 1, 2, 4, 5, 6, 8] kr kr rfl (.take (fuel := 4) hT 3 rfl rfl kr kr kr rfl (.load rfl (Ld.one hT rfl hz rfl)) rfl ?_)))))
      refine AT.take (fuel := 3) hT 7 rfl rfl kr kr kr rfl (.load rfl (Ld.one hT rfl hz (logc_base hrl))) rfl ?_
      refine AT.op (fuel := 2) 9 kr rfl sl (.call Try.call28 rfl rfl rfl rfl (wal_text (x := l.base) (y := to) (by omega) hto) ?_)
      rintro v_58 hs_58 ⟨HT, rfl, hoT⟩
      refine OT.nil (.any (.op (fuel := 1) 10 kr rfl sl (.call Try.call79 rfl rfl rfl rfl (Fun.pull (A := X3) pl (Fun.pull (A := HS) pl (super_Save hSup hX3 (by omega) (by omega) hturn hoT.row))) ?_)))
      rintro v_59 hs_59 ⟨HS1, X4, rfl, rfl, hS1, hX4⟩
      refine OT.nil (.any (.takes (fuel := 0) hT [11] kr kr rfl (.done kr sl (.seq (.ret (.of (rs := [.tmp 4]) [_] ([(b, blk (logCells pd ps l.ring l.base l.forced l.end_ v l.bad) 72 (0, 0))] :: HS1 :: X4 :: r) rfl (.tmp rfl .nil) sl ?_))))))
      dsimp only [one]
      exact ⟨_, _, rfl, rfl, hS1, hX4⟩

set_option maxHeartbeats 4000000 in
set_option maxRecDepth 100000 in
theorem wal_Force {p pd : Value} {l : Log} {H : Chunk} {r : List Chunk} (hl : IsLog 5 2 98 72 p pd l H) {d : Dev} {HD : Chunk} (hd : IsDev 89 65 pd d HD) (hturn : l.sup.turn ≤ 4611686018427387904) {to : Int} : Fun Try.prog 56 [p, .int .i64 to] (H :: HD :: r) (fun v' hs' => ∃ H' HD', hs' = H' :: HD' :: r ∧ v' = .int .i64 (l.force d to).2.2 ∧ IsLog 5 2 98 72 p pd (l.force d to).1 H' ∧ IsDev 89 65 pd (l.force d to).2.1 HD') := by
  refine Fun.enter 75 Try.func56 rfl Try.ntmps56 rfl ?_
  obtain ⟨b, ps, v, HS, Ke, hpp, hSup, hE, hone, hH⟩ := hl.is
  subst hpp
  subst hH
  have hrl := hl.ok.ring
  obtain ⟨hob, hof⟩ := hl.ok.order
  have hmo := hl.ok.most
  have hrm := hl.ok.room
  have hfew := hl.ok.few
  refine TT.perm perm3 ?_
  obtain ⟨av, cv, hv⟩ := (hE.row (hs := r)).len
  subst hv
  refine TT.seq (.region (.pures hT 1 rfl (.nil (.seq (.seq (.seq (.region (.pures hT 3 rfl (.pures hT 3 rfl (.load rfl rfl (Ld.one hT rfl hz (logc_bad hrl)) rfl ?_))))))))))
  refine OT.pures hT 1 rfl (.nil (.seq (.cond rfl (fun c15 => ?_) (fun c15 => ?_))))
  ·
    have hw : (l.force d to) = (l, d, 5) := by unfold Log.force; rw [if_pos c15]
    rw [hw]
    refine TT.seq (.region (.pures hT 1 rfl (.nil (.seq (.ret (.of (rs := [.tmp 4]) [_] (([(b, blk (logCells pd ps l.ring l.base l.forced l.end_ (.slice av l.ends.length cv) l.bad) 72 (0, 0))] ++ (HS ++ Ke)) :: HD :: r) rfl (.tmp rfl .nil) sl ?_))))))
    dsimp only [one]
    exact ⟨_, _, rfl, rfl, hl, hd⟩
  ·
    have c15' : ¬ l.bad = true := by rw [show l.bad = false from c15]; decide
    have hle := lead_le to l.ends
    have hfr := Log.farAt_range hl.ok hle
    rw [← Log.far_eq] at hfr
    refine TT.skip (.seq (.seq (.region (.pures hT 3 rfl (.load rfl rfl (Ld.one hT rfl hz (logc_forced hrl)) rfl ?_)))))
    refine OT.pures hT 2 rfl (.nil (.seq (.cut (ι := Unit) (fun j => True) (fun j => [(0, .pointer (some ⟨b, 0, none⟩)), (1, .int .i64 to), (5, .int .i64 ((l.far to) : Nat)), (6, .int .i64 ((lead to l.ends) : Nat))]) (fun j => [(b, blk (logCells pd ps l.ring l.base l.forced l.end_ (.slice av l.ends.length cv) l.bad) 72 (0, 0))] :: HS :: Ke :: HD :: r) ?_ ?_)))
    ·
      refine TT.block (.loop (ι := Nat) (fun j => (j) ≤ lead to l.ends) (fun j => lead to l.ends - (j)) (fun j => [(0, .pointer (some ⟨b, 0, none⟩)), (1, .int .i64 to), (5, .int .i64 (l.farAt (j) : Nat)), (6, .int .i64 ((j) : Nat))]) (fun j => [(b, blk (logCells pd ps l.ring l.base l.forced l.end_ (.slice av l.ends.length cv) l.bad) 72 (0, 0))] :: HS :: Ke :: HD :: r) (0) ?_ (SubR.cons rfl (SubR.cons rfl (SubR.cons' rfl (by (try dsimp only); exact (rfl)) (SubR.cons rfl (SubR.nil _))))) sl ?_)
      · omega
      rintro i hi
      show TT _ _ _ [(0, .pointer (some ⟨b, 0, none⟩)), (1, .int .i64 to), (5, .int .i64 (l.farAt i : Nat)), (6, .int .i64 (i : Nat))] ([(b, blk (logCells pd ps l.ring l.base l.forced l.end_ (.slice av l.ends.length cv) l.bad) 72 (0, 0))] :: HS :: Ke :: HD :: r)
      refine TT.seq (.seq (.region (.pures hT 4 rfl (.load rfl rfl (Ld.slc hT rfl hz (logc_ends hrl)) rfl ?_))))
      refine OT.pures hT 3 rfl (.split 27 rfl (fun g27 => ?_) (fun g27 => ?_))
      ·
        have g27 := of_decide_eq_true g27
        obtain ⟨e, he⟩ := nth (l := l.ends) (i := i) (by omega)
        refine OT.pures hT 3 rfl (.load rfl rfl (Ld.slc hT rfl hz (logc_ends hrl)) rfl ?_)
        refine OT.pures hT 1 rfl (.index hT rfl rfl rfl rfl ro (by omega) he rfl (fun ad_33 hel_33 => ?_))
        refine OT.load rfl rfl (hel_33.ld_one hT rfl rfl) rfl (.pures hT 3 rfl (.nil (.seq (.cond rfl (fun c37 => ?_) (fun c37 => ?_)))))
        ·
          have c37 := of_decide_eq_true c37
          have hil : i < lead to l.ends := by
            refine Classical.byContradiction fun h => ?_
            obtain rfl : i = lead to l.ends := by omega
            exact lead_end he c37
          refine TT.skip (.seq (.block (.seq (.region (.pures hT 3 rfl (.load rfl rfl (Ld.slc hT rfl hz (logc_ends hrl)) rfl ?_))))))
          refine OT.pures hT 1 rfl (.index hT rfl rfl rfl rfl ro (by omega) he rfl (fun ad_43 hel_43 => ?_))
          refine OT.load rfl rfl (hel_43.ld_one hT rfl rfl) rfl (.pures hT 1 rfl (.nil (.seq (.region (.pures hT 3 rfl (.nil (.blk (.loop (i + 1) ?_ ?_ (SubR.cons rfl (SubR.cons rfl (SubR.cons' rfl (by (try dsimp only); exact (int_eq (by rw [Log.farAt_succ he]))) (SubR.cons' rfl (by (try dsimp only); exact (int_eq (by rw [wrap_i64 (by omega) (by omega)]; omega))) (SubR.nil _))))) sl))))))))
          · omega
          · omega
        ·
          have c37 := of_decide_eq_false c37
          obtain rfl : i = lead to l.ends := by
            refine Classical.byContradiction fun h => ?_
            exact c37 (lead_at (by omega) he)
          refine TT.exit (.seq (.loop (.here (.cut (()) ?_ (SubR.cons rfl (SubR.cons rfl (SubR.cons rfl (SubR.cons rfl (SubR.nil _))))) sl))))
          · trivial
      ·
        have g27 := of_decide_eq_false g27
        obtain rfl : i = lead to l.ends := by omega
        refine OT.pures hT 10 rfl (.nil (.seq (.cond_false rfl (.exit (.seq (.loop (.here (.cut (()) ?_ (SubR.cons rfl (SubR.cons rfl (SubR.cons rfl (SubR.cons rfl (SubR.nil _))))) sl))))))))
        · trivial
    ·
      rintro _ -
      show TT _ _ _ [(0, .pointer (some ⟨b, 0, none⟩)), (1, .int .i64 to), (5, .int .i64 ((l.far to) : Nat)), (6, .int .i64 ((lead to l.ends) : Nat))] ([(b, blk (logCells pd ps l.ring l.base l.forced l.end_ (.slice av l.ends.length cv) l.bad) 72 (0, 0))] :: HS :: Ke :: HD :: r)
      refine TT.seq (.seq (.region (.pures hT 4 rfl (.load rfl rfl (Ld.one hT rfl hz (logc_forced hrl)) rfl ?_))))
      refine OT.pures hT 1 rfl (.nil (.seq (.cond rfl (fun c52 => ?_) (fun c52 => ?_))))
      ·
        have c52 : l.far to = l.forced := by have := eq_of_beq c52; omega
        have hw : (l.force d to) = (l, d, 0) := by unfold Log.force; rw [if_neg c15', if_pos c52]
        rw [hw]
        refine TT.seq (.region (.pures hT 1 rfl (.nil (.seq (.ret (.of (rs := [.tmp 4]) [_] (([(b, blk (logCells pd ps l.ring l.base l.forced l.end_ (.slice av l.ends.length cv) l.bad) 72 (0, 0))] ++ (HS ++ Ke)) :: HD :: r) rfl (.tmp rfl .nil) sl ?_))))))
        dsimp only [one]
        exact ⟨_, _, rfl, rfl, hl, hd⟩
      ·
        have c52 : ¬ l.far to = l.forced := by have := ne_of_beq_false c52; omega
        refine TT.skip (.seq (.seq (.seq (.region (.pures hT 2 rfl (.call Try.call66 rfl rfl rfl rfl (Fun.pull (A := HD) pl (Fun.pull (A := HS) pl (Fun.pull pl (wal_write hl.ok hturn (by omega) hSup hd)))) ?_))))))
        rintro v_55 hs_55 ⟨HS1, HD1, rfl, rfl, hS1, hd1⟩
        refine OT.pures hT 1 rfl (.nil (.seq (.seq (.region (.pures hT 2 rfl (.nil (.seq (.cond rfl (fun c57 => ?_) (fun c57 => ?_)))))))))
        ·
          have c57 : (l.write d (l.far to)).2.2 ≠ 0 := by simpa using c57
          have hw : (l.force d to) = ({ l with bad := true, sup := (l.write d (l.far to)).1 }, (l.write d (l.far to)).2) := by unfold Log.force; rw [if_neg c15', if_neg c52, if_pos c57]
          rw [hw]
          refine TT.seq (.region (.pures hT 3 rfl (.store hT rfl rfl rfl rfl pl rfl (by rw [logc_length hrl]; decide) rfl (.inl (Nat.le_refl _)) (logs_bad hrl _) ?_)))
          refine OT.nil (.seq (.seq (.region (.pures hT 2 rfl (.nil (.seq (.ret (.of (rs := [.tmp 4]) [_] (([(b, blk (logCells pd ps l.ring l.base l.forced l.end_ (.slice av l.ends.length cv) true) 72 (0, 0))] ++ (HS1 ++ Ke)) :: HD1 :: r) rfl (.tmp rfl .nil) sl ?_))))))))
          dsimp only [one]
          exact ⟨_, _, rfl, rfl, ⟨Log.bad_ok hl.ok _, ⟨b, ps, _, HS1, Ke, rfl, hS1, hE, rfl, rfl⟩⟩, hd1⟩
        ·
          have c57 : (l.write d (l.far to)).2.2 = 0 := by simpa using c57
          have hw : (l.force d to) = ({ l with forced := (l.far to), ends := l.ends.drop (lead to l.ends), sup := (l.write d (l.far to)).1 }, (l.write d (l.far to)).2.1, 0) := by unfold Log.force; rw [if_neg c15', if_neg c52, if_neg (by omega)]
          rw [hw]
          refine TT.skip (.seq (.seq (.draw (r) mixed (.takes (fuel := 8) hT [0, 1, 2, 3, 4, 5, 7] kr kr rfl (.op (fuel := 7) 6 kr rfl sl (.load rfl rfl (Ld.slc hT rfl hz (logc_ends hrl)) rfl ?_))))))
          refine OT.nil (.any (.takes (fuel := 5) hT [9, 10] kr kr rfl (.all (fuel := 4) [8, 11] kr (by decide) sl ?_)))
          intro i hi
          simp only [List.mem_cons, List.not_mem_nil, or_false] at hi
          rcases hi with rfl | rfl
          ·
            refine ⟨_, rfl, ?_⟩
            refine OT.slice_val (lead to l.ends) l.ends.length hT rfl rfl rfl rfl rfl (.inr ⟨_, rfl⟩) (.inl ⟨rfl, rfl⟩) hle hE.cap.2 rfl (.nil (.any (.op (fuel := 3) 11 kr rfl sl (.store hT rfl rfl rfl rfl pl rfl (by rw [logc_length hrl]; decide) rfl (.inl (Nat.le_refl _)) (logs_forced hrl _) ?_))))
            refine OT.nil (.any (.takes (fuel := 1) hT [12, 13] kr kr rfl (.op (fuel := 0) 14 kr rfl sl (.store hT rfl rfl rfl rfl pl rfl (by rw [logc_length hrl]; decide) rfl (.inl (Nat.le_refl _)) (logs_ends hrl _) ?_))))
            refine OT.nil (.any (.done kr sl (.seq (.seq (.region (.pures hT 1 rfl (.nil (.seq (.ret (.of (rs := [.tmp 4]) [_] (([(b, blk (logCells pd ps l.ring l.base (l.far to) l.end_ _ l.bad) 72 (0, 0))] ++ (HS1 ++ Ke)) :: HD1 :: r) rfl (.tmp rfl .nil) sl ?_))))))))))
            dsimp only [one]
            exact ⟨_, _, rfl, rfl, ⟨Log.drop_ok hl.ok hle _, ⟨b, ps, _, HS1, Ke, rfl, hS1, hE.drop hle, rfl, rfl⟩⟩, hd1⟩
          ·
            refine ⟨_, rfl, ?_⟩
            refine OT.store hT rfl rfl rfl rfl pl rfl (by rw [logc_length hrl]; decide) rfl (.inl (Nat.le_refl _)) (logs_forced hrl _) ?_
            refine OT.nil (.any (.op (fuel := 3) 8 kr rfl sl (.slice_val (lead to l.ends) l.ends.length hT rfl rfl rfl rfl rfl (.inr ⟨_, rfl⟩) (.inl ⟨rfl, rfl⟩) hle hE.cap.2 rfl (.nil (.any (.takes (fuel := 1) hT [12, 13] kr kr rfl (.op (fuel := 0) 14 kr rfl sl (.store hT rfl rfl rfl rfl pl rfl (by rw [logc_length hrl]; decide) rfl (.inl (Nat.le_refl _)) (logs_ends hrl _) ?_))))))))
            refine OT.nil (.any (.done kr sl (.seq (.seq (.region (.pures hT 1 rfl (.nil (.seq (.ret (.of (rs := [.tmp 4]) [_] (([(b, blk (logCells pd ps l.ring l.base (l.far to) l.end_ _ l.bad) 72 (0, 0))] ++ (HS1 ++ Ke)) :: HD1 :: r) rfl (.tmp rfl .nil) sl ?_))))))))))
            dsimp only [one]
            exact ⟨_, _, rfl, rfl, ⟨Log.drop_ok hl.ok hle _, ⟨b, ps, _, HS1, Ke, rfl, hS1, hE.drop hle, rfl, rfl⟩⟩, hd1⟩

end Go.Proofs.Ytoalhcodigpgkaa.Sx
