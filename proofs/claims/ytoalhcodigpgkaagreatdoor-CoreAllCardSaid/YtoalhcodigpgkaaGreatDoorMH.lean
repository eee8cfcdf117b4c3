/- Several texts in one. A core: what its calls do. Printed by a program of ours off the loaded program and our notes; Lean checks it. A core: changed, opened, made. Printed by a program of ours off the loaded program and our notes; Lean checks it. What a core's calls do, told by its pages alone. Printed by a program of ours off the loaded program and our notes; Lean checks it. The laws of core: one change; what a law's helpers do. Printed by a program of ours off the loaded program and our notes; Lean checks it. Images by some bytes; the document's say on them; all pages, laid and asked. Printed by a program of ours off the loaded program and our notes; Lean checks it. -/
import Derived.Test.YtoalhcodigpgkaaGreatDoorMD
import Derived.Test.YtoalhcodigpgkaaGreatDoorMF
import Derived.Test.YtoalhcodigpgkaaGreatDoorMB
import Derived.Test.YtoalhcodigpgkaaGreatDoorMG
import Derived.Test.YtoalhcodigpgkaaGreatDoorME

section
namespace Go.Proofs.YtoalhcodigpgkaaGreatDoor.Sx
open Go Go.Sx Go.Pl
variable [Outer]

set_option maxHeartbeats 1000000 in
set_option maxRecDepth 100000 in
theorem wal_End {p pd : Value} {l : Log} {H : Chunk} {r : List Chunk} (hl : IsLog 5 2 125 97 p pd l H) : Fun Tryz.prog 41 [p] (H :: r) (fun v' hs' => v' = .int .i64 (l.end_ : Nat) ∧ H :: r = hs') := by
  refine Fun.enter 9 Tryz.func41 rfl Tryz.ntmps41 rfl ?_
  obtain ⟨b, ps, v, HS, Ke, hpp, hSup, hE, hone, hH⟩ := hl.is
  subst hpp
  subst hH
  have hrl := hl.ok.ring
  obtain ⟨hob, hof⟩ := hl.ok.order
  have hmo := hl.ok.most
  have hrm := hl.ok.room
  have hfew := hl.ok.few
  refine TT.perm perm3 (.seq (.region (.pures hT 1 rfl (.nil (.seq (.seq (.seq (.region (.pures hT 2 rfl (.nil (.seq (.cond_false rfl (.skip (.seq (.seq (.region (.pures hT 3 rfl (.load rfl rfl (Ld.one hT rfl hz (logc_end hrl)) rfl ?_))))))))))))))))))
  refine OT.pures hT 1 rfl (.nil (.seq (.ret (.of (rs := [.tmp 2]) [_] (([(b, blk (logCells pd ps l.ring l.base l.forced l.end_ v l.bad) 97 (0, 0))] ++ (HS ++ Ke)) :: r) rfl (.tmp rfl .nil) sl ?_))))
  dsimp only [one]
  exact ⟨rfl, rfl⟩

set_option maxHeartbeats 4000000 in
set_option maxRecDepth 100000 in
theorem wal_Cut {p pd : Value} {l : Log} {H : Chunk} {r : List Chunk} (hl : IsLog 5 2 125 97 p pd l H) {d : Dev} {HD : Chunk} (hd : IsDev 83 69 pd d HD) (hturn : l.sup.turn + 1 ≤ 4611686018427387904) (hcut : LogOk l d) : Fun Tryz.prog 36 [p] (H :: HD :: r) (fun v' hs' => ∃ H' HD', hs' = H' :: HD' :: r ∧ v' = .int .i64 (logCut l d).2.2 ∧ IsLog 5 2 125 97 p pd (logCut l d).1 H' ∧ IsDev 83 69 pd (logCut l d).2.1 HD') := by
  refine Fun.enter 39 Tryz.func36 rfl Tryz.ntmps36 rfl ?_
  obtain ⟨b0, hp0⟩ := hl.ptr
  subst hp0
  refine TT.seq (.region (.pures hT 1 rfl (.nil (.seq (.seq (.seq (.region (.pures hT 2 rfl (.call Tryz.call41 rfl rfl rfl rfl (wal_End hl) ?_)))))))))
  rintro v_7 hs_7 ⟨rfl, rfl⟩
  refine OT.call Tryz.call40 rfl rfl rfl rfl (wal_Force hl hd (by omega)) ?_
  rintro v_8 hs_8 ⟨H1, HD1, rfl, rfl, hl1, hd1⟩
  refine OT.pures hT 1 rfl (.nil (.seq (.seq (.region (.pures hT 2 rfl (.nil (.seq (.cond rfl (fun c10 => ?_) (fun c10 => ?_)))))))))
  ·
    have c10 : (l.force d (l.end_ : Nat)).2.2 ≠ 0 := by simpa using c10
    have hw : logCut l d = (l.force d (l.end_ : Nat)) := by unfold logCut; rw [if_pos c10]
    rw [hw]
    refine TT.seq (.region (.pures hT 2 rfl (.nil (.seq (.ret (.of (rs := [.tmp 2]) [_] (H1 :: HD1 :: r) rfl (.tmp rfl .nil) sl ?_))))))
    dsimp only [one]
    exact ⟨_, _, rfl, rfl, hl1, hd1⟩
  ·
    have c10 : (l.force d (l.end_ : Nat)).2.2 = 0 := by simpa using c10
    have hfo := (hcut c10).trans (Log.force_sup (l := l) d (l.end_ : Nat)).1.symm
    have htn := Log.force_turn l d (l.end_ : Nat)
    have hw : logCut l d = cutTail (l.force d (l.end_ : Nat)).1 (l.force d (l.end_ : Nat)).2.1 := by unfold logCut; rw [if_neg (by omega)]
    rw [hw]
    generalize (l.force d (l.end_ : Nat)).1 = l1 at *
    generalize (l.force d (l.end_ : Nat)).2.1 = d1 at *
    have hok2 := cutTail_ok hl1.ok d1 hfo
    obtain ⟨b, ps1, v1, HS, Ke, hpp, hSup, hE, hone, hH⟩ := hl1.is
    obtain rfl : b0 = b := by injection hpp with e; injection e with e; injection e
    subst hH
    have hrl := hl1.ok.ring
    obtain ⟨hob, hof⟩ := hl1.ok.order
    have hmo := hl1.ok.most
    refine TT.perm perm3 (.skip (.seq (.seq (.seq (.draw ([(b0, blk (logCells pd ps1 l1.ring l1.base l1.forced l1.end_ v1 l1.bad) 97 (0, 0))] :: r) mixed (.takes (fuel := 6) hT [0, 1, 2, 4, 5, 6, 8, 9, 10] kr kr rfl (.take (fuel := 5) hT 3 rfl rfl kr kr kr rfl (.load rfl (Ld.one hT rfl hz (show (logCells pd ps1 l1.ring l1.base l1.forced l1.end_ v1 l1.bad)[1]? = some ps1 from rfl))) rfl ?_)))))))
    refine AT.take (fuel := 4) hT 7 rfl rfl kr kr kr rfl (.load rfl (Ld.one hT rfl hz (logc_end hrl))) rfl ?_
    refine AT.take (fuel := 3) hT 11 rfl rfl kr kr kr rfl (.load rfl (Ld.one hT rfl hz (logc_end hrl))) rfl ?_
    refine AT.op (fuel := 2) 12 kr rfl sl (.call Tryz.call49 rfl rfl rfl rfl (wal_text (x := l1.end_) (y := l1.end_) (by omega) (by omega)) ?_)
    rintro v_24 hs_24 ⟨HT, rfl, hoT⟩
    refine OT.nil (.any (.op (fuel := 1) 13 kr rfl sl (.call Tryz.call62 rfl rfl rfl rfl (Fun.weaken (hs' := HS :: HD1 :: HT :: [(b0, blk (logCells pd ps1 l1.ring l1.base l1.forced l1.end_ v1 l1.bad) 97 (0, 0))] :: Ke :: r) sl (super_Save hSup hd1 (by omega) (by omega) (by omega) hoT.row)) ?_)))
    rintro v_25 hs_25 ⟨HS1, HD2, rfl, rfl, hS1, hd2⟩
    refine OT.nil (.any (.takes (fuel := 0) hT [14] kr kr rfl (.done kr sl (.seq (.seq (.region (.pures hT 2 rfl (.nil (.seq (.cond rfl (fun c27 => ?_) (fun c27 => ?_)))))))))))
    ·
      have c27 : (l1.sup.save d1 0 (logText l1.end_ l1.end_)).2.2 ≠ 0 := by simpa using c27
      have hw2 : cutTail l1 d1 = ({ l1 with bad := true, sup := (l1.sup.save d1 0 (logText l1.end_ l1.end_)).1 }, (l1.sup.save d1 0 (logText l1.end_ l1.end_)).2) := by unfold cutTail; rw [if_pos c27]
      rw [hw2] at hok2 ⊢
      refine TT.seq (.region (.pures hT 3 rfl (.store hT rfl rfl rfl rfl pl rfl (by rw [logc_length hrl]; decide) rfl (.inl (Nat.le_refl _)) (logs_bad hrl _) ?_)))
      refine OT.nil (.seq (.seq (.region (.pures hT 2 rfl (.nil (.seq (.ret (.of (rs := [.tmp 2]) [_] (([(b0, blk (logCells pd ps1 l1.ring l1.base l1.forced l1.end_ v1 true) 97 (0, 0))] ++ (HS1 ++ Ke)) :: HD2 :: r) rfl (.tmp rfl .nil) sl ?_))))))))
      dsimp only [one]
      exact ⟨_, _, rfl, rfl, ⟨hok2, ⟨b0, ps1, _, HS1, Ke, rfl, hS1, hE, hone, rfl⟩⟩, hd2⟩
    ·
      have c27 : (l1.sup.save d1 0 (logText l1.end_ l1.end_)).2.2 = 0 := by simpa using c27
      have hw2 : cutTail l1 d1 = ({ l1 with sup := (l1.sup.save d1 0 (logText l1.end_ l1.end_)).1, base := l1.end_ }, (l1.sup.save d1 0 (logText l1.end_ l1.end_)).2.1, 0) := by unfold cutTail; rw [if_neg (by omega)]
      rw [hw2] at hok2 ⊢
      refine TT.skip (.seq (.seq (.region (.pures hT 4 rfl (.load rfl rfl (Ld.one hT rfl hz (logc_end hrl)) rfl ?_)))))
      refine OT.pures hT 2 rfl (.store hT rfl rfl rfl rfl pl rfl (by rw [logc_length hrl]; decide) rfl (.inl (Nat.le_refl _)) (logs_base hrl _) ?_)
      refine OT.nil (.seq (.seq (.region (.pures hT 1 rfl (.nil (.seq (.ret (.of (rs := [.tmp 2]) [_] (([(b0, blk (logCells pd ps1 l1.ring l1.end_ l1.forced l1.end_ v1 l1.bad) 97 (0, 0))] ++ (HS1 ++ Ke)) :: HD2 :: r) rfl (.tmp rfl .nil) sl ?_))))))))
      dsimp only [one]
      exact ⟨_, _, rfl, rfl, ⟨hok2, ⟨b0, ps1, _, HS1, Ke, rfl, hS1, hE, hone, rfl⟩⟩, hd2⟩

set_option maxHeartbeats 1000000 in
set_option maxRecDepth 100000 in
theorem core_Down {b : Nat} {pw pp : Value} {dn : Bool} {r : List Chunk} : Fun Tryz.prog 14 [.pointer (some ⟨b, 0, none⟩)] ([(b, blk [pw, pp, .bool dn] 66 (0, 0))] :: r) (fun v' hs' => v' = .bool dn ∧ ([(b, blk [pw, pp, .bool dn] 66 (0, 0))] :: r) = hs') := by
  refine Fun.enter 11 Tryz.func14 rfl Tryz.ntmps14 rfl ?_
  refine TT.seq (.region (.pures hT 1 rfl (.nil (.seq (.seq (.region (.pures hT 3 rfl (.pures hT 3 rfl (.load rfl rfl (Ld.one hT rfl hz rfl) rfl ?_)))))))))
  refine OT.pures hT 2 rfl (.nil (.seq (.ret (.of (rs := [.tmp 2]) [_] ([(b, blk [pw, pp, .bool dn] 66 (0, 0))] :: r) rfl (.tmp rfl .nil) sl ?_))))
  dsimp only [one]
  exact ⟨rfl, rfl⟩

set_option maxHeartbeats 1000000 in
set_option maxRecDepth 100000 in
theorem core_is {b : Nat} {pw pp : Value} {dn : Bool} {r : List Chunk} {e : Int} : Fun Tryz.prog 32 [.pointer (some ⟨b, 0, none⟩), .int .i64 e] ([(b, blk [pw, pp, .bool dn] 66 (0, 0))] :: r) (fun v' hs' => v' = .int .i64 e ∧ ([(b, blk [pw, pp, .bool (downIf e dn)] 66 (0, 0))] :: r) = hs') := by
  refine Fun.enter 19 Tryz.func32 rfl Tryz.ntmps32 rfl ?_
  refine TT.seq (.region (.pures hT 1 rfl (.nil (.seq (.seq (.seq (.region (.pures hT 3 rfl (.split 7 rfl (fun g7 => ?_) (fun g7 => ?_))))))))))
  ·
    have g7 : e ≠ 0 := by simpa using g7
    refine OT.pures hT 4 rfl (.split 11 rfl (fun g11 => ?_) (fun g11 => ?_))
    ·
      have g11 : e ≠ 3 := by simpa using g11
      refine OT.pures hT 3 rfl (.nil (.seq (.cond rfl (fun c14 => ?_) (fun c14 => ?_))))
      ·
        have c14 : e ≠ 1 := by simpa using c14
        have hw : downIf e dn = true := by unfold downIf; rw [if_pos ⟨g7, g11, c14⟩]
        rw [hw]
        refine TT.region (.pures hT 3 rfl (.store hT rfl rfl rfl rfl pl rfl (Nat.le_of_ble_eq_true rfl) rfl (.inl (Nat.le_refl _)) (cs' := [pw, pp, .bool true]) rfl ?_))
        refine OT.nil (.seq (.seq (.region (.pures hT 2 rfl (.nil (.seq (.ret (.of (rs := [.tmp 4]) [_] ([(b, blk [pw, pp, .bool true] 66 (0, 0))] :: r) rfl (.tmp rfl .nil) sl ?_))))))))
        dsimp only [one]
        exact ⟨rfl, rfl⟩
      ·
        have c14 : e = 1 := by simpa using c14
        have hw : downIf e dn = dn := by unfold downIf; rw [if_neg (by omega)]
        rw [hw]
        refine TT.skip (.seq (.seq (.region (.pures hT 2 rfl (.nil (.seq (.ret (.of (rs := [.tmp 4]) [_] ([(b, blk [pw, pp, .bool dn] 66 (0, 0))] :: r) rfl (.tmp rfl .nil) sl ?_))))))))
        dsimp only [one]
        exact ⟨rfl, rfl⟩
    ·
      have g11 : e = 3 := by simpa using g11
      have hw : downIf e dn = dn := by unfold downIf; rw [if_neg (by omega)]
      rw [hw]
      refine OT.pures hT 3 rfl (.nil (.seq (.cond_false rfl (.skip (.seq (.seq (.region (.pures hT 2 rfl (.nil (.seq (.ret (.of (rs := [.tmp 4]) [_] ([(b, blk [pw, pp, .bool dn] 66 (0, 0))] :: r) rfl (.tmp rfl .nil) sl ?_))))))))))))
      dsimp only [one]
      exact ⟨rfl, rfl⟩
  ·
    have g7 : e = 0 := by simpa using g7
    have hw : downIf e dn = dn := by unfold downIf; rw [if_neg (by omega)]
    rw [hw]
    refine OT.pures hT 7 rfl (.nil (.seq (.cond_false rfl (.skip (.seq (.seq (.region (.pures hT 2 rfl (.nil (.seq (.ret (.of (rs := [.tmp 4]) [_] ([(b, blk [pw, pp, .bool dn] 66 (0, 0))] :: r) rfl (.tmp rfl .nil) sl ?_))))))))))))
    dsimp only [one]
    exact ⟨rfl, rfl⟩

set_option maxHeartbeats 2000000 in
set_option maxRecDepth 100000 in
theorem core_Page {p pd : Value} {c : Cor} {H HD : Chunk} {r : List Chunk} (hc : IsCor 5 2 125 97 109 100 106 66 p pd c H) (hd : IsDev 83 69 pd c.d HD) (hb : c.down = false → c.fine) {no : Int} : Fun Tryz.prog 13 [p, .int .i64 no] (H :: HD :: r) (fun v' hs' => ∃ w H1 H' HD', hs' = H1 :: H' :: HD' :: r ∧ v' = .tuple ⟨[w, .int .i64 (c.page no).2.1]⟩ ∧ Own Go.Sx.encB 1 5 w (c.page no).1 H1 ∧ IsCor 5 2 125 97 109 100 106 66 p pd (c.page no).2.2 H' ∧ IsDev 83 69 pd (c.page no).2.2.d HD') := by
  refine Fun.enter 23 Tryz.func13 rfl Tryz.ntmps13 rfl ?_
  obtain ⟨b, pw, pp, HP, HL, hpp, hP, hL, hH⟩ := hc.is
  subst hpp
  subst hH
  obtain ⟨bw, hpw⟩ := hL.ptr
  obtain ⟨bq, _, _, _, hpq, _⟩ := hP.is
  subst hpw
  subst hpq
  refine TT.perm perm3 (.seq (.region (.pures hT 2 rfl (.nil (.seq (.seq (.seq (.region (.pures hT 1 rfl (.call Tryz.call14 rfl rfl rfl rfl (core_Down) ?_))))))))))
  rintro v_9 hs_9 ⟨rfl, rfl⟩
  refine OT.nil (.seq (.cond rfl (fun c9 => ?_) (fun c9 => ?_)))
  ·
    have hw : c.page no = ([], 5, c) := by unfold Cor.page; rw [if_pos c9]
    rw [hw]
    refine TT.seq (.region (.pures hT 2 rfl (.nil (.seq (.ret (.of (rs := [.tmp 4, .tmp 5]) [_, _] ([] :: (([(b, blk [.pointer (some ⟨bw, 0, none⟩), .pointer (some ⟨bq, 0, none⟩), .bool c.down] 66 (0, 0))] ++ (HP ++ HL)) :: HD :: r)) rfl (.tmp rfl (.tmp rfl .nil)) sl ?_))))))
    dsimp only [one]
    exact ⟨_, _, _, _, rfl, rfl, Own.nil, ⟨⟨b, _, _, _, _, rfl, hP, hL, rfl⟩⟩, hd⟩
  ·
    obtain ⟨hb1, hb2, hb3⟩ := hb c9
    have hw : c.page no = ((poolPage c.fs c.l c.d no).1, (poolPage c.fs c.l c.d no).2.1, ⟨(poolPage c.fs c.l c.d no).2.2.1, (poolPage c.fs c.l c.d no).2.2.2.1, (poolPage c.fs c.l c.d no).2.2.2.2, downIf (poolPage c.fs c.l c.d no).2.1 c.down⟩) := by unfold Cor.page; rw [if_neg (by rw [c9]; decide), Cor.is_eq]
    rw [hw]
    refine TT.skip (.seq (.seq (.region (.pures hT 3 rfl (.load rfl rfl (Ld.one hT rfl hz rfl) rfl ?_)))))
    refine OT.pures hT 1 rfl (.call Tryz.call38 rfl rfl rfl rfl (Fun.weaken (hs' := HP :: HL :: HD :: [(b, blk [.pointer (some ⟨bw, 0, none⟩), .pointer (some ⟨bq, 0, none⟩), .bool c.down] 66 (0, 0))] :: r) sl (buf_Page hP hL hd (by omega) (by omega))) ?_)
    rintro v_16 hs_16 ⟨w, H1, HP1, HL1, HD1, rfl, rfl, ho1, hP1, hL1, hd1⟩
    refine OT.pures hT 5 rfl (.nil (.seq (.seq (.region (.pures hT 3 rfl (.call Tryz.call32 rfl rfl rfl rfl (Fun.pull pl (core_is)) ?_))))))
    rintro v_22 hs_22 ⟨rfl, rfl⟩
    refine OT.pures hT 2 rfl (.nil (.seq (.ret (.of (rs := [.tmp 4, .tmp 5]) [_, _] (H1 :: (([(b, blk [.pointer (some ⟨bw, 0, none⟩), .pointer (some ⟨bq, 0, none⟩), .bool (downIf (poolPage c.fs c.l c.d no).2.1 c.down)] 66 (0, 0))] ++ (HP1 ++ HL1)) :: HD1 :: r)) rfl (.tmp rfl (.tmp rfl .nil)) sl ?_))))
    dsimp only [one]
    exact ⟨_, _, _, _, rfl, rfl, ho1, ⟨⟨b, _, _, _, _, rfl, hP1, hL1, rfl⟩⟩, hd1⟩

set_option maxHeartbeats 2000000 in
set_option maxRecDepth 100000 in
theorem core_Flush {p pd : Value} {c : Cor} {H HD : Chunk} {r : List Chunk} (hc : IsCor 5 2 125 97 109 100 106 66 p pd c H) (hd : IsDev 83 69 pd c.d HD) (hb : c.down = false → c.fine) {no : Int} : Fun Tryz.prog 10 [p, .int .i64 no] (H :: HD :: r) (fun v' hs' => ∃ H' HD', hs' = H' :: HD' :: r ∧ v' = .int .i64 (c.flush no).1 ∧ IsCor 5 2 125 97 109 100 106 66 p pd (c.flush no).2 H' ∧ IsDev 83 69 pd (c.flush no).2.d HD') := by
  refine Fun.enter 15 Tryz.func10 rfl Tryz.ntmps10 rfl ?_
  obtain ⟨b, pw, pp, HP, HL, hpp, hP, hL, hH⟩ := hc.is
  subst hpp
  subst hH
  obtain ⟨bw, hpw⟩ := hL.ptr
  obtain ⟨bq, _, _, _, hpq, _⟩ := hP.is
  subst hpw
  subst hpq
  refine TT.perm perm3 (.seq (.region (.pures hT 1 rfl (.nil (.seq (.seq (.seq (.region (.pures hT 1 rfl (.call Tryz.call14 rfl rfl rfl rfl (core_Down) ?_))))))))))
  rintro v_6 hs_6 ⟨rfl, rfl⟩
  refine OT.nil (.seq (.cond rfl (fun c6 => ?_) (fun c6 => ?_)))
  ·
    have hw : c.flush no = (5, c) := by unfold Cor.flush; rw [if_pos c6]
    rw [hw]
    refine TT.seq (.region (.pures hT 1 rfl (.nil (.seq (.ret (.of (rs := [.tmp 4]) [_] (([(b, blk [.pointer (some ⟨bw, 0, none⟩), .pointer (some ⟨bq, 0, none⟩), .bool c.down] 66 (0, 0))] ++ (HP ++ HL)) :: HD :: r) rfl (.tmp rfl .nil) sl ?_))))))
    dsimp only [one]
    exact ⟨_, _, rfl, rfl, ⟨⟨b, _, _, _, _, rfl, hP, hL, rfl⟩⟩, hd⟩
  ·
    obtain ⟨hb1, hb2, hb3⟩ := hb c6
    have hw : c.flush no = ((poolFlush c.fs c.l c.d no).1, ⟨(poolFlush c.fs c.l c.d no).2.1, (poolFlush c.fs c.l c.d no).2.2.1, (poolFlush c.fs c.l c.d no).2.2.2, downIf (poolFlush c.fs c.l c.d no).1 c.down⟩) := by unfold Cor.flush; rw [if_neg (by rw [c6]; decide), Cor.is_eq]
    rw [hw]
    refine TT.skip (.seq (.seq (.region (.pures hT 4 rfl (.load rfl rfl (Ld.one hT rfl hz rfl) rfl ?_)))))
    refine OT.pures hT 1 rfl (.call Tryz.call34 rfl rfl rfl rfl (Fun.weaken (hs' := HP :: HL :: HD :: [(b, blk [.pointer (some ⟨bw, 0, none⟩), .pointer (some ⟨bq, 0, none⟩), .bool c.down] 66 (0, 0))] :: r) sl (buf_Flush hP hL hd (by omega) (by omega))) ?_)
    rintro v_13 hs_13 ⟨HP1, HL1, HD1, rfl, rfl, hP1, hL1, hd1⟩
    refine OT.call Tryz.call32 rfl rfl rfl rfl (Fun.pull pl (core_is)) ?_
    rintro v_14 hs_14 ⟨rfl, rfl⟩
    refine OT.pures hT 1 rfl (.nil (.seq (.ret (.of (rs := [.tmp 4]) [_] (([(b, blk [.pointer (some ⟨bw, 0, none⟩), .pointer (some ⟨bq, 0, none⟩), .bool (downIf (poolFlush c.fs c.l c.d no).1 c.down)] 66 (0, 0))] ++ (HP1 ++ HL1)) :: HD1 :: r) rfl (.tmp rfl .nil) sl ?_))))
    dsimp only [one]
    exact ⟨_, _, rfl, rfl, ⟨⟨b, _, _, _, _, rfl, hP1, hL1, rfl⟩⟩, hd1⟩

set_option maxHeartbeats 2000000 in
set_option maxRecDepth 100000 in
theorem core_Force {p pd : Value} {c : Cor} {H HD : Chunk} {r : List Chunk} (hc : IsCor 5 2 125 97 109 100 106 66 p pd c H) (hd : IsDev 83 69 pd c.d HD) (hb : c.down = false → c.fine) : Fun Tryz.prog 18 [p] (H :: HD :: r) (fun v' hs' => ∃ H' HD', hs' = H' :: HD' :: r ∧ v' = .int .i64 c.force.1 ∧ IsCor 5 2 125 97 109 100 106 66 p pd c.force.2 H' ∧ IsDev 83 69 pd c.force.2.d HD') := by
  refine Fun.enter 17 Tryz.func18 rfl Tryz.ntmps18 rfl ?_
  obtain ⟨b, pw, pp, HP, HL, hpp, hP, hL, hH⟩ := hc.is
  subst hpp
  subst hH
  obtain ⟨bw, hpw⟩ := hL.ptr
  obtain ⟨bq, _, _, _, hpq, _⟩ := hP.is
  subst hpw
  subst hpq
  refine TT.perm perm3 (.seq (.region (.pures hT 1 rfl (.nil (.seq (.seq (.seq (.region (.pures hT 1 rfl (.call Tryz.call14 rfl rfl rfl rfl (core_Down) ?_))))))))))
  rintro v_4 hs_4 ⟨rfl, rfl⟩
  refine OT.nil (.seq (.cond rfl (fun c4 => ?_) (fun c4 => ?_)))
  ·
    have hw : c.force = (5, c) := by unfold Cor.force; rw [if_pos c4]
    rw [hw]
    refine TT.seq (.region (.pures hT 1 rfl (.nil (.seq (.ret (.of (rs := [.tmp 2]) [_] (([(b, blk [.pointer (some ⟨bw, 0, none⟩), .pointer (some ⟨bq, 0, none⟩), .bool c.down] 66 (0, 0))] ++ (HP ++ HL)) :: HD :: r) rfl (.tmp rfl .nil) sl ?_))))))
    dsimp only [one]
    exact ⟨_, _, rfl, rfl, ⟨⟨b, _, _, _, _, rfl, hP, hL, rfl⟩⟩, hd⟩
  ·
    obtain ⟨hb1, hb2, hb3⟩ := hb c4
    have hw : c.force = ((c.l.force c.d (c.l.end_ : Nat)).2.2, ⟨c.fs, (c.l.force c.d (c.l.end_ : Nat)).1, (c.l.force c.d (c.l.end_ : Nat)).2.1, downIf (c.l.force c.d (c.l.end_ : Nat)).2.2 c.down⟩) := by unfold Cor.force; rw [if_neg (by rw [c4]; decide), Cor.is_eq]
    rw [hw]
    refine TT.skip (.seq (.seq (.draw (r) mixed (.takes (fuel := 6) hT [0, 1, 2, 3, 5, 6, 7] kr kr rfl (.all (fuel := 5) [4, 8] kr (by decide) sl ?_)))))
    intro i hi
    simp only [List.mem_cons, List.not_mem_nil, or_false] at hi
    rcases hi with rfl | rfl
    ·
      refine ⟨_, rfl, ?_⟩
      refine OT.load rfl rfl (Ld.one hT rfl hz rfl) rfl ?_
      refine OT.nil (.any (.op (fuel := 4) 8 kr rfl sl (.load rfl rfl (Ld.one hT rfl hz rfl) rfl ?_)))
      refine OT.nil (.any (.op (fuel := 3) 9 kr rfl sl (.call Tryz.call41 rfl rfl rfl rfl (Fun.pull pl (wal_End hL)) ?_)))
      rintro v_14 hs_14 ⟨rfl, rfl⟩
      refine OT.nil (.any (.op (fuel := 2) 10 kr rfl sl (.call Tryz.call40 rfl rfl rfl rfl (Fun.weaken (hs' := HL :: HD :: HP :: [(b, blk [.pointer (some ⟨bw, 0, none⟩), .pointer (some ⟨bq, 0, none⟩), .bool c.down] 66 (0, 0))] :: r) sl (wal_Force hL hd (by omega))) ?_)))
      rintro v_15 hs_15 ⟨HL1, HD1, rfl, rfl, hL1, hd1⟩
      refine OT.nil (.any (.op (fuel := 1) 11 kr rfl sl (.call Tryz.call32 rfl rfl rfl rfl (Fun.pull pl (core_is)) ?_)))
      rintro v_16 hs_16 ⟨rfl, rfl⟩
      refine OT.nil (.any (.takes (fuel := 0) hT [12] kr kr rfl (.done kr sl (.seq (.ret (.of (rs := [.tmp 2]) [_] (([(b, blk [.pointer (some ⟨bw, 0, none⟩), .pointer (some ⟨bq, 0, none⟩), .bool (downIf (c.l.force c.d (c.l.end_ : Nat)).2.2 c.down)] 66 (0, 0))] ++ (HP ++ HL1)) :: HD1 :: r) rfl (.tmp rfl .nil) sl ?_))))))
      dsimp only [one]
      exact ⟨_, _, rfl, rfl, ⟨⟨b, _, _, _, _, rfl, hP, hL1, rfl⟩⟩, hd1⟩
    ·
      refine ⟨_, rfl, ?_⟩
      refine OT.load rfl rfl (Ld.one hT rfl hz rfl) rfl ?_
      refine OT.nil (.any (.all (fuel := 4) [4, 9] kr (by decide) sl ?_))
      intro i hi
      simp only [List.mem_cons, List.not_mem_nil, or_false] at hi
      rcases hi with rfl | rfl
      ·
        refine ⟨_, rfl, ?_⟩
        refine OT.load rfl rfl (Ld.one hT rfl hz rfl) rfl ?_
        refine OT.nil (.any (.op (fuel := 3) 9 kr rfl sl (.call Tryz.call41 rfl rfl rfl rfl (Fun.pull pl (wal_End hL)) ?_)))
        rintro v_14 hs_14 ⟨rfl, rfl⟩
        refine OT.nil (.any (.op (fuel := 2) 10 kr rfl sl (.call Tryz.call40 rfl rfl rfl rfl (Fun.weaken (hs' := HL :: HD :: HP :: [(b, blk [.pointer (some ⟨bw, 0, none⟩), .pointer (some ⟨bq, 0, none⟩), .bool c.down] 66 (0, 0))] :: r) sl (wal_Force hL hd (by omega))) ?_)))
        rintro v_15 hs_15 ⟨HL1, HD1, rfl, rfl, hL1, hd1⟩
        refine OT.nil (.any (.op (fuel := 1) 11 kr rfl sl (.call Tryz.call32 rfl rfl rfl rfl (Fun.pull pl (core_is)) ?_)))
        rintro v_16 hs_16 ⟨rfl, rfl⟩
        refine OT.nil (.any (.takes (fuel := 0) hT [12] kr kr rfl (.done kr sl (.seq (.ret (.of (rs := [.tmp 2]) [_] (([(b, blk [.pointer (some ⟨bw, 0, none⟩), .pointer (some ⟨bq, 0, none⟩), .bool (downIf (c.l.force c.d (c.l.end_ : Nat)).2.2 c.down)] 66 (0, 0))] ++ (HP ++ HL1)) :: HD1 :: r) rfl (.tmp rfl .nil) sl ?_))))))
        dsimp only [one]
        exact ⟨_, _, rfl, rfl, ⟨⟨b, _, _, _, _, rfl, hP, hL1, rfl⟩⟩, hd1⟩
      ·
        refine ⟨_, rfl, ?_⟩
        refine OT.call Tryz.call41 rfl rfl rfl rfl (Fun.pull pl (wal_End hL)) ?_
        rintro v_14 hs_14 ⟨rfl, rfl⟩
        refine OT.nil (.any (.op (fuel := 3) 4 kr rfl sl (.load rfl rfl (Ld.one hT rfl hz rfl) rfl ?_)))
        refine OT.nil (.any (.op (fuel := 2) 10 kr rfl sl (.call Tryz.call40 rfl rfl rfl rfl (Fun.weaken (hs' := HL :: HD :: HP :: [(b, blk [.pointer (some ⟨bw, 0, none⟩), .pointer (some ⟨bq, 0, none⟩), .bool c.down] 66 (0, 0))] :: r) sl (wal_Force hL hd (by omega))) ?_)))
        rintro v_15 hs_15 ⟨HL1, HD1, rfl, rfl, hL1, hd1⟩
        refine OT.nil (.any (.op (fuel := 1) 11 kr rfl sl (.call Tryz.call32 rfl rfl rfl rfl (Fun.pull pl (core_is)) ?_)))
        rintro v_16 hs_16 ⟨rfl, rfl⟩
        refine OT.nil (.any (.takes (fuel := 0) hT [12] kr kr rfl (.done kr sl (.seq (.ret (.of (rs := [.tmp 2]) [_] (([(b, blk [.pointer (some ⟨bw, 0, none⟩), .pointer (some ⟨bq, 0, none⟩), .bool (downIf (c.l.force c.d (c.l.end_ : Nat)).2.2 c.down)] 66 (0, 0))] ++ (HP ++ HL1)) :: HD1 :: r) rfl (.tmp rfl .nil) sl ?_))))))
        dsimp only [one]
        exact ⟨_, _, rfl, rfl, ⟨⟨b, _, _, _, _, rfl, hP, hL1, rfl⟩⟩, hd1⟩

set_option maxHeartbeats 2000000 in
set_option maxRecDepth 100000 in
theorem core_Check {p pd : Value} {c : Cor} {H HD : Chunk} {r : List Chunk} (hc : IsCor 5 2 125 97 109 100 106 66 p pd c H) (hd : IsDev 83 69 pd c.d HD) (hb : c.down = false → c.fine) (hcut : c.down = false → CutOk c) : Fun Tryz.prog 11 [p] (H :: HD :: r) (fun v' hs' => ∃ H' HD', hs' = H' :: HD' :: r ∧ v' = .int .i64 c.check.1 ∧ IsCor 5 2 125 97 109 100 106 66 p pd c.check.2 H' ∧ IsDev 83 69 pd c.check.2.d HD') := by
  refine Fun.enter 23 Tryz.func11 rfl Tryz.ntmps11 rfl ?_
  obtain ⟨b, pw, pp, HP, HL, hpp, hP, hL, hH⟩ := hc.is
  subst hpp
  subst hH
  obtain ⟨bw, hpw⟩ := hL.ptr
  obtain ⟨bq, _, _, _, hpq, _⟩ := hP.is
  subst hpw
  subst hpq
  refine TT.perm perm3 (.seq (.region (.pures hT 1 rfl (.nil (.seq (.seq (.seq (.region (.pures hT 1 rfl (.call Tryz.call14 rfl rfl rfl rfl (core_Down) ?_))))))))))
  rintro v_5 hs_5 ⟨rfl, rfl⟩
  refine OT.nil (.seq (.cond rfl (fun c5 => ?_) (fun c5 => ?_)))
  ·
    have hw : c.check = (5, c) := by unfold Cor.check; rw [if_pos c5]
    rw [hw]
    refine TT.seq (.region (.pures hT 1 rfl (.nil (.seq (.ret (.of (rs := [.tmp 2]) [_] (([(b, blk [.pointer (some ⟨bw, 0, none⟩), .pointer (some ⟨bq, 0, none⟩), .bool c.down] 66 (0, 0))] ++ (HP ++ HL)) :: HD :: r) rfl (.tmp rfl .nil) sl ?_))))))
    dsimp only [one]
    exact ⟨_, _, rfl, rfl, ⟨⟨b, _, _, _, _, rfl, hP, hL, rfl⟩⟩, hd⟩
  ·
    obtain ⟨hb1, hb2, hb3⟩ := hb c5
    have htn := poolClean_turn c.fs (dirtyAt 0 c.fs) c.l c.d
    refine TT.skip (.seq (.seq (.seq (.region (.pures hT 3 rfl (.load rfl rfl (Ld.one hT rfl hz rfl) rfl ?_))))))
    refine OT.call Tryz.call35 rfl rfl rfl rfl (Fun.weaken (hs' := HP :: HL :: HD :: [(b, blk [.pointer (some ⟨bw, 0, none⟩), .pointer (some ⟨bq, 0, none⟩), .bool c.down] 66 (0, 0))] :: r) sl (buf_All hP hL hd (by omega) (by omega))) ?_
    rintro v_10 hs_10 ⟨HP1, HL1, HD1, rfl, rfl, hP1, hL1, hd1⟩
    refine OT.pures hT 1 rfl (.nil (.seq (.seq (.region (.pures hT 2 rfl (.nil (.seq (.cond rfl (fun c12 => ?_) (fun c12 => ?_)))))))))
    ·
      have c12 : (poolAll c.fs c.l c.d).1 ≠ 0 := by simpa using c12
      have hw : c.check = ((poolAll c.fs c.l c.d).1, ⟨(poolAll c.fs c.l c.d).2.1, (poolAll c.fs c.l c.d).2.2.1, (poolAll c.fs c.l c.d).2.2.2, downIf (poolAll c.fs c.l c.d).1 c.down⟩) := by unfold Cor.check; rw [if_neg (by rw [c5]; decide), if_pos c12, Cor.is_eq]
      rw [hw]
      refine TT.seq (.region (.pures hT 2 rfl (.call Tryz.call32 rfl rfl rfl rfl (Fun.pull pl (core_is)) ?_)))
      rintro v_15 hs_15 ⟨rfl, rfl⟩
      refine OT.pures hT 1 rfl (.nil (.seq (.ret (.of (rs := [.tmp 2]) [_] (([(b, blk [.pointer (some ⟨bw, 0, none⟩), .pointer (some ⟨bq, 0, none⟩), .bool (downIf (poolAll c.fs c.l c.d).1 c.down)] 66 (0, 0))] ++ (HP1 ++ HL1)) :: HD1 :: r) rfl (.tmp rfl .nil) sl ?_))))
      dsimp only [one]
      exact ⟨_, _, rfl, rfl, ⟨⟨b, _, _, _, _, rfl, hP1, hL1, rfl⟩⟩, hd1⟩
    ·
      have c12 : (poolAll c.fs c.l c.d).1 = 0 := by simpa using c12
      have hlk := hcut c5 c12
      have hw : c.check = ((logCut (poolAll c.fs c.l c.d).2.2.1 (poolAll c.fs c.l c.d).2.2.2).2.2, ⟨(poolAll c.fs c.l c.d).2.1, (logCut (poolAll c.fs c.l c.d).2.2.1 (poolAll c.fs c.l c.d).2.2.2).1, (logCut (poolAll c.fs c.l c.d).2.2.1 (poolAll c.fs c.l c.d).2.2.2).2.1, downIf (logCut (poolAll c.fs c.l c.d).2.2.1 (poolAll c.fs c.l c.d).2.2.2).2.2 c.down⟩) := by unfold Cor.check; rw [if_neg (by rw [c5]; decide), if_neg (by omega), Cor.is_eq]
      rw [hw]
      refine TT.skip (.seq (.seq (.region (.pures hT 4 rfl (.load rfl rfl (Ld.one hT rfl hz rfl) rfl ?_)))))
      refine OT.call Tryz.call36 rfl rfl rfl rfl (Fun.weaken (hs' := HL1 :: HD1 :: HP1 :: [(b, blk [.pointer (some ⟨bw, 0, none⟩), .pointer (some ⟨bq, 0, none⟩), .bool c.down] 66 (0, 0))] :: r) sl (wal_Cut hL1 hd1 (by show (poolClean c.fs (dirtyAt 0 c.fs) c.l c.d).2.1.sup.turn + 1 ≤ _; omega) hlk)) ?_
      rintro v_21 hs_21 ⟨HL2, HD2, rfl, rfl, hL2, hd2⟩
      refine OT.call Tryz.call32 rfl rfl rfl rfl (Fun.pull pl (core_is)) ?_
      rintro v_22 hs_22 ⟨rfl, rfl⟩
      refine OT.pures hT 1 rfl (.nil (.seq (.ret (.of (rs := [.tmp 2]) [_] (([(b, blk [.pointer (some ⟨bw, 0, none⟩), .pointer (some ⟨bq, 0, none⟩), .bool (downIf (logCut (poolAll c.fs c.l c.d).2.2.1 (poolAll c.fs c.l c.d).2.2.2).2.2 c.down)] 66 (0, 0))] ++ (HP1 ++ HL2)) :: HD2 :: r) rfl (.tmp rfl .nil) sl ?_))))
      dsimp only [one]
      exact ⟨_, _, rfl, rfl, ⟨⟨b, _, _, _, _, rfl, hP1, hL2, rfl⟩⟩, hd2⟩

end Go.Proofs.YtoalhcodigpgkaaGreatDoor.Sx
end

section
namespace Go.Proofs.YtoalhcodigpgkaaGreatDoor.Sx
open Go Go.Sx Go.Pl
variable [Outer]

set_option maxHeartbeats 8000000 in
set_option maxRecDepth 100000 in
theorem core_Apply {p pd : Value} {c : Cor} {H HD : Chunk} {r : List Chunk} (hc : IsCor 5 2 125 97 109 100 106 66 p pd c H) (hd : IsDev 83 69 pd c.d HD) (hb : c.down = false → c.fine) (hcut : c.down = false → CutOk c) {v : Value} {ts : List Im} (hi : ImsAt r v ts) : Fun Tryz.prog 8 [p, v] (H :: HD :: r) (fun v' hs' => ∃ H' HD', hs' = H' :: HD' :: r ∧ v' = .int .i64 (c.apply (imgs ts)).1 ∧ IsCor 5 2 125 97 109 100 106 66 p pd (c.apply (imgs ts)).2 H' ∧ IsDev 83 69 pd (c.apply (imgs ts)).2.d HD') := by
  refine Fun.enter 70 Tryz.func8 rfl Tryz.ntmps8 rfl ?_
  obtain ⟨a0, c0, hv⟩ := hi.row.len
  subst hv
  obtain ⟨b, pw, pp, HP, HL, hpp, hP, hL, hH⟩ := hc.is
  subst hpp
  subst hH
  obtain ⟨bw, hpw⟩ := hL.ptr
  obtain ⟨bq, _, _, _, hpq, _⟩ := hP.is
  subst hpw
  subst hpq
  refine TT.perm perm3 (.seq (.region (.pures hT 1 rfl (.nil (.seq (.seq (.seq (.region (.pures hT 1 rfl (.call Tryz.call14 rfl rfl rfl rfl (core_Down) ?_))))))))))
  rintro v_14 hs_14 ⟨rfl, rfl⟩
  refine OT.nil (.seq (.cond rfl (fun c14 => ?_) (fun c14 => ?_)))
  ·
    have hw : c.apply (imgs ts) = (5, c) := by unfold Cor.apply; rw [if_pos c14]
    rw [hw]
    refine TT.seq (.region (.pures hT 1 rfl (.nil (.seq (.ret (.of (rs := [.tmp 4]) [_] (([(b, blk [.pointer (some ⟨bw, 0, none⟩), .pointer (some ⟨bq, 0, none⟩), .bool c.down] 66 (0, 0))] ++ (HP ++ HL)) :: HD :: r) rfl (.tmp rfl .nil) sl ?_))))))
    dsimp only [one]
    exact ⟨_, _, rfl, rfl, ⟨⟨b, _, _, _, _, rfl, hP, hL, rfl⟩⟩, hd⟩
  ·
    obtain ⟨hb1, hb2, hb3⟩ := hb c14
    have c14' : ¬ c.down = true := by rw [show c.down = false from c14]; decide
    refine TT.skip (.seq (.seq (.seq (.region (.pures hT 1 rfl (.call Tryz.call28 rfl rfl rfl rfl (chg_May hi.there.there.there.there) ?_))))))
    rintro v_16 hs_16 ⟨rfl, rfl⟩
    refine OT.pures hT 1 rfl (.nil (.seq (.cond rfl (fun c17 => ?_) (fun c17 => ?_))))
    ·
      have c17 : ¬ MayImgs (imgs ts) := of_decide_eq_false (by rw [Bool.not_eq_true'] at c17; exact c17)
      have hw : c.apply (imgs ts) = (1, c) := by unfold Cor.apply; rw [if_neg c14', if_pos c17]
      rw [hw]
      refine TT.seq (.region (.pures hT 1 rfl (.nil (.seq (.ret (.of (rs := [.tmp 4]) [_] (([(b, blk [.pointer (some ⟨bw, 0, none⟩), .pointer (some ⟨bq, 0, none⟩), .bool c.down] 66 (0, 0))] ++ (HP ++ HL)) :: HD :: r) rfl (.tmp rfl .nil) sl ?_))))))
      dsimp only [one]
      exact ⟨_, _, rfl, rfl, ⟨⟨b, _, _, _, _, rfl, hP, hL, rfl⟩⟩, hd⟩
    ·
      have c17 : MayImgs (imgs ts) := of_decide_eq_true (by rw [Bool.not_eq_false'] at c17; exact c17)
      have h96 := c17.few
      rw [imgs_length] at h96
      obtain ⟨el1, el2⟩ := encImgs_length c17
      refine TT.skip (.seq (.seq (.region (.pures hT 1 rfl (.call Tryz.call29 rfl rfl rfl rfl (chg_Encode hi.there.there.there.there c17) ?_)))))
      rintro v_19 hs_19 ⟨HE, rfl, hoE, hoe⟩
      obtain ⟨ae, ce, hve⟩ := (hoE.row (hs := r)).len
      subst hve
      refine OT.pures hT 1 rfl (.nil (.seq (.cut (ι := Cor × Nat × Nat × Chunk × Chunk × Chunk) (fun j => (c.roomFor (encImgs (imgs ts)).length) = (0, (j.1)) ∧ IsPool 5 109 100 106 (.pointer (some ⟨(j.2.2.1), 0, none⟩)) pd (.pointer (some ⟨(j.2.1), 0, none⟩)) (j.1).fs (j.2.2.2.1) ∧ IsLog 5 2 125 97 (.pointer (some ⟨(j.2.1), 0, none⟩)) pd (j.1).l (j.2.2.2.2.1) ∧ IsDev 83 69 pd (j.1).d (j.2.2.2.2.2) ∧ (j.1).fs.length ≤ 1000 ∧ (j.1).l.sup.turn ≤ 4611686018000000004 ∧ (j.1).l.end_ ≤ 1152921504600000000) (fun j => [(0, .pointer (some ⟨b, 0, none⟩)), (1, .slice a0 ts.length c0), (5, .slice ae (encImgs (imgs ts)).length ce)]) (fun j => [(b, blk [.pointer (some ⟨(j.2.1), 0, none⟩), .pointer (some ⟨(j.2.2.1), 0, none⟩), .bool (j.1).down] 66 (0, 0))] :: (j.2.2.2.1) :: (j.2.2.2.2.1) :: (j.2.2.2.2.2) :: HE :: r) ?_ ?_)))
      ·
        refine TT.seq (.region (.pures hT 3 rfl (.load rfl rfl (Ld.one hT rfl hz rfl) rfl ?_)))
        refine OT.pures hT 2 rfl (.call Tryz.call30 rfl rfl rfl rfl (Fun.pull pl (wal_Fits hL (by omega))) ?_)
        rintro v_26 hs_26 ⟨rfl, rfl⟩
        refine OT.pures hT 1 rfl (.nil (.seq (.cond rfl (fun c27 => ?_) (fun c27 => ?_))))
        ·
          have c27 : ¬ c.l.fits (encImgs (imgs ts)).length := of_decide_eq_false (by rw [Bool.not_eq_true'] at c27; exact c27)
          have hrf : (c.roomFor (encImgs (imgs ts)).length) = c.check := by unfold Cor.roomFor; rw [if_neg c27]
          refine TT.seq (.region (.pures hT 1 rfl (.call Tryz.call11 rfl rfl rfl rfl (Fun.weaken (hs' := ([(b, blk [.pointer (some ⟨bw, 0, none⟩), .pointer (some ⟨bq, 0, none⟩), .bool c.down] 66 (0, 0))] ++ (HP ++ HL)) :: HD :: HE :: r) sl (core_Check ⟨⟨b, _, _, _, _, rfl, hP, hL, rfl⟩⟩ hd (fun _ => ⟨by omega, by omega, by omega⟩) hcut)) ?_)))
          rintro v_29 hs_29 ⟨H1, HD1, rfl, rfl, hc1, hd1⟩
          refine OT.pures hT 1 rfl (.nil (.seq (.seq (.region (.pures hT 2 rfl (.nil (.seq (.cond rfl (fun c31 => ?_) (fun c31 => ?_)))))))))
          ·
            have c31 : c.check.1 ≠ 0 := by simpa using c31
            have hw : c.apply (imgs ts) = c.check := by unfold Cor.apply; rw [if_neg c14', if_neg (by simpa using c17), hrf, if_pos c31]
            rw [hw]
            refine TT.seq (.region (.pures hT 2 rfl (.nil (.seq (.ret (.of (rs := [.tmp 4]) [_] (H1 :: HD1 :: r) rfl (.tmp rfl .nil) sl ?_))))))
            dsimp only [one]
            exact ⟨_, _, rfl, rfl, hc1, hd1⟩
          ·
            have c31 : c.check.1 = 0 := by simpa using c31
            obtain ⟨b', pw', pp', HP1, HL1, hpp1, hP1, hL1, hH1⟩ := hc1.is
            obtain rfl : b = b' := by injection hpp1 with e; injection e with e; injection e
            obtain ⟨bw1, hpw1⟩ := hL1.ptr
            obtain ⟨bq1, _, _, _, hpq1, _⟩ := hP1.is
            subst hpw1
            subst hpq1
            obtain ⟨hg1, hg2, hg3⟩ := check_grow c
            subst hH1
            refine TT.skip (.perm perm3 (.cut (c.check.2, bw1, bq1, HP1, HL1, HD1) ?_ (SubR.cons rfl (SubR.cons rfl (SubR.cons rfl (SubR.nil _)))) sl))
            · dsimp only
              exact ⟨by rw [hrf]; exact Prod.ext c31 rfl, hP1, hL1, hd1, by omega, by omega, by omega⟩
        ·
          have c27 : c.l.fits (encImgs (imgs ts)).length := of_decide_eq_true (by rw [Bool.not_eq_false'] at c27; exact c27)
          have hrf : (c.roomFor (encImgs (imgs ts)).length) = (0, c) := by unfold Cor.roomFor; rw [if_pos c27]
          refine TT.skip (.cut (c, bw, bq, HP, HL, HD) ?_ (SubR.cons rfl (SubR.cons rfl (SubR.cons rfl (SubR.nil _)))) sl)
          · dsimp only
            exact ⟨hrf, hP, hL, hd, by omega, by omega, by omega⟩
      ·
        rintro ⟨c1, bw1, bq1, HP1, HL1, HD1⟩ hI
        dsimp only at hI
        obtain ⟨hrf, hP1, hL1, hd1, hf1, ht1, he1⟩ := hI
        show TT _ _ _ [(0, .pointer (some ⟨b, 0, none⟩)), (1, .slice a0 ts.length c0), (5, .slice ae (encImgs (imgs ts)).length ce)] ([(b, blk [.pointer (some ⟨bw1, 0, none⟩), .pointer (some ⟨bq1, 0, none⟩), .bool c1.down] 66 (0, 0))] :: HP1 :: HL1 :: HD1 :: HE :: r)
        have hw : c.apply (imgs ts) = c1.add (imgs ts) := by unfold Cor.apply; rw [if_neg c14', if_neg (by simpa using c17), hrf]; rfl
        rw [hw]
        refine TT.seq (.region (.pures hT 3 rfl (.load rfl rfl (Ld.one hT rfl hz rfl) rfl ?_)))
        refine OT.pures hT 1 rfl (.call Tryz.call31 rfl rfl rfl rfl (Fun.weaken (hs' := HL1 :: HE :: [(b, blk [.pointer (some ⟨bw1, 0, none⟩), .pointer (some ⟨bq1, 0, none⟩), .bool c1.down] 66 (0, 0))] :: HP1 :: HD1 :: r) sl (wal_Append hL1 hoE.row (by omega) (by omega))) ?_)
        rintro v_39 hs_39 ⟨HL2, rfl, rfl, hL2⟩
        refine OT.pures hT 5 rfl (.nil (.seq (.seq (.seq (.region (.pures hT 2 rfl (.nil (.seq (.cond rfl (fun c43 => ?_) (fun c43 => ?_))))))))))
        ·
          have c43 : (c1.l.append (encImgs (imgs ts))).2.2 ≠ 0 := by simpa using c43
          have hw2 : c1.add (imgs ts) = ((c1.l.append (encImgs (imgs ts))).2.2, ⟨c1.fs, (c1.l.append (encImgs (imgs ts))).1, c1.d, downIf (c1.l.append (encImgs (imgs ts))).2.2 c1.down⟩) := by unfold Cor.add; rw [if_pos c43, Cor.is_eq]
          rw [hw2]
          refine TT.seq (.region (.pures hT 2 rfl (.call Tryz.call32 rfl rfl rfl rfl (Fun.pull pl (core_is)) ?_)))
          rintro v_46 hs_46 ⟨rfl, rfl⟩
          refine OT.pures hT 1 rfl (.nil (.seq (.ret (.of (rs := [.tmp 4]) [_] (([(b, blk [.pointer (some ⟨bw1, 0, none⟩), .pointer (some ⟨bq1, 0, none⟩), .bool (downIf (c1.l.append (encImgs (imgs ts))).2.2 c1.down)] 66 (0, 0))] ++ (HP1 ++ HL2)) :: HD1 :: r) rfl (.tmp rfl .nil) sl ?_))))
          dsimp only [one]
          exact ⟨_, _, rfl, rfl, ⟨⟨b, _, _, _, _, rfl, hP1, hL2, rfl⟩⟩, hd1⟩
        ·
          have c43 : (c1.l.append (encImgs (imgs ts))).2.2 = 0 := by simpa using c43
          have hw2 : c1.add (imgs ts) = ((putAll (c1.l.append (encImgs (imgs ts))).2.1 (imgs ts) 0 c1.fs (c1.l.append (encImgs (imgs ts))).1 c1.d).1, ⟨(putAll (c1.l.append (encImgs (imgs ts))).2.1 (imgs ts) 0 c1.fs (c1.l.append (encImgs (imgs ts))).1 c1.d).2.1, (putAll (c1.l.append (encImgs (imgs ts))).2.1 (imgs ts) 0 c1.fs (c1.l.append (encImgs (imgs ts))).1 c1.d).2.2.1, (putAll (c1.l.append (encImgs (imgs ts))).2.1 (imgs ts) 0 c1.fs (c1.l.append (encImgs (imgs ts))).1 c1.d).2.2.2, downIf (putAll (c1.l.append (encImgs (imgs ts))).2.1 (imgs ts) 0 c1.fs (c1.l.append (encImgs (imgs ts))).1 c1.d).1 c1.down⟩) := by unfold Cor.add; rw [if_neg (by omega), Cor.is_eq]
          rw [hw2]
          have hapt : (c1.l.append (encImgs (imgs ts))).1.sup.turn = c1.l.sup.turn := by rw [append_sup]
          refine TT.skip (.seq (.seq (.region (.pures hT 1 rfl (.nil (.seq (.seq (.seq (.region (.pures hT 3 rfl (.nil (.seq (.block (.loop (ι := Nat × Int × (List Fr) × Log × Dev × Chunk × Chunk × Chunk) (fun j => (j.1) ≤ ts.length ∧ (putAll (c1.l.append (encImgs (imgs ts))).2.1 ((imgs ts).drop (j.1)) (j.2.1) (j.2.2.1) (j.2.2.2.1) (j.2.2.2.2.1)) = (putAll (c1.l.append (encImgs (imgs ts))).2.1 (imgs ts) 0 c1.fs (c1.l.append (encImgs (imgs ts))).1 c1.d) ∧ IsPool 5 109 100 106 (.pointer (some ⟨bq1, 0, none⟩)) pd (.pointer (some ⟨bw1, 0, none⟩)) (j.2.2.1) (j.2.2.2.2.2.1) ∧ IsLog 5 2 125 97 (.pointer (some ⟨bw1, 0, none⟩)) pd (j.2.2.2.1) (j.2.2.2.2.2.2.1) ∧ IsDev 83 69 pd (j.2.2.2.2.1) (j.2.2.2.2.2.2.2) ∧ (j.2.2.1).length ≤ c1.fs.length + (j.1) ∧ (j.2.2.2.1).sup.turn ≤ c1.l.sup.turn + (j.1) * 1200) (fun j => ts.length - (j.1)) (fun j => [(0, .pointer (some ⟨b, 0, none⟩)), (7, .int .i64 (c1.l.append (encImgs (imgs ts))).2.1), (9, .int .i64 (j.2.1)), (47, .slice a0 ts.length c0), (48, .int .i64 ts.length), (49, .int .i64 ((j.1) : Nat))]) (fun j => [(b, blk [.pointer (some ⟨bw1, 0, none⟩), .pointer (some ⟨bq1, 0, none⟩), .bool c1.down] 66 (0, 0))] :: (j.2.2.2.2.2.1) :: (j.2.2.2.2.2.2.1) :: (j.2.2.2.2.2.2.2) :: r) (0, 0, c1.fs, (c1.l.append (encImgs (imgs ts))).1, c1.d, HP1, HL2, HD1) ?_ (SubR.cons rfl (SubR.cons rfl (SubR.cons rfl (SubR.cons rfl (SubR.cons rfl (SubR.cons rfl (SubR.nil _))))))) sl ?_))))))))))))))
          · dsimp only
            exact ⟨by omega, by rw [List.drop_zero], hP1, hL2, hd1, by omega, by omega⟩
          rintro ⟨i, bad, fs, l, d, HP3, HL3, HD3⟩ hI
          dsimp only at hI
          obtain ⟨hin, hpa, hP3, hL3, hd3, hf3, ht3⟩ := hI
          show TT _ _ _ [(0, .pointer (some ⟨b, 0, none⟩)), (7, .int .i64 (c1.l.append (encImgs (imgs ts))).2.1), (9, .int .i64 bad), (47, .slice a0 ts.length c0), (48, .int .i64 ts.length), (49, .int .i64 (i : Nat))] ([(b, blk [.pointer (some ⟨bw1, 0, none⟩), .pointer (some ⟨bq1, 0, none⟩), .bool c1.down] 66 (0, 0))] :: HP3 :: HL3 :: HD3 :: r)
          refine TT.seq (.region (.pures hT 1 rfl (.nil (.seq (.seq (.cond rfl (fun c50 => ?_) (fun c50 => ?_)))))))
          ·
            have c50 := of_decide_eq_true c50
            obtain ⟨t, ht⟩ := nth (l := ts) (i := i) (by omega)
            have hit := imgs_at ht
            have hmem := List.mem_of_getElem? ht
            obtain ⟨ab, cb, hvb⟩ := (hi.each t hmem).len
            have hbl : t.b.length = 256 := (c17.2.1 _ (List.mem_of_getElem? hit)).2
            obtain ⟨hg1, hg2⟩ := poolPut_grow fs l d t.no t.b (c1.l.append (encImgs (imgs ts))).2.1
            rw [drop_cons hit, putAll] at hpa
            refine TT.skip (.seq (.seq (.block (.seq (.region (.index hT rfl rfl rfl rfl hi.row.there.there.there.there (by omega) ht rfl (fun ad_51 hel_51 => ?_)))))))
            refine OT.load rfl rfl (hel_51.ld_struct hT rfl) rfl (.alloc Tryz.zeroValue36 rfl rfl (fun b_11 => ?_))
            refine OT.store_all hT rfl rfl rfl rfl pl rfl rfl (by show ones (encIm t) = true; unfold encIm; rw [hvb]; rfl) (.inl (Nat.le_refl _)) ?_
            refine OT.nil (.seq (.seq (.draw ([(b_11, blk (encIm t) 36 (0, 0))] :: [(b, blk [.pointer (some ⟨bw1, 0, none⟩), .pointer (some ⟨bq1, 0, none⟩), .bool c1.down] 66 (0, 0))] :: r) mixed (.takes (fuel := 5) hT [0, 1, 2, 4, 6, 8] kr kr rfl (.take (fuel := 4) hT 3 rfl rfl kr kr kr rfl (.load rfl (Ld.one hT rfl hz rfl)) rfl ?_)))))
            refine AT.take (fuel := 3) hT 5 rfl rfl kr kr kr rfl (.load rfl (Ld.one hT rfl hz rfl)) rfl ?_
            refine AT.take (fuel := 2) hT 7 rfl rfl kr kr kr rfl (.load rfl (Ld.slc hT rfl Has.one (show (encIm t)[1]? = some (Value.slice ab t.b.length cb) by unfold encIm; rw [hvb]; rfl))) rfl (.op (fuel := 1) 9 kr rfl sl (.call Tryz.call33 rfl rfl rfl rfl (Fun.weaken (hs' := HP3 :: HL3 :: HD3 :: [(b_11, blk (encIm t) 36 (0, 0))] :: [(b, blk [.pointer (some ⟨bw1, 0, none⟩), .pointer (some ⟨bq1, 0, none⟩), .bool c1.down] 66 (0, 0))] :: r) sl (buf_Put hP3 hL3 hd3 (by omega) (by omega) (hvb ▸ (hi.each t hmem).there.there) (by omega))) ?_))
            rintro v_62 hs_62 ⟨HP4, HL4, HD4, rfl, rfl, hP4, hL4, hd4⟩
            refine OT.nil (.any (.takes (fuel := 0) hT [10] kr kr rfl (.done kr sl (.seq (.seq (.region (.pures hT 2 rfl (.nil (.seq (.cond rfl (fun c64 => ?_) (fun c64 => ?_)))))))))))
            ·
              have c64 : (poolPut fs l d t.no t.b (c1.l.append (encImgs (imgs ts))).2.1).1 ≠ 0 := by simpa using c64
              rw [show t.img.1 = t.no from rfl, show t.img.2 = t.b from rfl, if_pos c64] at hpa
              refine TT.region (.pures hT 2 rfl (.nil (.blk (.seq (.region (.pures hT 2 rfl (.nil (.loop (i + 1, (poolPut fs l d t.no t.b (c1.l.append (encImgs (imgs ts))).2.1).1, (poolPut fs l d t.no t.b (c1.l.append (encImgs (imgs ts))).2.1).2.1, (poolPut fs l d t.no t.b (c1.l.append (encImgs (imgs ts))).2.1).2.2.1, (poolPut fs l d t.no t.b (c1.l.append (encImgs (imgs ts))).2.1).2.2.2, HP4, HL4, HD4) ?_ ?_ (SubR.cons rfl (SubR.cons rfl (SubR.cons rfl (SubR.cons rfl (SubR.cons rfl (SubR.cons' rfl (by (try dsimp only); exact (int_eq (by rw [wrap_i64 (by omega) (by omega)]; omega))) (SubR.nil _))))))) sl))))))))
              · dsimp only
                exact ⟨by omega, hpa, hP4, hL4, hd4, by omega, by omega⟩
              · dsimp only
                omega
            ·
              have c64 : (poolPut fs l d t.no t.b (c1.l.append (encImgs (imgs ts))).2.1).1 = 0 := by simpa using c64
              rw [show t.img.1 = t.no from rfl, show t.img.2 = t.b from rfl, if_neg (by omega)] at hpa
              refine TT.skip (.blk (.seq (.region (.pures hT 2 rfl (.nil (.loop (i + 1, bad, (poolPut fs l d t.no t.b (c1.l.append (encImgs (imgs ts))).2.1).2.1, (poolPut fs l d t.no t.b (c1.l.append (encImgs (imgs ts))).2.1).2.2.1, (poolPut fs l d t.no t.b (c1.l.append (encImgs (imgs ts))).2.1).2.2.2, HP4, HL4, HD4) ?_ ?_ (SubR.cons rfl (SubR.cons rfl (SubR.cons rfl (SubR.cons rfl (SubR.cons rfl (SubR.cons' rfl (by (try dsimp only); exact (int_eq (by rw [wrap_i64 (by omega) (by omega)]; omega))) (SubR.nil _))))))) sl))))))
              · dsimp only
                exact ⟨by omega, hpa, hP4, hL4, hd4, by omega, by omega⟩
              · dsimp only
                omega
          ·
            have c50 := of_decide_eq_false c50
            obtain rfl : i = ts.length := by omega
            rw [List.drop_eq_nil_of_le (by rw [imgs_length]; omega), putAll] at hpa
            rw [← hpa]
            refine TT.exit (.seq (.loop (.here (.seq (.seq (.region (.pures hT 2 rfl (.call Tryz.call32 rfl rfl rfl rfl (Fun.pull pl (core_is)) ?_))))))))
            rintro v_69 hs_69 ⟨rfl, rfl⟩
            refine OT.pures hT 1 rfl (.nil (.seq (.ret (.of (rs := [.tmp 4]) [_] (([(b, blk [.pointer (some ⟨bw1, 0, none⟩), .pointer (some ⟨bq1, 0, none⟩), .bool (downIf bad c1.down)] 66 (0, 0))] ++ (HP3 ++ HL3)) :: HD3 :: r) rfl (.tmp rfl .nil) sl ?_))))
            dsimp only [one]
            exact ⟨_, _, rfl, rfl, ⟨⟨b, _, _, _, _, rfl, hP3, hL3, rfl⟩⟩, hd3⟩

set_option maxHeartbeats 8000000 in
set_option maxRecDepth 100000 in
theorem core_Open {p : Value} {d : Dev} {H : Chunk} {r : List Chunk} (hd : IsDev 83 69 p d H) {s : Sup} {base end_ : Nat} {rss : List (List Img)} (ho : Opens d s base end_ (recs rss)) (hv : ∀ l ∈ rss, MayImgs l) (hturn : s.turn ≤ 4611686010000000000) (hfew : rss.flatten.length ≤ 65536) (hcut : (replay rss.flatten [] (openLog d s base end_) d).1 = 0 → CutOk ⟨(replay rss.flatten [] (openLog d s base end_) d).2.1, (replay rss.flatten [] (openLog d s base end_) d).2.2.1, (replay rss.flatten [] (openLog d s base end_) d).2.2.2, false⟩) (hen : end_ ≤ 1152921504600000000) : Fun Tryz.prog 21 [p] (H :: r) (fun v' hs' => ∃ q HC HD', hs' = HC :: HD' :: r ∧ v' = .tuple ⟨[q, .int .i64 (corOpen d s base end_ rss.flatten).1]⟩ ∧ IsDev 83 69 p (corOpen d s base end_ rss.flatten).2.d HD' ∧ ((corOpen d s base end_ rss.flatten).1 = 0 → IsCor 5 2 125 97 109 100 106 66 q p (corOpen d s base end_ rss.flatten).2 HC) ∧ ((corOpen d s base end_ rss.flatten).1 ≠ 0 → q = .pointer none)) := by
  refine Fun.enter 70 Tryz.func21 rfl Tryz.ntmps21 rfl ?_
  obtain ⟨bd, hpd⟩ := hd.ptr
  subst hpd
  refine TT.seq (.region (.pures hT 2 rfl (.nil (.seq (.seq (.region (.pures hT 1 rfl (.call Tryz.call43 rfl rfl rfl rfl (wal_Open hd ho) ?_))))))))
  rintro v_18 hs_18 ⟨q, wr, HL, HR, rfl, rfl, hl, hrows⟩
  obtain ⟨rt, hrm, hrr⟩ := hrows.at
  obtain ⟨ar, cr, hwr⟩ := (hrr r).1.len
  subst hwr
  have hrl : rt.length = rss.length := by rw [← recs_length rss, ← hrm, List.length_map]
  have hrn : (rt.map (·.1)).length = rss.length := by rw [List.length_map]; exact hrl
  obtain ⟨bw1, hq1⟩ := hl.ptr
  subst hq1
  have hrfew : rss.length ≤ 65536 := by have := recs_few hv; omega
  refine OT.pures hT 7 rfl (.nil (.seq (.seq (.seq (.region (.pures hT 2 rfl (.nil (.seq (.cond rfl (fun c23 => ?_) (fun c23 => ?_))))))))))
  ·
    exact absurd c23 (by decide)
  ·
    refine TT.skip (.seq (.seq (.region (.pures hT 3 rfl (.call Tryz.call27 rfl rfl rfl rfl (buf_New) ?_)))))
    rintro v_28 hs_28 ⟨HP, rfl, hp⟩
    obtain ⟨bq1, _, _, _, hpq, _⟩ := hp.is
    subst hpq
    refine OT.build (cs := [.pointer (some ⟨bw1, 0, none⟩), .pointer (some ⟨bq1, 0, none⟩), .bool false]) hT rfl Tryz.zeroValue66 rfl rfl rfl rfl (.box rfl rfl rfl (fun b_30 => ?_))
    refine OT.pures hT 1 rfl (.nil (.seq (.seq (.seq (.region (.pures hT 3 rfl (.nil (.seq (.block (.loop (ι := Nat × (List Fr) × Log × Dev × Chunk × Chunk × Chunk) (fun j => (j.1) ≤ rss.length ∧ (replay ((rss.drop (j.1)).flatten) (j.2.1) (j.2.2.1) (j.2.2.2.1)) = (replay rss.flatten [] (openLog d s base end_) d) ∧ (j.2.2.1).sup.turn + (rss.drop (j.1)).flatten.length ≤ s.turn + rss.flatten.length ∧ IsPool 5 109 100 106 (.pointer (some ⟨bq1, 0, none⟩)) (.pointer (some ⟨bd, 0, none⟩)) (.pointer (some ⟨bw1, 0, none⟩)) (j.2.1) (j.2.2.2.2.1) ∧ IsLog 5 2 125 97 (.pointer (some ⟨bw1, 0, none⟩)) (.pointer (some ⟨bd, 0, none⟩)) (j.2.2.1) (j.2.2.2.2.2.1) ∧ IsDev 83 69 (.pointer (some ⟨bd, 0, none⟩)) (j.2.2.2.1) (j.2.2.2.2.2.2) ∧ (j.2.1).length ≤ 6 ∧ (j.2.2.1).end_ = end_) (fun j => rss.length - (j.1)) (fun j => [(7, .pointer (some ⟨b_30, 0, none⟩)), (31, .slice ar (rt.map (·.1)).length cr), (32, .int .i64 (rt.map (·.1)).length), (33, .int .i64 ((j.1) : Nat))]) (fun j => [(b_30, blk [.pointer (some ⟨bw1, 0, none⟩), .pointer (some ⟨bq1, 0, none⟩), .bool false] 66 (0, 0))] :: (j.2.2.2.2.1) :: (j.2.2.2.2.2.1) :: (j.2.2.2.2.2.2) :: HR :: r) (0, [], openLog d s base end_, d, HP, HL, H) ?_ (SubR.cons rfl (SubR.cons rfl (SubR.cons rfl (SubR.cons rfl (SubR.nil _))))) sl ?_))))))))))
    · dsimp only
      exact ⟨by omega, by rw [List.drop_zero], by rw [List.drop_zero]; exact Nat.le_refl _, hp, hl, hd, by simp, rfl⟩
    rintro ⟨k, fs, l, dd, HP3, HL3, HD3⟩ hI
    dsimp only at hI
    obtain ⟨hk, hre, htn, hP3, hL3, hd3, hf3, he3⟩ := hI
    show TT _ _ _ [(7, .pointer (some ⟨b_30, 0, none⟩)), (31, .slice ar (rt.map (·.1)).length cr), (32, .int .i64 (rt.map (·.1)).length), (33, .int .i64 (k : Nat))] ([(b_30, blk [.pointer (some ⟨bw1, 0, none⟩), .pointer (some ⟨bq1, 0, none⟩), .bool false] 66 (0, 0))] :: HP3 :: HL3 :: HD3 :: HR :: r)
    refine TT.seq (.region (.pures hT 1 rfl (.nil (.seq (.seq (.cond rfl (fun c34 => ?_) (fun c34 => ?_)))))))
    ·
      have c34 := of_decide_eq_true c34
      obtain ⟨lk, hlk⟩ := nth (l := rss) (i := k) (by omega)
      obtain ⟨w, hw⟩ := nth (l := rt) (i := k) (by omega)
      have hvk := hv lk (List.mem_of_getElem? hlk)
      have hwm := (hrr r).2 w (List.mem_of_getElem? hw)
      have hwb : w.2 = encImgs lk := by
        have h1 : (rt.map (·.2))[k]? = some w.2 := by rw [List.getElem?_map, hw]; rfl
        have h2 : (recs rss)[k]? = some (encImgs lk) := by unfold recs; rw [List.getElem?_map, hlk]; rfl
        rw [hrm, h2] at h1
        exact (Option.some.inj h1).symm
      have hwk : (rt.map (·.1))[k]? = some w.1 := by rw [List.getElem?_map, hw]; rfl
      rw [drop_cons hlk, List.flatten_cons] at hre htn
      rw [hwb] at hwm
      obtain ⟨aw, cw, hwv⟩ := hwm.len
      refine TT.skip (.seq (.seq (.block (.seq (.region (.index hT rfl rfl rfl rfl (hrr r).1.there.there.there.there (by omega) hwk rfl (fun ad_35 hel_35 => ?_)))))))
      refine OT.load rfl rfl (hel_35.ld_slc hT rfl rfl) rfl (.reg 36 rfl (v := .slice aw (encImgs lk).length cw) hwv (.pures hT 1 rfl (.nil (.seq (.seq (.region (.pures hT 1 rfl (.call Tryz.call44 rfl rfl rfl rfl (chg_Decode (hwv ▸ hwm.there.there.there.there) hvk) ?_))))))))
      rintro v_39 hs_39 ⟨wd, ts, HI, rfl, rfl, hoI, hts⟩
      have h96 := hvk.few
      have htl : ts.length = lk.length := by rw [← imgs_length, hts]
      have hA : ts.length ≤ 9223372036854775807 := by omega
      have hB : ∀ t ∈ ts, t.b.length ≤ 9223372036854775807 := fun t ht => by
        have h : t.img ∈ imgs ts := List.mem_map.2 ⟨t, ht, rfl⟩
        rw [hts] at h
        have : t.b.length = 256 := (hvk.2.1 _ h).2
        omega
      obtain ⟨ai, ci, hiv⟩ := (hoI.at (hs := r) hA hB).row.len
      subst hiv
      refine OT.pures hT 5 rfl (.nil (.seq (.seq (.seq (.region (.pures hT 2 rfl (.nil (.seq (.cond rfl (fun c43 => ?_) (fun c43 => ?_))))))))))
      ·
        exact absurd c43 (by decide)
      ·
        refine TT.skip (.seq (.seq (.region (.pures hT 3 rfl (.nil (.seq (.block (.loop (ι := Nat × (List Fr) × Log × Dev × Chunk × Chunk × Chunk) (fun j => (j.1) ≤ ts.length ∧ (replay (lk.drop (j.1) ++ (rss.drop (k + 1)).flatten) (j.2.1) (j.2.2.1) (j.2.2.2.1)) = (replay rss.flatten [] (openLog d s base end_) d) ∧ (j.2.2.1).sup.turn + (lk.drop (j.1) ++ (rss.drop (k + 1)).flatten).length ≤ s.turn + rss.flatten.length ∧ IsPool 5 109 100 106 (.pointer (some ⟨bq1, 0, none⟩)) (.pointer (some ⟨bd, 0, none⟩)) (.pointer (some ⟨bw1, 0, none⟩)) (j.2.1) (j.2.2.2.2.1) ∧ IsLog 5 2 125 97 (.pointer (some ⟨bw1, 0, none⟩)) (.pointer (some ⟨bd, 0, none⟩)) (j.2.2.1) (j.2.2.2.2.2.1) ∧ IsDev 83 69 (.pointer (some ⟨bd, 0, none⟩)) (j.2.2.2.1) (j.2.2.2.2.2.2) ∧ (j.2.1).length ≤ 6 ∧ (j.2.2.1).end_ = end_) (fun j => ts.length - (j.1)) (fun j => [(7, .pointer (some ⟨b_30, 0, none⟩)), (31, .slice ar (rt.map (·.1)).length cr), (32, .int .i64 (rt.map (·.1)).length), (33, .int .i64 (k : Nat)), (44, .slice ai ts.length ci), (45, .int .i64 ts.length), (46, .int .i64 ((j.1) : Nat))]) (fun j => HI :: [(b_30, blk [.pointer (some ⟨bw1, 0, none⟩), .pointer (some ⟨bq1, 0, none⟩), .bool false] 66 (0, 0))] :: (j.2.2.2.2.1) :: (j.2.2.2.2.2.1) :: (j.2.2.2.2.2.2) :: HR :: r) (0, fs, l, dd, HP3, HL3, HD3) ?_ (SubR.cons rfl (SubR.cons rfl (SubR.cons rfl (SubR.cons rfl (SubR.cons rfl (SubR.cons rfl (SubR.cons rfl (SubR.nil _)))))))) sl ?_))))))))
        · dsimp only
          exact ⟨by omega, by rw [List.drop_zero]; exact hre, by rw [List.drop_zero]; exact htn, hP3, hL3, hd3, hf3, he3⟩
        rintro ⟨i, fs, l, dd, HP3, HL3, HD3⟩ hI
        dsimp only at hI
        obtain ⟨hin, hre, htn, hP3, hL3, hd3, hf3, he3⟩ := hI
        show TT _ _ _ [(7, .pointer (some ⟨b_30, 0, none⟩)), (31, .slice ar (rt.map (·.1)).length cr), (32, .int .i64 (rt.map (·.1)).length), (33, .int .i64 (k : Nat)), (44, .slice ai ts.length ci), (45, .int .i64 ts.length), (46, .int .i64 (i : Nat))] (HI :: [(b_30, blk [.pointer (some ⟨bw1, 0, none⟩), .pointer (some ⟨bq1, 0, none⟩), .bool false] 66 (0, 0))] :: HP3 :: HL3 :: HD3 :: HR :: r)
        refine TT.seq (.region (.pures hT 1 rfl (.nil (.seq (.seq (.cond rfl (fun c47 => ?_) (fun c47 => ?_)))))))
        ·
          have c47 := of_decide_eq_true c47
          obtain ⟨t, ht⟩ := nth (l := ts) (i := i) (by omega)
          have hit := imgs_at ht
          rw [hts] at hit
          have hmem := List.mem_of_getElem? ht
          obtain ⟨ab, cb, hvb⟩ := ((hoI.at (hs := r) hA hB).each t hmem).len
          have hbl : t.b.length = 256 := (hvk.2.1 _ (List.mem_of_getElem? hit)).2
          obtain ⟨hg1, hg2⟩ := poolPut_grow fs l dd t.no t.b 0
          have hg3 := poolPut_end fs l dd t.no t.b 0
          rw [drop_cons hit, List.cons_append, replay, show t.img.1 = t.no from rfl, show t.img.2 = t.b from rfl] at hre
          rw [drop_cons hit, List.cons_append, List.length_cons] at htn
          refine TT.skip (.seq (.seq (.block (.seq (.region (.index hT rfl rfl rfl rfl (hoI.at hA hB).row (by omega) ht rfl (fun ad_48 hel_48 => ?_)))))))
          refine OT.load rfl rfl (hel_48.ld_struct hT rfl) rfl (.alloc Tryz.zeroValue36 rfl rfl (fun b_13 => ?_))
          refine OT.store_all hT rfl rfl rfl rfl pl rfl rfl (by show ones (encIm t) = true; unfold encIm; rw [hvb]; rfl) (.inl (Nat.le_refl _)) ?_
          refine OT.nil (.seq (.seq (.draw ([(b_13, blk (encIm t) 36 (0, 0))] :: [(b_30, blk [.pointer (some ⟨bw1, 0, none⟩), .pointer (some ⟨bq1, 0, none⟩), .bool false] 66 (0, 0))] :: r) mixed (.takes (fuel := 5) hT [0, 1, 2, 4, 6] kr kr rfl (.take (fuel := 4) hT 3 rfl rfl kr kr kr rfl (.load rfl (Ld.one hT rfl hz rfl)) rfl ?_)))))
          refine AT.take (fuel := 3) hT 5 rfl rfl kr kr kr rfl (.load rfl (Ld.one hT rfl hz rfl)) rfl ?_
          refine AT.take (fuel := 2) hT 7 rfl rfl kr kr kr rfl (.load rfl (Ld.slc hT rfl Has.one (show (encIm t)[1]? = some (Value.slice ab t.b.length cb) by unfold encIm; rw [hvb]; rfl))) rfl (.op (fuel := 1) 8 kr rfl sl (.call Tryz.call33 rfl rfl rfl rfl (Fun.weaken (hs' := HP3 :: HL3 :: HD3 :: HI :: [(b_13, blk (encIm t) 36 (0, 0))] :: [(b_30, blk [.pointer (some ⟨bw1, 0, none⟩), .pointer (some ⟨bq1, 0, none⟩), .bool false] 66 (0, 0))] :: HR :: r) sl (buf_Put hP3 hL3 hd3 (by omega) (by omega) (hvb ▸ ((hoI.at hA hB).each t hmem)) (by omega))) ?_))
          rintro v_58 hs_58 ⟨HP4, HL4, HD4, rfl, rfl, hP4, hL4, hd4⟩
          refine OT.nil (.any (.takes (fuel := 0) hT [9] kr kr rfl (.done kr sl (.seq (.seq (.region (.pures hT 2 rfl (.nil (.seq (.cond rfl (fun c60 => ?_) (fun c60 => ?_)))))))))))
          ·
            have c60 : (poolPut fs l dd t.no t.b 0).1 ≠ 0 := by simpa using c60
            rw [if_pos c60] at hre
            have hw : (corOpen d s base end_ rss.flatten) = ((poolPut fs l dd t.no t.b 0).1, ⟨(poolPut fs l dd t.no t.b 0).2.1, (poolPut fs l dd t.no t.b 0).2.2.1, (poolPut fs l dd t.no t.b 0).2.2.2, true⟩) := by unfold corOpen; rw [← hre, if_pos c60]
            rw [hw]
            refine TT.seq (.region (.pures hT 3 rfl (.nil (.seq (.ret (.of (rs := [.tmp 2, .tmp 3]) [_, _] ([] :: HD4 :: r) rfl (.tmp rfl (.tmp rfl .nil)) sl ?_))))))
            dsimp only [one]
            exact ⟨_, _, _, rfl, rfl, hd4, fun h => absurd h c60, fun _ => rfl⟩
          ·
            have c60 : (poolPut fs l dd t.no t.b 0).1 = 0 := by simpa using c60
            rw [if_neg (by omega)] at hre
            have hg4 := poolPut_six c60 hf3
            have hg5 := poolPut_turn6 fs l dd t.no t.b 0 hf3
            refine TT.skip (.blk (.seq (.region (.pures hT 2 rfl (.nil (.loop (i + 1, (poolPut fs l dd t.no t.b 0).2.1, (poolPut fs l dd t.no t.b 0).2.2.1, (poolPut fs l dd t.no t.b 0).2.2.2, HP4, HL4, HD4) ?_ ?_ (SubR.cons rfl (SubR.cons rfl (SubR.cons rfl (SubR.cons rfl (SubR.cons rfl (SubR.cons rfl (SubR.cons' rfl (by (try dsimp only); exact (int_eq (by rw [wrap_i64 (by omega) (by omega)]; omega))) (SubR.nil _)))))))) sl))))))
            · dsimp only
              exact ⟨by omega, hre, by omega, hP4, hL4, hd4, hg4, by omega⟩
            · dsimp only
              omega
        ·
          have c47 := of_decide_eq_false c47
          obtain rfl : i = ts.length := by omega
          rw [List.drop_eq_nil_of_le (by omega), List.nil_append] at hre htn
          refine TT.exit (.seq (.loop (.here (.blk (.seq (.region (.pures hT 2 rfl (.nil (.loop (k + 1, fs, l, dd, HP3, HL3, HD3) ?_ ?_ (SubR.cons rfl (SubR.cons rfl (SubR.cons rfl (SubR.cons' rfl (by (try dsimp only); exact (int_eq (by rw [wrap_i64 (by omega) (by omega)]; omega))) (SubR.nil _))))) sl)))))))))
          · dsimp only
            exact ⟨by omega, hre, htn, hP3, hL3, hd3, hf3, he3⟩
          · dsimp only
            omega
    ·
      have c34 := of_decide_eq_false c34
      obtain rfl : k = rss.length := by omega
      rw [List.drop_length] at hre
      rw [show ([] : List (List Img)).flatten = [] from rfl, replay] at hre
      have hcut' : CutOk ⟨fs, l, dd, false⟩ := by have h := hcut (by rw [← hre]); rw [← hre] at h; exact h
      have hw : (corOpen d s base end_ rss.flatten) = Cor.check ⟨fs, l, dd, false⟩ := by unfold corOpen; rw [← hre, if_neg (by simp)]
      rw [hw]
      refine TT.exit (.seq (.loop (.here (.seq (.seq (.seq (.region (.pures hT 1 rfl (.call Tryz.call11 rfl rfl rfl rfl (Fun.weaken (hs' := ([(b_30, blk [.pointer (some ⟨bw1, 0, none⟩), .pointer (some ⟨bq1, 0, none⟩), .bool false] 66 (0, 0))] ++ (HP3 ++ HL3)) :: HD3 :: HR :: r) sl (core_Check (c := ⟨fs, l, dd, false⟩) ⟨⟨b_30, _, _, _, _, rfl, hP3, hL3, rfl⟩⟩ hd3 (fun _ => ⟨by dsimp only; omega, by dsimp only; omega, by dsimp only; omega⟩) (fun _ => hcut'))) ?_)))))))))
      rintro v_65 hs_65 ⟨H1, HD1, rfl, rfl, hc1, hd1⟩
      refine OT.pures hT 1 rfl (.nil (.seq (.seq (.region (.pures hT 2 rfl (.nil (.seq (.cond rfl (fun c67 => ?_) (fun c67 => ?_)))))))))
      ·
        have c67 : (Cor.check ⟨fs, l, dd, false⟩).1 ≠ 0 := by simpa using c67
        refine TT.seq (.region (.pures hT 3 rfl (.nil (.seq (.ret (.of (rs := [.tmp 2, .tmp 3]) [_, _] ([] :: HD1 :: r) rfl (.tmp rfl (.tmp rfl .nil)) sl ?_))))))
        dsimp only [one]
        exact ⟨_, _, _, rfl, rfl, hd1, fun h => absurd h c67, fun _ => rfl⟩
      ·
        have c67 : (Cor.check ⟨fs, l, dd, false⟩).1 = 0 := by simpa using c67
        refine TT.skip (.seq (.seq (.region (.pures hT 3 rfl (.nil (.seq (.ret (.of (rs := [.tmp 2, .tmp 3]) [_, _] (H1 :: HD1 :: r) rfl (.tmp rfl (.tmp rfl .nil)) sl ?_))))))))
        dsimp only [one]
        exact ⟨_, _, _, rfl, by rw [c67], hd1, fun _ => hc1, fun h => absurd c67 h⟩

set_option maxHeartbeats 4000000 in
set_option maxRecDepth 100000 in
theorem core_Make {p : Value} {d d2 : Dev} {l : Log} {H : Chunk} {r : List Chunk} (hd : IsDev 83 69 p d H) (hfree : Free d) (hm : logMake (mkPages d 96).flush.1 = (some l, d2, 0)) : Fun Tryz.prog 6 [p] (H :: r) (fun v' hs' => ∃ q HC HD', hs' = HC :: HD' :: r ∧ v' = .tuple ⟨[q, .int .i64 0]⟩ ∧ IsCor 5 2 125 97 109 100 106 66 q p ⟨[], l, d2, false⟩ HC ∧ IsDev 83 69 p d2 HD') := by
  refine Fun.enter 42 Tryz.func6 rfl Tryz.ntmps6 rfl ?_
  have hlen := hfree.len
  obtain ⟨bd, hpd⟩ := hd.ptr
  subst hpd
  refine TT.seq (.region (.pures hT 2 rfl (.nil (.seq (.seq (.seq (.region (.pures hT 1 rfl (.call Tryz.call23 rfl rfl rfl rfl (dev_Len hd) ?_)))))))))
  rintro v_10 hs_10 ⟨rfl, rfl⟩
  refine OT.pures hT 1 rfl (.nil (.seq (.cond rfl (fun c11 => ?_) (fun c11 => ?_))))
  ·
    exact absurd (of_decide_eq_true c11) (by omega)
  ·
    refine TT.skip (.seq (.seq (.seq (.region (.pures hT 1 rfl (.nil (.seq (.block (.loop (ι := Nat × Chunk) (fun j => (j.1) ≤ 96 ∧ IsDev 83 69 (.pointer (some ⟨bd, 0, none⟩)) (mkPages d (j.1)) (j.2)) (fun j => 96 - (j.1)) (fun j => [(0, .pointer (some ⟨bd, 0, none⟩)), (12, .int .i64 ((j.1) : Nat))]) (fun j => (j.2) :: r) (0, H) ?_ (SubR.cons rfl (SubR.cons rfl (SubR.nil _))) sl ?_)))))))))
    · dsimp only
      exact ⟨by omega, hd⟩
    rintro ⟨k, HD3⟩ hI
    dsimp only at hI
    obtain ⟨hk, hd3⟩ := hI
    show TT _ _ _ [(0, .pointer (some ⟨bd, 0, none⟩)), (12, .int .i64 (k : Nat))] (HD3 :: r)
    refine TT.seq (.region (.pures hT 1 rfl (.nil (.seq (.seq (.cond rfl (fun c13 => ?_) (fun c13 => ?_)))))))
    ·
      have c13 := of_decide_eq_true c13
      have hf3 := mkPages_free hfree k (by omega)
      obtain ⟨hwp, _⟩ := writePage_free hf3 (no := (k : Nat)) ⟨by omega, by omega⟩ (b := noughts 256) (noughts_length _)
      refine TT.skip (.seq (.seq (.block (.seq (.region (.pures hT 2 rfl (.nil (.seq (.seq (.region (.pures hT 2 rfl ?_)))))))))))
      refine OT.make (enc := Go.Sx.encB) (z0 := (0 : UInt8)) (n := 256) el33 Tryz.zeroValue5 rfl rfl rfl rfl rfl (by omega) rfl (fun v_17 H_17 ho_17 => ?_)
      refine OT.call Tryz.call24 rfl rfl rfl rfl (Fun.pull pl (page_Write (bs := noughts 256) hd3 ho_17.row)) ?_
      rintro v_18 hs_18 ⟨HD4, rfl, rfl, hd4⟩
      rw [hwp]
      refine OT.pures hT 1 rfl (.nil (.seq (.seq (.region (.pures hT 2 rfl (.nil (.seq (.cond rfl (fun c20 => ?_) (fun c20 => ?_)))))))))
      ·
        exact absurd c20 (by decide)
      ·
        refine TT.skip (.blk (.seq (.region (.pures hT 2 rfl (.nil (.loop (k + 1, HD4) ?_ ?_ (SubR.cons rfl (SubR.cons' rfl (by (try dsimp only); exact (int_eq (by rw [wrap_i64 (by omega) (by omega)]; omega))) (SubR.nil _))) sl))))))
        · dsimp only
          exact ⟨by omega, hd4⟩
        · dsimp only
          omega
    ·
      have c13 := of_decide_eq_false c13
      obtain rfl : k = 96 := by omega
      have hf3 := mkPages_free hfree 96 (by omega)
      have hfl := hf3.flush_err
      refine TT.exit (.seq (.loop (.here (.seq (.seq (.seq (.region (.pures hT 1 rfl (.call Tryz.call25 rfl rfl rfl rfl (dev_Flush hd3) ?_)))))))))
      rintro v_24 hs_24 ⟨HD4, rfl, rfl, hd4⟩
      rw [hfl]
      refine OT.pures hT 1 rfl (.nil (.seq (.seq (.region (.pures hT 2 rfl (.nil (.seq (.cond rfl (fun c26 => ?_) (fun c26 => ?_)))))))))
      ·
        exact absurd c26 (by decide)
      ·
        refine TT.skip (.seq (.seq (.region (.pures hT 1 rfl (.call Tryz.call26 rfl rfl rfl rfl (wal_Make hd4) ?_)))))
        rintro v_30 hs_30 ⟨q, HL, HD5, rfl, rfl, hopt, hd5⟩
        rw [hm] at hopt hd5 ⊢
        dsimp only at hopt hd5 ⊢
        have hl : IsLog 5 2 125 97 q (.pointer (some ⟨bd, 0, none⟩)) l HL := hopt
        obtain ⟨bw, hq⟩ := hl.ptr
        subst hq
        refine OT.pures hT 5 rfl (.nil (.seq (.seq (.seq (.region (.pures hT 2 rfl (.nil (.seq (.cond rfl (fun c34 => ?_) (fun c34 => ?_))))))))))
        ·
          exact absurd c34 (by decide)
        ·
          refine TT.skip (.seq (.seq (.region (.pures hT 3 rfl (.call Tryz.call27 rfl rfl rfl rfl (buf_New) ?_)))))
          rintro v_39 hs_39 ⟨HP, rfl, hp⟩
          obtain ⟨bq, _, _, _, hpq, _⟩ := hp.is
          subst hpq
          refine OT.build (cs := [.pointer (some ⟨bw, 0, none⟩), .pointer (some ⟨bq, 0, none⟩), .bool false]) hT rfl Tryz.zeroValue66 rfl rfl rfl rfl (.box rfl rfl rfl (fun b_41 => ?_))
          refine OT.pures hT 2 rfl (.nil (.seq (.ret (.of (rs := [.tmp 2, .tmp 3]) [_, _] (([(b_41, blk [.pointer (some ⟨bw, 0, none⟩), .pointer (some ⟨bq, 0, none⟩), .bool false] 66 (0, 0))] ++ (HP ++ HL)) :: HD5 :: r) rfl (.tmp rfl (.tmp rfl .nil)) sl ?_))))
          dsimp only [one]
          exact ⟨_, _, _, rfl, rfl, ⟨⟨b_41, _, _, _, _, rfl, hp, hl, rfl⟩⟩, hd5⟩

end Go.Proofs.YtoalhcodigpgkaaGreatDoor.Sx
end

section
namespace Go.Proofs.YtoalhcodigpgkaaGreatDoor.Sx
open Go Go.Sx Go.Pl
variable [Outer]

omit [Outer] in
/-- a core that is up -/
structure CoreAt (Can : Pages → Prop) (now : Pages) (n : Nat) (cm : Prop) (p pd : Value) (H HD : Chunk) : Prop where
  is : ∃ c, IsCor 5 2 125 97 109 100 106 66 p pd c H ∧ IsDev 83 69 pd c.d HD ∧ CorI Can now c n ∧ CalmIf cm c.d

omit [Outer] in
/-- a core that is down: its device is gone -/
structure DownAt (Can : Pages → Prop) (n : Nat) (p pd : Value) (H HD : Chunk) : Prop where
  is : ∃ c, IsCor 5 2 125 97 109 100 106 66 p pd c H ∧ IsDev 83 69 pd c.d HD ∧ c.down = true ∧ c.d.gone = true ∧ FallC Can c.d n

omit [Outer] in
/-- a device as a core left it -/
structure DevAt (Can : Pages → Prop) (n : Nat) (pd : Value) (HD : Chunk) : Prop where
  is : ∃ d, IsDev 83 69 pd d HD ∧ FallC Can d n

omit [Outer] in
/-- a device behind a crash, perhaps a fuse lit since -/
structure FreshAt (Can : Pages → Prop) (n : Nat) (cm : Prop) (pd : Value) (HD : Chunk) : Prop where
  is : ∃ d keep fu dd, IsDev 83 69 pd ⟨(d.crash keep).secs, fu, dd⟩ HD ∧ FallC Can d n ∧ (∀ m, fu = some m → m ≤ 9223372036854775807) ∧ (cm → fu = none ∧ dd = false)

section
variable {Can Can' : Pages → Prop} {now now' : Pages} {n n' : Nat} {cm cm' : Prop} {p pd : Value} {H HD : Chunk} {r : List Chunk}

omit [Outer] in
theorem CoreAt.ptr (h : CoreAt Can now n cm p pd H HD) : ∃ b, p = .pointer (some ⟨b, 0, none⟩) := by
  obtain ⟨c, h1, _⟩ := h.is; exact h1.ptr

omit [Outer] in
theorem CoreAt.dev_ptr (h : CoreAt Can now n cm p pd H HD) : ∃ b, pd = .pointer (some ⟨b, 0, none⟩) := by
  obtain ⟨c, _, h1, _⟩ := h.is; exact h1.ptr

omit [Outer] in
theorem CoreAt.mono (h : CoreAt Can now n cm p pd H HD) (hc : ∀ P, Can P → Can' P) (hn : n ≤ n') (hm : cm' → cm) : CoreAt Can' now n' cm' p pd H HD := by
  obtain ⟨c, h1, h2, h3, h4⟩ := h.is; exact ⟨c, h1, h2, h3.mono hc hn, fun x => h4 (hm x)⟩

omit [Outer] in
theorem CoreAt.eq (h : CoreAt Can now n cm p pd H HD) (he : EqP now now') : CoreAt Can now' n cm p pd H HD := by
  obtain ⟨c, h1, h2, h3, h4⟩ := h.is; exact ⟨c, h1, h2, h3.eq he, h4⟩

omit [Outer] in
theorem CoreAt.dev (h : CoreAt Can now n cm p pd H HD) : DevAt Can n pd HD := by
  obtain ⟨c, h1, h2, h3, h4⟩ := h.is; exact ⟨c.d, h2, h3.fall⟩

omit [Outer] in
theorem DownAt.dev (h : DownAt Can n p pd H HD) : DevAt Can n pd HD := by
  obtain ⟨c, h1, h2, h3, h4, h5⟩ := h.is; exact ⟨c.d, h2, h5⟩

omit [Outer] in
theorem DownAt.ptr (h : DownAt Can n p pd H HD) : ∃ b, p = .pointer (some ⟨b, 0, none⟩) := by
  obtain ⟨c, h1, _⟩ := h.is; exact h1.ptr

omit [Outer] in
theorem DownAt.mono (h : DownAt Can n p pd H HD) (hc : ∀ P, Can P → Can' P) (hn : n ≤ n') : DownAt Can' n' p pd H HD := by
  obtain ⟨c, h1, h2, h3, h4, h5⟩ := h.is; exact ⟨c, h1, h2, h3, h4, h5.mono hc hn⟩

omit [Outer] in
theorem DevAt.mono (h : DevAt Can n pd HD) (hc : ∀ P, Can P → Can' P) (hn : n ≤ n') : DevAt Can' n' pd HD := by
  obtain ⟨d, h1, h2⟩ := h.is; exact ⟨d, h1, h2.mono hc hn⟩

omit [Outer] in
theorem DevAt.ptr (h : DevAt Can n pd HD) : ∃ b, pd = .pointer (some ⟨b, 0, none⟩) := by
  obtain ⟨d, h1, _⟩ := h.is; exact h1.ptr

omit [Outer] in
theorem FreshAt.ptr (h : FreshAt Can n cm pd HD) : ∃ b, pd = .pointer (some ⟨b, 0, none⟩) := by
  obtain ⟨d, _, _, _, h1, _⟩ := h.is; exact h1.ptr

omit [Outer] in
theorem FreshAt.mono (h : FreshAt Can n cm pd HD) (hc : ∀ P, Can P → Can' P) (hn : n ≤ n') (hm : cm' → cm) : FreshAt Can' n' cm' pd HD := by
  obtain ⟨d, k, f, x, h1, h2, h3, h4⟩ := h.is; exact ⟨d, k, f, x, h1, h2.mono hc hn, h3, fun y => h4 (hm y)⟩

omit [Outer] in
theorem gone_not {c : Cor} (h : CalmIf cm c.d) (hg : c.d.gone = true) : ¬ cm := fun x => by have := (h x).gone; rw [hg] at this; cases this

theorem up_Page (h : CoreAt Can now n cm p pd H HD) (hn : n ≤ 100000000000) {no : Int} (hm : mayPage no) : Fun Tryz.prog 13 [p, .int .i64 no] (H :: HD :: r) (fun v' hs' => ∃ w e H1 H' HD', hs' = H1 :: H' :: HD' :: r ∧ v' = .tuple ⟨[w, .int .i64 e]⟩ ∧ ((e = 0 ∧ Own Go.Sx.encB 1 5 w (now no) H1 ∧ CoreAt Can now (n + 1) cm p pd H' HD') ∨ (e = 5 ∧ ¬ cm ∧ DownAt Can (n + 1) p pd H' HD'))) := by
  obtain ⟨c, h1, h2, h3, h4⟩ := h.is
  refine (core_Page h1 h2 (fun _ => h3.fine hn) (no := no)).mono ?_
  rintro v' hs' ⟨w, H1, H', HD', rfl, rfl, k1, k2, k3⟩
  refine ⟨w, _, H1, H', HD', rfl, rfl, ?_⟩
  have hk := (calmIf_kept cm).cpage c no h4
  obtain ⟨⟨e0, q⟩ | ⟨e5, q1, q2, q3⟩, hb⟩ := h3.page hn hm
  · exact .inl ⟨e0, by rw [← hb e0]; exact k1, ⟨_, k2, k3, q, hk⟩⟩
  · exact .inr ⟨e5, gone_not hk q2, ⟨_, k2, k3, q1, q2, q3⟩⟩

theorem up_PageNo (h : CoreAt Can now n cm p pd H HD) (hn : n ≤ 100000000000) {no : Int} (hm : ¬ mayPage no) : Fun Tryz.prog 13 [p, .int .i64 no] (H :: HD :: r) (fun v' hs' => ∃ w H1 H' HD', hs' = H1 :: H' :: HD' :: r ∧ v' = .tuple ⟨[w, .int .i64 3]⟩ ∧ CoreAt Can now n cm p pd H' HD') := by
  obtain ⟨c, h1, h2, h3, h4⟩ := h.is
  refine (core_Page h1 h2 (fun _ => h3.fine hn) (no := no)).mono ?_
  rintro v' hs' ⟨w, H1, H', HD', rfl, rfl, k1, k2, k3⟩
  rw [h3.page_no hm] at k1 k2 k3 ⊢
  exact ⟨w, H1, H', HD', rfl, rfl, ⟨c, k2, k3, h3, h4⟩⟩

theorem up_Apply (h : CoreAt Can now n cm p pd H HD) (hn : n < 100000000000) {v : Value} {ts : List Im} (hi : ImsAt r v ts) (hm : MayImgs (imgs ts)) : Fun Tryz.prog 8 [p, v] (H :: HD :: r) (fun v' hs' => ∃ e H' HD', hs' = H' :: HD' :: r ∧ v' = .int .i64 e ∧ ((e = 0 ∧ CoreAt (fun P => Can P ∨ EqP P (lay now (imgs ts))) (lay now (imgs ts)) (n + 2) cm p pd H' HD') ∨ (e = 5 ∧ ¬ cm ∧ DownAt (fun P => Can P ∨ EqP P (lay now (imgs ts))) (n + 2) p pd H' HD'))) := by
  obtain ⟨c, h1, h2, h3, h4⟩ := h.is
  refine (core_Apply h1 h2 (fun _ => h3.fine (by omega)) (fun _ => h3.cutOk (by omega)) hi).mono ?_
  rintro v' hs' ⟨H', HD', rfl, rfl, k2, k3⟩
  refine ⟨_, H', HD', rfl, rfl, ?_⟩
  have hk := (calmIf_kept cm).capply c (imgs ts) h4
  obtain ⟨e0, q⟩ | ⟨e5, q1, q2, q3⟩ := h3.apply hn hm
  · exact .inl ⟨e0, ⟨_, k2, k3, q, hk⟩⟩
  · exact .inr ⟨e5, gone_not hk q2, ⟨_, k2, k3, q1, q2, q3⟩⟩

theorem up_ApplyNo (h : CoreAt Can now n cm p pd H HD) (hn : n < 100000000000) {v : Value} {ts : List Im} (hi : ImsAt r v ts) (hm : ¬ MayImgs (imgs ts)) : Fun Tryz.prog 8 [p, v] (H :: HD :: r) (fun v' hs' => ∃ H' HD', hs' = H' :: HD' :: r ∧ v' = .int .i64 1 ∧ CoreAt Can now n cm p pd H' HD') := by
  obtain ⟨c, h1, h2, h3, h4⟩ := h.is
  refine (core_Apply h1 h2 (fun _ => h3.fine (by omega)) (fun _ => h3.cutOk (by omega)) hi).mono ?_
  rintro v' hs' ⟨H', HD', rfl, rfl, k2, k3⟩
  rw [h3.apply_no hm] at k2 k3 ⊢
  exact ⟨H', HD', rfl, rfl, ⟨c, k2, k3, h3, h4⟩⟩

theorem up_Force (h : CoreAt Can now n cm p pd H HD) (hn : n ≤ 100000000000) : Fun Tryz.prog 18 [p] (H :: HD :: r) (fun v' hs' => ∃ e H' HD', hs' = H' :: HD' :: r ∧ v' = .int .i64 e ∧ ((e = 0 ∧ CoreAt (fun P => EqP P now) now (n + 1) cm p pd H' HD') ∨ (e = 5 ∧ ¬ cm ∧ DownAt Can (n + 1) p pd H' HD'))) := by
  obtain ⟨c, h1, h2, h3, h4⟩ := h.is
  refine (core_Force h1 h2 (fun _ => h3.fine hn)).mono ?_
  rintro v' hs' ⟨H', HD', rfl, rfl, k2, k3⟩
  refine ⟨_, H', HD', rfl, rfl, ?_⟩
  have hk := (calmIf_kept cm).cforce c h4
  obtain ⟨e0, q⟩ | ⟨e5, q1, q2, q3⟩ := h3.force hn
  · exact .inl ⟨e0, ⟨_, k2, k3, q, hk⟩⟩
  · exact .inr ⟨e5, gone_not hk q2, ⟨_, k2, k3, q1, q2, q3⟩⟩

theorem up_Flush (h : CoreAt Can now n cm p pd H HD) (hn : n ≤ 100000000000) {no : Int} (hm : mayPage no) : Fun Tryz.prog 10 [p, .int .i64 no] (H :: HD :: r) (fun v' hs' => ∃ e H' HD', hs' = H' :: HD' :: r ∧ v' = .int .i64 e ∧ ((e = 0 ∧ CoreAt Can now (n + 1) cm p pd H' HD') ∨ (e = 5 ∧ ¬ cm ∧ DownAt Can (n + 1) p pd H' HD'))) := by
  obtain ⟨c, h1, h2, h3, h4⟩ := h.is
  refine (core_Flush h1 h2 (fun _ => h3.fine hn) (no := no)).mono ?_
  rintro v' hs' ⟨H', HD', rfl, rfl, k2, k3⟩
  refine ⟨_, H', HD', rfl, rfl, ?_⟩
  have hk := (calmIf_kept cm).cflush c no h4
  obtain ⟨e0, q⟩ | ⟨e5, q1, q2, q3⟩ := h3.flush hn hm
  · exact .inl ⟨e0, ⟨_, k2, k3, q, hk⟩⟩
  · exact .inr ⟨e5, gone_not hk q2, ⟨_, k2, k3, q1, q2, q3⟩⟩

theorem up_FlushNo (h : CoreAt Can now n cm p pd H HD) (hn : n ≤ 100000000000) {no : Int} (hm : ¬ mayPage no) : Fun Tryz.prog 10 [p, .int .i64 no] (H :: HD :: r) (fun v' hs' => ∃ H' HD', hs' = H' :: HD' :: r ∧ v' = .int .i64 3 ∧ CoreAt Can now n cm p pd H' HD') := by
  obtain ⟨c, h1, h2, h3, h4⟩ := h.is
  refine (core_Flush h1 h2 (fun _ => h3.fine hn) (no := no)).mono ?_
  rintro v' hs' ⟨H', HD', rfl, rfl, k2, k3⟩
  rw [h3.flush_no hm] at k2 k3 ⊢
  exact ⟨H', HD', rfl, rfl, ⟨c, k2, k3, h3, h4⟩⟩

theorem up_Check (h : CoreAt Can now n cm p pd H HD) (hn : n ≤ 100000000000) : Fun Tryz.prog 11 [p] (H :: HD :: r) (fun v' hs' => ∃ e H' HD', hs' = H' :: HD' :: r ∧ v' = .int .i64 e ∧ ((e = 0 ∧ CoreAt (fun P => EqP P now) now (n + 1) cm p pd H' HD') ∨ (e = 5 ∧ ¬ cm ∧ DownAt Can (n + 1) p pd H' HD'))) := by
  obtain ⟨c, h1, h2, h3, h4⟩ := h.is
  refine (core_Check h1 h2 (fun _ => h3.fine hn) (fun _ => h3.cutOk hn)).mono ?_
  rintro v' hs' ⟨H', HD', rfl, rfl, k2, k3⟩
  refine ⟨_, H', HD', rfl, rfl, ?_⟩
  have hk := (calmIf_kept cm).ccheck c h4
  obtain ⟨e0, q, _⟩ | ⟨e5, q1, q2, q3⟩ := h3.check hn
  · exact .inl ⟨e0, ⟨_, k2, k3, q, hk⟩⟩
  · exact .inr ⟨e5, gone_not hk q2, ⟨_, k2, k3, q1, q2, q3⟩⟩

theorem core_DownC {c : Cor} (hc : IsCor 5 2 125 97 109 100 106 66 p pd c H) : Fun Tryz.prog 14 [p] (H :: r) (fun v' hs' => v' = .bool c.down ∧ H :: r = hs') := by
  obtain ⟨b, pw, pp, HP, HL, rfl, h1, h2, rfl⟩ := hc.is
  refine (Fun.perm perm3 core_Down).repost ?_
  rintro v hs1 ⟨rfl, rfl⟩
  exact ⟨_, ⟨rfl, rfl⟩, perm3.symm⟩

theorem up_Down (h : CoreAt Can now n cm p pd H HD) : Fun Tryz.prog 14 [p] (H :: r) (fun v' hs' => v' = .bool false ∧ H :: r = hs') := by
  obtain ⟨c, h1, h2, h3, h4⟩ := h.is
  have := core_DownC (r := r) h1
  rw [h3.up] at this
  exact this

theorem dn_Down (h : DownAt Can n p pd H HD) : Fun Tryz.prog 14 [p] (H :: r) (fun v' hs' => v' = .bool true ∧ H :: r = hs') := by
  obtain ⟨c, h1, h2, h3, h4, h5⟩ := h.is
  have := core_DownC (r := r) h1
  rw [h3] at this
  exact this

theorem up_Crash (h : DevAt Can n pd HD) {kv : Value} {ks : List Bool} (hk : Row Go.Sx.encBool 1 r kv ks) : Fun Tryz.prog 20 [pd, kv] (HD :: r) (fun v' hs' => ∃ HX, hs' = HX :: HD :: r ∧ FreshAt Can n True v' HX) := by
  obtain ⟨d, h1, h2⟩ := h.is
  refine (dev_Crash h1 hk).mono ?_
  rintro v' hs' ⟨HX, rfl, hx⟩
  exact ⟨HX, rfl, ⟨d, ks, none, false, hx, h2, fun m hm => (by cases hm), fun _ => ⟨rfl, rfl⟩⟩⟩

theorem up_Fuse (h : CoreAt Can now n cm p pd H HD) {f : Int} (hf : f ≤ 9223372036854775807) : Fun Tryz.prog 19 [pd, .int .i64 f] (HD :: r) (fun v' hs' => ∃ HD', hs' = HD' :: r ∧ v' = .tuple ⟨[]⟩ ∧ CoreAt Can now n False p pd H HD') := by
  obtain ⟨c, h1, h2, h3, h4⟩ := h.is
  refine (dev_Fuse h2 hf).mono ?_
  rintro v' hs' ⟨HD', rfl, rfl, k⟩
  exact ⟨HD', rfl, rfl, ⟨{ c with d := c.d.light f }, ⟨h1.is⟩, k, h3.light hf, fun x => x.elim⟩⟩

theorem dn_Fuse (h : DownAt Can n p pd H HD) {f : Int} (hf : f ≤ 9223372036854775807) : Fun Tryz.prog 19 [pd, .int .i64 f] (HD :: r) (fun v' hs' => ∃ HD', hs' = HD' :: r ∧ v' = .tuple ⟨[]⟩ ∧ DownAt Can n p pd H HD') := by
  obtain ⟨c, h1, h2, h3, h4, h5⟩ := h.is
  refine (dev_Fuse h2 hf).mono ?_
  rintro v' hs' ⟨HD', rfl, rfl, k⟩
  exact ⟨HD', rfl, rfl, ⟨{ c with d := c.d.light f }, ⟨h1.is⟩, k, h3, gone_light h4 f, h5.light hf⟩⟩

theorem fr_Fuse (h : FreshAt Can n cm pd HD) {f : Int} (hf : f ≤ 9223372036854775807) : Fun Tryz.prog 19 [pd, .int .i64 f] (HD :: r) (fun v' hs' => ∃ HD', hs' = HD' :: r ∧ v' = .tuple ⟨[]⟩ ∧ FreshAt Can n False pd HD') := by
  obtain ⟨d, k, fu, x, h1, h2, h3, h4⟩ := h.is
  refine (dev_Fuse h1 hf).mono ?_
  rintro v' hs' ⟨HD', rfl, rfl, q⟩
  refine ⟨HD', rfl, rfl, ⟨d, k, _, _, q, h2, fun m hm => ?_, fun x => x.elim⟩⟩
  split at hm
  · obtain rfl := Option.some.inj hm; omega
  · cases hm

theorem up_Open (h : FreshAt Can n cm pd HD) (hn : n < 100000000000) : Fun Tryz.prog 21 [pd] (HD :: r) (fun v' hs' => ∃ q e HC HX, hs' = HC :: HX :: r ∧ v' = .tuple ⟨[q, .int .i64 e]⟩ ∧ ((e = 0 ∧ ∃ P, Can P ∧ CoreAt (fun P' => EqP P' P) P (n + 2) cm q pd HC HX) ∨ (e = 5 ∧ ¬ cm ∧ q = .pointer none ∧ DevAt Can (n + 2) pd HX))) := by
  obtain ⟨d, keep, fu, dd, h1, h2, h3, h4⟩ := h.is
  obtain ⟨s, base, end_, rss, ho, hv, ht, hf, hcut, hen, hres⟩ := h2.core' hn keep h3 (dd := dd) rfl
  refine (core_Open h1 ho hv (by unfold lim at ht; omega) hf hcut (by unfold lim at hen; omega)).mono ?_
  rintro v' hs' ⟨q, HC, HX, rfl, rfl, k1, k2, k3⟩
  have hk : CalmIf cm (corOpen ⟨(d.crash keep).secs, fu, dd⟩ s base end_ rss.flatten).2.d := (calmIf_kept cm).copen _ s base end_ rss.flatten (fun x => h4 x)
  refine ⟨q, _, HC, HX, rfl, rfl, ?_⟩
  rcases hres with ⟨e0, P, p1, p2, _⟩ | ⟨e5, p1, p2⟩
  · exact .inl ⟨e0, P, p1, ⟨_, k2 e0, k1, p2, hk⟩⟩
  · exact .inr ⟨e5, gone_not hk p2, k3 (by rw [e5]; decide), ⟨_, k1, p1⟩⟩

theorem up_Make (h : IsDev 83 69 pd (Dev.new 1410) HD) : Fun Tryz.prog 6 [pd] (HD :: r) (fun v' hs' => ∃ q HC HD', hs' = HC :: HD' :: r ∧ v' = .tuple ⟨[q, .int .i64 0]⟩ ∧ CoreAt (fun P => EqP P zeroP) zeroP 1 True q pd HC HD') := by
  obtain ⟨l, d2, hm, hI, hc⟩ := made new_free disk_new new_turn
  refine (core_Make h new_free hm).mono ?_
  rintro v' hs' ⟨q, HC, HD', rfl, rfl, k1, k2⟩
  exact ⟨q, HC, HD', rfl, rfl, ⟨_, k1, k2, hI, fun _ => hc⟩⟩

end

end Go.Proofs.YtoalhcodigpgkaaGreatDoor.Sx
end

section
namespace Go.Proofs.YtoalhcodigpgkaaGreatDoor.Sx
open Go Go.Sx Go.Pl
variable [Outer]

omit [Outer] in
theorem up_ok {a b : Prop} {c : Prop} (h : a ∨ (b ∧ ¬ True ∧ c)) : a := h.resolve_right fun x => x.2.1 trivial

omit [Outer] in
/-- images whose bytes stand in memory -/
theorem ims_of {hs : List Chunk} {v : Value} {ts : List Im} (h : Row encIm 2 hs v ts) (he : ∀ t ∈ ts, Row Go.Sx.encB 1 hs t.v t.b ∧ t.b.length = 256) (hf : ts.length ≤ 1000) : ImsAt hs v ts := ⟨h, fun t ht => (he t ht).1, by omega, fun t ht => by rw [(he t ht).2]; omega⟩

omit [Outer] in
theorem begun_imgs : MayImgs [((3 : Int), pageOf [97]), (40, pageOf [98])] := by
  refine ⟨by simp, fun x hx => ?_, by simp⟩
  simp only [List.mem_cons, List.not_mem_nil, or_false] at hx
  rcases hx with rfl | rfl
  · exact ⟨by decide, pageOf_length (by decide)⟩
  · exact ⟨by decide, pageOf_length (by decide)⟩

omit [Outer] in
theorem begun_pages : lay zeroP [((3 : Int), pageOf [97]), (40, pageOf [98])] 3 = pageOf [97] ∧ lay zeroP [((3 : Int), pageOf [97]), (40, pageOf [98])] 40 = pageOf [98] := ⟨by simp [lay, upd], by simp [lay, upd]⟩

set_option maxHeartbeats 8000000 in
set_option maxRecDepth 100000 in
theorem law19_begun {hs : List Chunk} : Fun Tryz.prog 5 [] hs (fun v' hs' => v' = .bool true ∧ hs = hs') := by
  refine Fun.enter 102 Tryz.func5 rfl Tryz.ntmps5 rfl ?_
  refine TT.seq (.region (.pures hT 1 rfl (.nil (.seq (.seq (.region (.call Tryz.call7 rfl rfl rfl rfl (dev_New (n := 1410)) ?_)))))))
  rintro v_14 hs_14 ⟨HD, rfl, hd⟩
  obtain ⟨bd, hpd⟩ := hd.ptr
  subst hpd
  refine OT.pures hT 1 rfl (.nil (.seq (.seq (.region (.pures hT 1 rfl (.call Tryz.call6 rfl rfl rfl rfl (up_Make hd) ?_))))))
  rintro v_17 hs_17 ⟨q, HC, HD1, rfl, rfl, hc⟩
  obtain ⟨bc, hq⟩ := hc.ptr
  subst hq
  refine OT.pures hT 5 rfl (.nil (.seq (.seq (.seq (.region (.pures hT 3 rfl (.pures hT 3 rfl (.nil (.seq (.cond_false rfl (.skip (.seq (.seq (.region (.pures hT 1 rfl (.buildSlice_raw (enc := Go.Sx.encB) (xs := ([97] : List UInt8)) (xos := [.const (.int .u8 (97))]) el33 rfl rfl rfl rfl rfl (by simp [Value.cells]) (fun _ _ => rfl) rfl (by decide) rfl (fun b_27 => ?_)))))))))))))))))
  refine OT.conv_same hT rfl rfl rfl rfl pl rfl ?_
  have ho28 : Own Go.Sx.encB 1 5 (.slice (some ⟨b_27, 0, none⟩) 1 1) [97] [(b_27, blk (([97] : List UInt8).flatMap Go.Sx.encB) 5 ((([97] : List UInt8).flatMap Go.Sx.encB).length, (([97] : List UInt8).flatMap Go.Sx.encB).length + 1))] := Own.marked (e := 5) (fun _ _ => rfl) rfl
  refine OT.call Tryz.call9 rfl rfl rfl rfl (law9_Of ho28.row (by decide)) ?_
  rintro v_29 hs_29 ⟨HA, rfl, hoA⟩
  obtain ⟨aA, cA, hvA⟩ := (hoA.row (hs := hs)).len
  subst hvA
  refine OT.build (cs := [.int .i64 3, .slice aA (pageOf [97]).length cA]) hT rfl Tryz.zeroValue36 rfl rfl rfl rfl (.buildSlice_raw (enc := Go.Sx.encB) (xs := ([98] : List UInt8)) (xos := [.const (.int .u8 (98))]) el33 rfl rfl rfl rfl rfl (by simp [Value.cells]) (fun _ _ => rfl) rfl (by decide) rfl (fun b_31 => ?_))
  refine OT.conv_same hT rfl rfl rfl rfl pl rfl ?_
  have ho32 : Own Go.Sx.encB 1 5 (.slice (some ⟨b_31, 0, none⟩) 1 1) [98] [(b_31, blk (([98] : List UInt8).flatMap Go.Sx.encB) 5 ((([98] : List UInt8).flatMap Go.Sx.encB).length, (([98] : List UInt8).flatMap Go.Sx.encB).length + 1))] := Own.marked (e := 5) (fun _ _ => rfl) rfl
  refine OT.call Tryz.call9 rfl rfl rfl rfl (law9_Of ho32.row (by decide)) ?_
  rintro v_33 hs_33 ⟨HB, rfl, hoB⟩
  obtain ⟨aB, cB, hvB⟩ := (hoB.row (hs := hs)).len
  subst hvB
  refine OT.build (cs := [.int .i64 40, .slice aB (pageOf [98]).length cB]) hT rfl Tryz.zeroValue36 rfl rfl rfl rfl ?_
  refine OT.buildSlice (enc := encIm) (xs := [(⟨3, .slice aA (pageOf [97]).length cA, pageOf [97]⟩ : Im), (⟨40, .slice aB (pageOf [98]).length cB, pageOf [98]⟩ : Im)]) (xos := [.tmp 30, .tmp 34]) el37 rfl rfl rfl rfl rfl (by simp [Value.cells]) (fun _ _ => rfl) rfl (by decide) rfl (fun v_35 H_35 ho_35 => ?_)
  refine OT.call Tryz.call8 rfl rfl rfl rfl (Fun.weaken (hs' := HC :: HD1 :: H_35 :: HB :: HA :: hs) sl (up_Apply hc (by omega) (ims_of ho_35.row (fun t ht => by
    simp only [List.mem_cons, List.not_mem_nil, or_false] at ht
    rcases ht with rfl | rfl
    · exact ⟨hoA.row.there.there, pageOf_length (by decide)⟩
    · exact ⟨hoB.row.there, pageOf_length (by decide)⟩) (by simp)) begun_imgs)) ?_
  rintro v_36 hs_36 ⟨e1, HC1, HD2, rfl, rfl, hres1⟩
  obtain ⟨rfl, hc1⟩ := up_ok hres1
  refine OT.pures hT 1 rfl (.nil (.seq (.seq (.region (.pures hT 1 rfl (.call Tryz.call18 rfl rfl rfl rfl (up_Force hc1 (by omega)) ?_))))))
  rintro v_38 hs_38 ⟨e2, HC2, HD3, rfl, rfl, hres2⟩
  obtain ⟨rfl, hc2⟩ := up_ok hres2
  refine OT.pures hT 1 rfl (.nil (.seq (.seq (.region (.pures hT 1 rfl (.call Tryz.call20 rfl rfl rfl rfl (Fun.pull (A := HD3) pl (up_Crash hc2.dev (ks := []) Row.nil)) ?_))))))
  rintro v_41 hs_41 ⟨HX, rfl, hx⟩
  obtain ⟨bx, hpx⟩ := hx.ptr
  subst hpx
  refine OT.call Tryz.call21 rfl rfl rfl rfl (up_Open hx (by omega)) ?_
  rintro v_42 hs_42 ⟨q3, e3, HC3, HX3, rfl, rfl, hres3⟩
  obtain ⟨rfl, P, hP, hc3⟩ := up_ok hres3
  have hc3 := hc3.eq hP
  obtain ⟨bq, hq3⟩ := hc3.ptr
  subst hq3
  refine OT.pures hT 5 rfl (.nil (.seq (.seq (.seq (.region (.pures hT 3 rfl (.pures hT 3 rfl (.nil (.seq (.cond_false rfl (.skip (.seq (.seq (.region (.pures hT 1 rfl (.call Tryz.call13 rfl rfl rfl rfl (up_Page hc3 (no := 3) (by omega) (by decide)) ?_))))))))))))))))
  rintro v_53 hs_53 ⟨w4, e4, H4, HC4, HX4, rfl, rfl, hres4⟩
  obtain ⟨rfl, ho4, hc4⟩ := up_ok hres4
  have ho4 : Own Go.Sx.encB 1 5 w4 (pageOf [97]) H4 := begun_pages.1 ▸ ho4
  obtain ⟨a4, c4, hv4⟩ := (ho4.row (hs := hs)).len
  subst hv4
  refine OT.pures hT 5 rfl (.nil (.seq (.seq (.region (.pures hT 1 rfl (.call Tryz.call13 rfl rfl rfl rfl (Fun.weaken (hs' := HC4 :: HX4 :: H4 :: HC2 :: HD3 :: hs) sl (up_Page hc4 (no := 40) (by omega) (by decide))) ?_))))))
  rintro v_58 hs_58 ⟨w5, e5, H5, HC5, HX5, rfl, rfl, hres5⟩
  obtain ⟨rfl, ho5, hc5⟩ := up_ok hres5
  have ho5 : Own Go.Sx.encB 1 5 w5 (pageOf [98]) H5 := begun_pages.2 ▸ ho5
  obtain ⟨a5, c5, hv5⟩ := (ho5.row (hs := hs)).len
  subst hv5
  refine OT.pures hT 5 rfl (.nil (.seq (.seq (.region (.pures hT 1 rfl (.call Tryz.call13 rfl rfl rfl rfl (Fun.weaken (hs' := HC5 :: HX5 :: H5 :: H4 :: HC2 :: HD3 :: hs) sl (up_PageNo hc5 (no := 96) (by omega) (by decide))) ?_))))))
  rintro v_63 hs_63 ⟨w6, H6, HC6, HX6, rfl, rfl, hc6⟩
  refine OT.pures hT 5 rfl (.nil (.seq (.seq (.region (.pures hT 3 rfl (.split 68 rfl (fun g68 => ?_) (fun g68 => ?_)))))))
  ·
    refine OT.pures hT 4 rfl (.split 72 rfl (fun g72 => ?_) (fun g72 => ?_))
    ·
      refine OT.pures hT 4 rfl (.split 76 rfl (fun g76 => ?_) (fun g76 => ?_))
      ·
        refine OT.pures hT 1 rfl (.index hT rfl rfl rfl rfl ho4.row.there.there.there.there (by omega) (show (pageOf [97])[0]? = some 97 from rfl) rfl (fun ad_78 hel_78 => ?_))
        refine OT.load rfl rfl (hel_78.ld_one hT rfl rfl) rfl (.pures hT 3 rfl (.split 82 rfl (fun g82 => ?_) (fun g82 => ?_)))
        ·
          refine OT.pures hT 1 rfl (.index hT rfl rfl rfl rfl ho5.row.there.there.there (by omega) (show (pageOf [98])[0]? = some 98 from rfl) rfl (fun ad_84 hel_84 => ?_))
          refine OT.load rfl rfl (hel_84.ld_one hT rfl rfl) rfl (.pures hT 3 rfl (.split 88 rfl (fun g88 => ?_) (fun g88 => ?_)))
          ·
            refine OT.pures hT 4 rfl (.split 92 rfl (fun g92 => ?_) (fun g92 => ?_))
            ·
              refine OT.pures hT 1 rfl (.call Tryz.call8 rfl rfl rfl rfl (Fun.weaken (hs' := HC2 :: HD3 :: hs) sl (up_ApplyNo hc2 (by omega) (ts := []) ⟨Row.nil, by simp, by simp, by simp⟩ (fun h => h.1 rfl))) ?_)
              rintro v_94 hs_94 ⟨HC7, HD7, rfl, rfl, hc7⟩
              refine OT.pures hT 3 rfl (.split 97 rfl (fun g97 => ?_) (fun g97 => ?_))
              ·
                refine OT.pures hT 1 rfl (.call Tryz.call14 rfl rfl rfl rfl (up_Down hc7) ?_)
                rintro v_99 hs_99 ⟨rfl, rfl⟩
                refine OT.pures hT 3 rfl (.nil (.seq (.ret (.of (rs := [.tmp 0]) [_] hs rfl (.tmp rfl .nil) sl ?_))))
                dsimp only [one]
                exact ⟨rfl, rfl⟩
              ·
                exact absurd g97 (by decide)
            ·
              exact absurd g92 (by decide)
          ·
            exact absurd g88 (by decide)
        ·
          exact absurd g82 (by decide)
      ·
        exact absurd g76 (by decide)
    ·
      exact absurd g72 (by decide)
  ·
    exact absurd g68 (by decide)

end Go.Proofs.YtoalhcodigpgkaaGreatDoor.Sx
end

section
namespace Go.Proofs.YtoalhcodigpgkaaGreatDoor.Sx
open Go Go.Sx Go.Pl
variable [Outer]

set_option maxHeartbeats 1000000 in
set_option maxRecDepth 100000 in
theorem law1_ShortAll {v : Value} {xs : List UInt8} {n : Nat} {hs : List Chunk} (hr : Row Go.Sx.encB 1 hs v xs) : Fun Tryz.prog 39 [v, .int .i64 (n : Int)] hs (fun v' hs' => (∀ hs0, Row Go.Sx.encB 1 hs0 v xs → Row Go.Sx.encB 1 hs0 v' (xs.take n)) ∧ hs = hs') := by
  refine Fun.enter 13 Tryz.func39 rfl Tryz.ntmps39 rfl ?_
  obtain ⟨a0, c0, hv⟩ := hr.len
  subst hv
  refine TT.seq (.region (.pures hT 1 rfl (.nil (.seq (.seq (.seq (.region (.pures hT 4 rfl (.nil (.seq (.cond rfl (fun c8 => ?_) (fun c8 => ?_))))))))))))
  ·
    have c8 := of_decide_eq_true c8
    refine TT.seq (.region (.pures hT 2 rfl (.slice_val 0 n hT rfl rfl rfl rfl rfl (.inl ⟨rfl, rfl⟩) (.inr ⟨_, rfl⟩) (by omega) (by have := hr.cap_le; omega) rfl ?_)))
    refine OT.pures hT 1 rfl (.nil (.seq (.ret (.of (rs := [.tmp 4]) [_] hs rfl (.tmp rfl .nil) sl ?_))))
    dsimp only [one]
    exact ⟨fun hs0 h0 => h0.sub (L := 0) (M := n) (by omega) (by omega), rfl⟩
  ·
    have c8 := of_decide_eq_false c8
    refine TT.skip (.seq (.seq (.region (.pures hT 2 rfl (.nil (.seq (.ret (.of (rs := [.tmp 4]) [_] hs rfl (.tmp rfl .nil) sl ?_))))))))
    dsimp only [one]
    exact ⟨fun hs0 h0 => by rw [List.take_of_length_le (by omega)]; exact h0, rfl⟩

set_option maxHeartbeats 4000000 in
set_option maxRecDepth 100000 in
theorem law16_Images {v : Value} {ts : List Raw} {n : Nat} {hs hs0 : List Chunk} (hi : RawsAt hs0 v ts) (hsub : ∀ b o, Has hs0 b o → Has hs b o) (hn : n ≤ 1000) : Fun Tryz.prog 15 [v, .int .i64 (n : Nat)] hs (fun v' hs' => ∃ K E, hs' = K :: E :: hs ∧ MixAt 36 hs0 v' (rawImgs ts n) K E) := by
  refine Fun.enter 49 Tryz.func15 rfl Tryz.ntmps15 rfl ?_
  have hr := hi.row.mono hsub
  have hfew := hi.few
  obtain ⟨a0, c0, hv⟩ := hr.len
  subst hv
  refine TT.seq (.region (.pures hT 1 rfl (.nil (.seq (.seq (.region (.pures hT 1 rfl (.nil (.seq (.seq (.seq (.region (.pures hT 1 rfl (.nil (.seq (.block (.chunk0 (.chunk0 (.loop (ι := Nat × Value × Chunk × Chunk) (fun j => (j.1) ≤ ts.length ∧ (j.1) ≤ n ∧ MixAt 36 hs0 (j.2.1) (rawImgs ts (j.1)) (j.2.2.1) (j.2.2.2)) (fun j => ts.length - (j.1)) (fun j => [(0, .slice a0 ts.length c0), (1, .int .i64 (n : Nat)), (5, (j.2.1)), (6, .int .i64 ((j.1) : Nat))]) (fun j => (j.2.2.1) :: (j.2.2.2) :: hs) (0, .slice none 0 0, [], []) ?_ (SubR.cons rfl (SubR.cons rfl (SubR.cons rfl (SubR.cons rfl (SubR.nil _))))) sl ?_)))))))))))))))))))
  · dsimp only
    exact ⟨by omega, by omega, ⟨[], rfl, Own.nil, by simp⟩⟩
  rintro ⟨i, w, K, E⟩ hI
  dsimp only at hI
  obtain ⟨hin, hi2, hM⟩ := hI
  show TT _ _ _ [(0, .slice a0 ts.length c0), (1, .int .i64 (n : Nat)), (5, w), (6, .int .i64 (i : Nat))] (K :: E :: hs)
  refine TT.seq (.seq (.region (.pures hT 5 rfl (.split 12 rfl (fun g12 => ?_) (fun g12 => ?_)))))
  ·
    have g12 := of_decide_eq_true g12
    refine OT.pures hT 4 rfl (.nil (.seq (.cond rfl (fun c16 => ?_) (fun c16 => ?_))))
    ·
      have c16 := of_decide_eq_true c16
      obtain ⟨t, ht⟩ := nth (l := ts) (i := i) (by omega)
      have hmem := List.mem_of_getElem? ht
      obtain ⟨us, hus, hK, hE⟩ := hM.is
      have hul : us.length = i := by have := congrArg List.length hus; rw [imgs_length] at this; rw [this]; unfold rawImgs; rw [List.length_map, List.length_take]; omega
      refine TT.skip (.seq (.seq (.block (.seq (.region (.pures hT 2 rfl (.index hT rfl rfl rfl rfl hr.there.there (by omega) ht rfl (fun ad_21 hel_21 => ?_))))))))
      obtain ⟨eb_21, eo_21, rfl, hfld_21, hfls_21⟩ := Go.Pl.El.at2 (P := Tryz.prog) hel_21
      refine OT.pures hT 1 rfl (.load rfl rfl (hfls_21 hT rfl rfl) rfl (.call Tryz.call39 rfl rfl rfl rfl (law1_ShortAll (n := 260) ((hi.each t hmem).mono hsub).there.there) ?_))
      rintro v_24 hs_24 ⟨hvA, rfl⟩
      have hs24 := hvA hs0 (hi.each t hmem)
      obtain ⟨aS, cS, hvS⟩ := hs24.len
      subst hvS
      refine OT.pures hT 1 rfl (.nil (.seq (.cut (ι := (Option Addr) × Nat × Chunk) (fun j => Row Go.Sx.encB 1 ((j.2.2) :: hs0) (.slice (j.1) (rawBytes t).length (j.2.1)) (rawBytes t)) (fun j => [(0, .slice a0 ts.length c0), (1, .int .i64 (n : Nat)), (5, w), (6, .int .i64 (i : Nat)), (7, .slice (j.1) (rawBytes t).length (j.2.1))]) (fun j => (j.2.2) :: K :: E :: hs) ?_ ?_)))
      ·
        refine TT.seq (.region (.pures hT 2 rfl (.index hT rfl rfl rfl rfl hr.there.there (by omega) ht rfl (fun ad_27 hel_27 => ?_))))
        obtain ⟨eb_27, eo_27, rfl, hfld_27, hfls_27⟩ := Go.Pl.El.at2 (P := Tryz.prog) hel_27
        refine OT.pures hT 1 rfl (.load rfl rfl (hfld_27 hT rfl rfl) rfl (.pures hT 2 rfl (.split 31 rfl (fun g31 => ?_) (fun g31 => ?_))))
        ·
          have g31 : t.odd = false := by simpa using g31
          refine OT.pures hT 4 rfl (.nil (.seq (.cond rfl (fun c35 => ?_) (fun c35 => ?_))))
          ·
            have c35 := of_decide_eq_true c35
            refine TT.region (.pures hT 1 rfl (.call Tryz.call9 rfl rfl rfl rfl (law9_Of (hs24.mono hsub).there.there (by omega)) ?_))
            rintro v_37 hs_37 ⟨HB, rfl, hoB⟩
            obtain ⟨aB, cB, hvB⟩ := (hoB.row (hs := hs)).len
            subst hvB
            refine OT.pures hT 1 rfl (.nil ?_)
            have hrb : rawBytes t = pageOf (t.b.take 260) := by unfold rawBytes; rw [if_pos ⟨g31, by omega⟩]
            refine KT.cut (aB, cB, HB) ?_ (SubR.cons rfl (SubR.cons rfl (SubR.cons rfl (SubR.cons rfl (SubR.cons' rfl (by (try dsimp only); exact (by rw [hrb])) (SubR.nil _)))))) sl
            · dsimp only
              show Row Go.Sx.encB 1 (HB :: hs0) (.slice aB (rawBytes t).length cB) (rawBytes t)
              rw [hrb]; exact hoB.row
          ·
            have c35 := of_decide_eq_false c35
            refine TT.skip (.chunk0 ?_)
            have hrb : rawBytes t = t.b.take 260 := by unfold rawBytes; rw [if_neg (fun h => by omega)]
            refine KT.cut (aS, cS, []) ?_ (SubR.cons rfl (SubR.cons rfl (SubR.cons rfl (SubR.cons rfl (SubR.cons' rfl (by (try dsimp only); exact (by rw [hrb])) (SubR.nil _)))))) sl
            · dsimp only
              show Row Go.Sx.encB 1 ([] :: hs0) (.slice aS (rawBytes t).length cS) (rawBytes t)
              rw [hrb]; exact hs24.there
        ·
          have g31 : t.odd = true := by simpa using g31
          refine OT.pures hT 4 rfl (.nil (.seq (.cond_false rfl (.skip (.chunk0 ?_)))))
          have hrb : rawBytes t = t.b.take 260 := by unfold rawBytes; rw [if_neg (fun h => by rw [g31] at h; cases h.1)]
          refine KT.cut (aS, cS, []) ?_ (SubR.cons rfl (SubR.cons rfl (SubR.cons rfl (SubR.cons rfl (SubR.cons' rfl (by (try dsimp only); exact (by rw [hrb])) (SubR.nil _)))))) sl
          · dsimp only
            show Row Go.Sx.encB 1 ([] :: hs0) (.slice aS (rawBytes t).length cS) (rawBytes t)
            rw [hrb]; exact hs24.there
      ·
        rintro ⟨aw, cw, B⟩ hI
        dsimp only at hI
        have hB := hI
        show TT _ _ _ [(0, .slice a0 ts.length c0), (1, .int .i64 (n : Nat)), (5, w), (6, .int .i64 (i : Nat)), (7, .slice aw (rawBytes t).length cw)] (B :: K :: E :: hs)
        refine TT.region (.pures hT 3 rfl (.index hT rfl rfl rfl rfl hr.there.there.there (by omega) ht rfl (fun ad_41 hel_41 => ?_)))
        obtain ⟨eb_41, eo_41, rfl, hfld_41, hfls_41⟩ := Go.Pl.El.at2 (P := Tryz.prog) hel_41
        refine OT.pures hT 1 rfl (.load rfl rfl (hfld_41 hT rfl rfl) rfl (.pures hT 1 rfl (.build (cs := [.int .i64 t.no, .slice aw (rawBytes t).length cw]) hT rfl Tryz.zeroValue36 rfl rfl rfl rfl ?_)))
        refine OT.buildSlice (enc := encIm) (xs := [(⟨t.no, .slice aw (rawBytes t).length cw, rawBytes t⟩ : Im)]) (xos := [.tmp 45]) el37 rfl rfl rfl rfl rfl (by simp [Value.cells]) (fun _ _ => rfl) rfl (by decide) rfl (fun v_46 H_46 ho_46 => ?_)
        refine OT.append hT el37 rfl rfl rfl rfl pl hK ro rfl (by simp only [List.length_cons, List.length_nil]; omega) rfl (fun v_47 H_47 ho_47 => ?_)
        refine OT.pures hT 1 rfl (.nil (.blk (.seq (.region (.pures hT 3 rfl (.nil (.loop (i + 1, v_47, H_47, B ++ E) ?_ ?_ (SubR.cons rfl (SubR.cons rfl (SubR.cons rfl (SubR.cons' rfl (by (try dsimp only); exact (int_eq (by rw [wrap_i64 (by omega) (by omega)]; omega))) (SubR.nil _))))) sl)))))))
        · dsimp only
          refine ⟨by omega, by omega, ⟨us ++ [⟨t.no, .slice aw (rawBytes t).length cw, rawBytes t⟩], ?_, ho_47, ?_⟩⟩
          · rw [imgs_append, hus, rawImgs_succ ht]; rfl
          · intro u hu
            rcases List.mem_append.1 hu with hu | hu
            · exact Go.Pl.Row.last (hE u hu)
            · rw [List.mem_singleton] at hu; subst hu; exact Go.Pl.Row.more hB
        · dsimp only
          omega
    ·
      have c16 := of_decide_eq_false c16
      refine TT.exit (.seq (.loop (.here (.seq (.seq (.region (.pures hT 2 rfl (.nil (.seq (.ret (.of (rs := [.tmp 4]) [_] (K :: E :: hs) rfl (.tmp rfl .nil) sl ?_)))))))))))
      dsimp only [one]
      exact ⟨K, E, rfl, by rw [← rawImgs_end (i := i) (n := n) hin hi2 (.inr (by omega))]; exact hM⟩
  ·
    have g12 := of_decide_eq_false g12
    refine OT.pures hT 4 rfl (.nil (.seq (.cond_false rfl (.exit (.seq (.loop (.here (.seq (.seq (.region (.pures hT 2 rfl (.nil (.seq (.ret (.of (rs := [.tmp 4]) [_] (K :: E :: hs) rfl (.tmp rfl .nil) sl ?_)))))))))))))))
    dsimp only [one]
    exact ⟨K, E, rfl, by rw [← rawImgs_end (i := i) (n := n) hin hi2 (.inl (by omega))]; exact hM⟩

set_option maxHeartbeats 4000000 in
set_option maxRecDepth 100000 in
theorem ref_MayImages {v : Value} {ts : List Im} {hs : List Chunk} (hi : ImsAt hs v ts) : Fun Tryz.prog 16 [v] hs (fun v' hs' => v' = .bool (decide (MayImgs (imgs ts))) ∧ hs = hs') := by
  refine Fun.enter 59 Tryz.func16 rfl Tryz.ntmps16 rfl ?_
  have hr := hi.row
  have hfew := hi.few
  obtain ⟨a0, c0, hv⟩ := hr.len
  subst hv
  refine TT.seq (.region (.pures hT 1 rfl (.nil (.seq (.seq (.seq (.region (.pures hT 1 rfl (.nil (.seq (.block (.loop (ι := Nat) (fun j => (j) ≤ ts.length ∧ MayTo (imgs ts) (j)) (fun j => ts.length - (j)) (fun j => [(0, .slice a0 ts.length c0), (3, .int .i64 ((j) : Nat))]) (fun j => hs) (0) ?_ (SubR.cons rfl (SubR.cons rfl (SubR.nil _))) sl ?_))))))))))))
  · exact ⟨by omega, MayTo.zero _⟩
  rintro i ⟨hin, hp⟩
  show TT _ _ _ [(0, .slice a0 ts.length c0), (3, .int .i64 (i : Nat))] (hs)
  refine TT.seq (.seq (.region (.pures hT 4 rfl (.nil (.seq (.cond rfl (fun c7 => ?_) (fun c7 => ?_)))))))
  ·
    have c7 := of_decide_eq_true c7
    obtain ⟨t, ht⟩ := nth (l := ts) (i := i) (by omega)
    have hit := imgs_at ht
    have hmem := List.mem_of_getElem? ht
    have hmi : t.img ∈ imgs ts := List.mem_of_getElem? hit
    obtain ⟨ab, cb, hvb⟩ := (hi.each t hmem).len
    have hbl := hi.len t hmem
    refine TT.skip (.seq (.seq (.block (.seq (.draw (hs) mixed (.takes (fuel := 39) hT [0, 1] kr kr rfl (.index (fuel := 38) hT 2 rfl kr kr kr rfl rfl rfl rfl hr (by omega) ht rfl (fun ad_12 hel_12 => ?_))))))))
    obtain ⟨eb_12, eo_12, rfl, hfld_12, hfls_12⟩ := Go.Pl.El.at2 (P := Tryz.prog) hel_12
    refine AT.takes (fuel := 37) hT [3] kr kr rfl (.take (fuel := 36) hT 4 rfl rfl kr kr kr rfl (.load rfl (hfld_12 hT rfl rfl)) rfl (.takes (fuel := 34) hT [5, 6] kr kr rfl (.split 16 rfl (fun g16 => ?_) (fun g16 => ?_))))
    ·
      have g16 := of_decide_eq_true g16
      refine AT.takes (fuel := 0) hT [7, 8, 9, 10, 11, 12, 13, 14, 15, 16, 17, 18, 19, 20, 21, 22, 23, 24, 25, 26, 27, 28, 29, 30, 31, 32, 33, 34, 35, 36, 37, 38, 39, 40] kr kr rfl (.done kr sl (.seq (.cond_true rfl (.seq (.region (.pures hT 1 rfl (.nil (.seq (.ret (.of (rs := [.tmp 2]) [_] hs rfl (.tmp rfl .nil) sl ?_))))))))))
      dsimp only [one]
      exact ⟨congrArg Value.bool (decide_eq_false (fun h => by have := (h.2.1 _ hmi).1.1; have : 0 ≤ t.no := this; omega)).symm, rfl⟩
    ·
      have g16 := of_decide_eq_false g16
      refine AT.takes (fuel := 32) hT [7, 8] kr kr rfl (.index (fuel := 31) hT 9 rfl kr kr kr rfl rfl rfl rfl hr (by omega) ht rfl (fun ad_19 hel_19 => ?_))
      obtain ⟨eb_19, eo_19, rfl, hfld_19, hfls_19⟩ := Go.Pl.El.at2 (P := Tryz.prog) hel_19
      refine AT.takes (fuel := 30) hT [10] kr kr rfl (.take (fuel := 29) hT 11 rfl rfl kr kr kr rfl (.load rfl (hfld_19 hT rfl rfl)) rfl (.takes (fuel := 26) hT [12, 13, 14] kr kr rfl (.split 24 rfl (fun g24 => ?_) (fun g24 => ?_))))
      ·
        have g24 := of_decide_eq_true g24
        refine AT.takes (fuel := 0) hT [15, 16, 17, 18, 19, 20, 21, 22, 23, 24, 25, 26, 27, 28, 29, 30, 31, 32, 33, 34, 35, 36, 37, 38, 39, 40] kr kr rfl (.done kr sl (.seq (.cond_true rfl (.seq (.region (.pures hT 1 rfl (.nil (.seq (.ret (.of (rs := [.tmp 2]) [_] hs rfl (.tmp rfl .nil) sl ?_))))))))))
        dsimp only [one]
        exact ⟨congrArg Value.bool (decide_eq_false (fun h => by have := (h.2.1 _ hmi).1.2; have : t.no < 96 := this; omega)).symm, rfl⟩
      ·
        have g24 := of_decide_eq_false g24
        refine AT.takes (fuel := 24) hT [15, 16] kr kr rfl (.index (fuel := 23) hT 17 rfl kr kr kr rfl rfl rfl rfl hr (by omega) ht rfl (fun ad_27 hel_27 => ?_))
        obtain ⟨eb_27, eo_27, rfl, hfld_27, hfls_27⟩ := Go.Pl.El.at2 (P := Tryz.prog) hel_27
        refine AT.takes (fuel := 22) hT [18] kr kr rfl (.take (fuel := 21) hT 19 rfl rfl kr kr kr rfl (.load rfl (hfls_27 hT rfl (by unfold encIm; rw [hvb]; rfl))) rfl ?_)
        refine AT.takes (fuel := 17) hT [20, 21, 22, 23] kr kr rfl (.split 33 rfl (fun g33 => ?_) (fun g33 => ?_))
        ·
          have g33 : ¬ t.b.length = 256 := by simp at g33; omega
          refine AT.takes (fuel := 0) hT [24, 25, 26, 27, 28, 29, 30, 31, 32, 33, 34, 35, 36, 37, 38, 39, 40] kr kr rfl (.done kr sl (.seq (.cond_true rfl (.seq (.region (.pures hT 1 rfl (.nil (.seq (.ret (.of (rs := [.tmp 2]) [_] hs rfl (.tmp rfl .nil) sl ?_))))))))))
          dsimp only [one]
          exact ⟨congrArg Value.bool (decide_eq_false (fun h => g33 (h.2.1 _ hmi).2)).symm, rfl⟩
        ·
          have g33 : t.b.length = 256 := by simp at g33; omega
          refine AT.takes (fuel := 14) hT [24, 25, 26] kr kr rfl (.split 36 rfl (fun g36 => ?_) (fun g36 => ?_))
          ·
            have g36 := of_decide_eq_true g36
            obtain ⟨u, hu⟩ := nth (l := ts) (i := i - 1) (by omega)
            have hiu := imgs_at hu
            refine AT.takes (fuel := 9) hT [27, 28, 32, 33, 34] kr kr rfl (.index (fuel := 8) hT 29 rfl kr kr kr rfl rfl rfl rfl hr (by omega) ht rfl (fun ad_39 hel_39 => ?_))
            obtain ⟨eb_39, eo_39, rfl, hfld_39, hfls_39⟩ := Go.Pl.El.at2 (P := Tryz.prog) hel_39
            refine AT.takes (fuel := 7) hT [30] kr kr rfl (.take (fuel := 6) hT 31 rfl rfl kr kr kr rfl (.load rfl (hfld_39 hT rfl rfl)) rfl (.reg 44 rfl (v := .int .i64 ((i - 1 : Nat) : Int)) (int_eq (by rw [wrap_i64 (by omega) (by omega)]; omega)) (.index (fuel := 5) hT 35 rfl kr kr kr rfl rfl rfl rfl hr (by omega) (by rw [Int.toNat_natCast]; exact hu) rfl (fun ad_45 hel_45 => ?_))))
            obtain ⟨eb_45, eo_45, rfl, hfld_45, hfls_45⟩ := Go.Pl.El.at2 (P := Tryz.prog) hel_45
            refine AT.takes (fuel := 4) hT [36] kr kr rfl (.take (fuel := 3) hT 37 rfl rfl kr kr kr rfl (.load rfl (hfld_45 hT rfl rfl)) rfl (.takes (fuel := 0) hT [38, 39, 40] kr kr rfl (.done kr sl (.seq (.cond rfl (fun c50 => ?_) (fun c50 => ?_))))))
            ·
              have c50 := of_decide_eq_true c50
              refine TT.seq (.region (.pures hT 1 rfl (.nil (.seq (.ret (.of (rs := [.tmp 2]) [_] hs rfl (.tmp rfl .nil) sl ?_))))))
              dsimp only [one]
              exact ⟨congrArg Value.bool (decide_eq_false (fun h => by have := h.adj hiu (by rw [show i - 1 + 1 = i by omega]; exact hit); have : u.no < t.no := this; omega)).symm, rfl⟩
            ·
              have c50 := of_decide_eq_false c50
              refine TT.skip (.blk (.seq (.region (.pures hT 3 rfl (.nil (.loop (i + 1) ?_ ?_ (SubR.cons rfl (SubR.cons' rfl (by (try dsimp only); exact (int_eq (by rw [wrap_i64 (by omega) (by omega)]; omega))) (SubR.nil _))) sl))))))
              · exact ⟨by omega, hp.step hit ⟨by show 0 ≤ t.no; omega, by show t.no < 96; omega⟩ g33 fun j y hj hy => by
                  have : j = i - 1 := by omega
                  subst this
                  rw [hiu] at hy
                  obtain rfl := Option.some.inj hy
                  show u.no < t.no; omega⟩
              · omega
          ·
            have g36 := of_decide_eq_false g36
            refine AT.takes (fuel := 0) hT [27, 28, 29, 30, 31, 32, 33, 34, 35, 36, 37, 38, 39, 40] kr kr rfl (.done kr sl (.seq (.cond_false rfl (.skip (.blk (.seq (.region (.pures hT 3 rfl (.nil (.loop (i + 1) ?_ ?_ (SubR.cons rfl (SubR.cons' rfl (by (try dsimp only); exact (int_eq (by rw [wrap_i64 (by omega) (by omega)]; omega))) (SubR.nil _))) sl))))))))))
            · exact ⟨by omega, hp.step hit ⟨by show 0 ≤ t.no; omega, by show t.no < 96; omega⟩ g33 fun j y hj hy => by omega⟩
            · omega
  ·
    have c7 := of_decide_eq_false c7
    obtain rfl : i = ts.length := by omega
    refine TT.exit (.seq (.loop (.here (.seq (.seq (.region (.pures hT 4 rfl (.split 54 rfl (fun g54 => ?_) (fun g54 => ?_)))))))))
    ·
      have g54 := of_decide_eq_true g54
      refine OT.pures hT 5 rfl (.nil (.seq (.ret (.of (rs := [.tmp 2]) [_] hs rfl (.tmp rfl .nil) sl ?_))))
      dsimp only [one]
      refine ⟨congrArg Value.bool (decide_eq_decide.2 ⟨fun h => MayTo.all (by rw [imgs_length]; exact hp) (by rw [imgs_length]; omega), fun h => ?_⟩), rfl⟩
      have := h.few
      rw [imgs_length] at this; omega
    ·
      have g54 := of_decide_eq_false g54
      refine OT.pures hT 5 rfl (.nil (.seq (.ret (.of (rs := [.tmp 2]) [_] hs rfl (.tmp rfl .nil) sl ?_))))
      dsimp only [one]
      exact ⟨congrArg Value.bool (decide_eq_false (fun h => by have := h.pos; rw [imgs_length] at this; omega)).symm, rfl⟩

set_option maxHeartbeats 4000000 in
set_option maxRecDepth 100000 in
theorem law19_lay {P : Pages} {v : Value} {ts : List Im} {hs : List Chunk} (hi : ImsAt hs v ts) (hm : ∀ x ∈ imgs ts, mayPage x.1) : Fun Tryz.prog 17 [.agg ⟨strsOf P⟩, v] hs (fun v' hs' => v' = .agg ⟨strsOf (lay P (imgs ts))⟩ ∧ hs = hs') := by
  refine Fun.enter 25 Tryz.func17 rfl Tryz.ntmps17 rfl ?_
  have hr := hi.row
  have hfew := hi.few
  obtain ⟨a0, c0, hv⟩ := hr.len
  subst hv
  refine TT.seq (.region (.box rfl rfl rfl (fun b_2 => ?_)))
  dsimp only [Value.cells]
  refine OT.alloc Tryz.zeroValue46 rfl rfl (fun b_4 => ?_)
  refine OT.nil (.seq (.seq (.seq (.region (.pures hT 1 rfl (.nil (.seq (.block (.loop (ι := Nat × (List Value)) (fun j => (j.1) ≤ ts.length ∧ (j.2).length = 96) (fun j => ts.length - (j.1)) (fun j => [(1, .slice a0 ts.length c0), (2, .pointer (some ⟨b_2, 0, none⟩)), (4, .pointer (some ⟨b_4, 0, none⟩)), (5, .int .i64 ((j.1) : Nat))]) (fun j => [(b_4, blk (j.2) 46 (0, 0))] :: [(b_2, blk (strsOf (lay P ((imgs ts).take (j.1)))) 46 (0, 0))] :: hs) (0, _) ?_ (SubR.cons rfl (SubR.cons rfl (SubR.cons rfl (SubR.cons rfl (SubR.nil _))))) sl ?_)))))))))
  · dsimp only
    exact ⟨by omega, by kernel_rfl⟩
  rintro ⟨i, cs4⟩ hI
  dsimp only at hI
  obtain ⟨hin, h4⟩ := hI
  show TT _ _ _ [(1, .slice a0 ts.length c0), (2, .pointer (some ⟨b_2, 0, none⟩)), (4, .pointer (some ⟨b_4, 0, none⟩)), (5, .int .i64 (i : Nat))] ([(b_4, blk cs4 46 (0, 0))] :: [(b_2, blk (strsOf (lay P ((imgs ts).take i))) 46 (0, 0))] :: hs)
  refine TT.seq (.seq (.region (.pures hT 4 rfl (.nil (.seq (.cond rfl (fun c9 => ?_) (fun c9 => ?_)))))))
  ·
    have c9 := of_decide_eq_true c9
    obtain ⟨t, ht⟩ := nth (l := ts) (i := i) (by omega)
    have hit := imgs_at ht
    have hmem := List.mem_of_getElem? ht
    have hmi : t.img ∈ imgs ts := List.mem_of_getElem? hit
    obtain ⟨ab, cb, hvb⟩ := (hi.each t hmem).len
    obtain ⟨hno0, hno1⟩ := hm _ hmi
    have hno0 : 0 ≤ t.no := hno0
    have hno1 : t.no < 96 := hno1
    refine TT.skip (.seq (.seq (.block (.draw (hs) mixed (.takes (fuel := 9) hT [0, 1, 5, 6] kr kr rfl (.index (fuel := 8) hT 2 rfl kr kr kr rfl rfl rfl rfl hr (by omega) ht rfl (fun ad_14 hel_14 => ?_)))))))
    obtain ⟨eb_14, eo_14, rfl, hfld_14, hfls_14⟩ := Go.Pl.El.at2 (P := Tryz.prog) hel_14
    refine AT.takes (fuel := 7) hT [3] kr kr rfl (.take (fuel := 6) hT 4 rfl rfl kr kr kr rfl (.load rfl (hfld_14 hT rfl rfl)) rfl ?_)
    have hno2 := hno0
    refine AT.index (fuel := 5) hT 7 rfl kr kr kr rfl rfl rfl rfl hr (by omega) ht rfl (fun ad_19 hel_19 => ?_)
    obtain ⟨eb_19, eo_19, rfl, hfld_19, hfls_19⟩ := Go.Pl.El.at2 (P := Tryz.prog) hel_19
    refine AT.takes (fuel := 4) hT [8] kr kr rfl (.take (fuel := 3) hT 9 rfl rfl kr kr kr rfl (.load rfl (hfls_19 hT rfl rfl)) rfl (.op (fuel := 2) 10 kr rfl sl (.conv_bs (fun _ => rfl) hT rfl rfl rfl rfl rfl (hi.each t hmem).there.there rfl (.nil (.any (.index_at (fuel := 1) hT 11 rfl kr kr kr rfl rfl rfl rfl (by omega) (by omega) rfl (.op (fuel := 0) 12 kr rfl sl ?_)))))))
    refine OT.store hT rfl rfl rfl rfl pl rfl (by rw [strsOf_length]; show 0 + t.no.toNat * 1 + 1 ≤ 96; omega) rfl (.inl (Nat.le_refl _)) (cs' := strsOf (lay P ((imgs ts).take (i + 1)))) (by
            rw [take_succ hit, lay_snoc, show t.img = (((t.no.toNat : Nat) : Int), t.b) from Prod.ext (by show t.no = _; omega) rfl]
            exact (congrArg (fun o => splice _ o _) (by show 0 + t.no.toNat * 1 = t.no.toNat; omega)).trans (strsOf_set _ (by omega) _)) ?_
    refine OT.nil (.any (.done kr sl (.blk (.seq (.region (.pures hT 3 rfl (.nil (.loop (i + 1, cs4) ?_ ?_ (SubR.cons rfl (SubR.cons rfl (SubR.cons rfl (SubR.cons' rfl (by (try dsimp only); exact (int_eq (by rw [wrap_i64 (by omega) (by omega)]; omega))) (SubR.nil _))))) sl))))))))
    · dsimp only
      exact ⟨by omega, h4⟩
    · dsimp only
      omega
  ·
    have c9 := of_decide_eq_false c9
    obtain rfl : i = ts.length := by omega
    have hall : (imgs ts).take ts.length = imgs ts := by rw [← imgs_length ts, List.take_length]
    refine TT.exit (.seq (.loop (.here (.seq (.seq (.region (.load rfl rfl (Ld.arr_all hT rfl hz (by rw [strsOf_length])) rfl ?_)))))))
    refine OT.store_all hT rfl rfl rfl rfl pl (by exact strsOf_length _) h4 (strsOf_ones _) (.inl (Nat.le_refl _)) ?_
    refine OT.nil (.seq (.ret (.of (rs := [.cell 4 46]) [_] hs rfl (.cell rfl (Ld.arr_all hT rfl hz (by exact strsOf_length _)) .nil) sl ?_)))
    dsimp only [one]
    exact ⟨by rw [hall]; rfl, rfl⟩

set_option maxHeartbeats 4000000 in
set_option maxRecDepth 100000 in
theorem law19_are {Can : Pages → Prop} {Q now : Pages} {n : Nat} {cm : Prop} {bp : Nat} {pd : Value} {H HD : Chunk} {r : List Chunk} (h : CoreAt Can now n cm (.pointer (some ⟨bp, 0, none⟩)) pd H HD) (hn : n ≤ 10000000000) : Fun Tryz.prog 22 [.agg ⟨strsOf Q⟩, .pointer (some ⟨bp, 0, none⟩)] (H :: HD :: r) (fun v' hs' => ∃ t H' HD', hs' = H' :: HD' :: r ∧ v' = .bool t ∧ ((CoreAt Can now (n + 96) cm (.pointer (some ⟨bp, 0, none⟩)) pd H' HD' ∧ (t = true ↔ EqP Q now)) ∨ (t = false ∧ ¬ cm ∧ DownAt Can (n + 96) (.pointer (some ⟨bp, 0, none⟩)) pd H' HD'))) := by
  refine Fun.enter 28 Tryz.func22 rfl Tryz.ntmps22 rfl ?_
  refine TT.seq (.region (.box rfl rfl rfl (fun b_2 => ?_)))
  dsimp only [Value.cells]
  refine OT.pures hT 1 rfl (.nil (.seq (.seq (.seq (.region (.pures hT 1 rfl (.nil (.seq (.block (.loop (ι := Nat × Chunk × Chunk) (fun j => (j.1) ≤ 96 ∧ (∀ k : Nat, k < (j.1) → Q k = now k) ∧ CoreAt Can now (n + (j.1)) cm (.pointer (some ⟨bp, 0, none⟩)) pd (j.2.1) (j.2.2)) (fun j => 96 - (j.1)) (fun j => [(1, .pointer (some ⟨bp, 0, none⟩)), (2, .pointer (some ⟨b_2, 0, none⟩)), (5, .int .i64 ((j.1) : Nat))]) (fun j => (j.2.1) :: (j.2.2) :: [(b_2, blk (strsOf Q) 46 (0, 0))] :: r) (0, H, HD) ?_ (SubR.cons rfl (SubR.cons rfl (SubR.cons rfl (SubR.nil _)))) sl ?_))))))))))
  · dsimp only
    exact ⟨by omega, fun k hk => by omega, h⟩
  rintro ⟨i, H, HD⟩ hI
  dsimp only at hI
  obtain ⟨hin, heq, h⟩ := hI
  show TT _ _ _ [(1, .pointer (some ⟨bp, 0, none⟩)), (2, .pointer (some ⟨b_2, 0, none⟩)), (5, .int .i64 (i : Nat))] (H :: HD :: [(b_2, blk (strsOf Q) 46 (0, 0))] :: r)
  refine TT.seq (.seq (.region (.pures hT 2 rfl (.nil (.seq (.cond rfl (fun c9 => ?_) (fun c9 => ?_)))))))
  ·
    have c9 := of_decide_eq_true c9
    refine TT.skip (.seq (.seq (.block (.seq (.region (.pures hT 2 rfl (.call Tryz.call13 rfl rfl rfl rfl (up_Page h (no := (i : Nat)) (by omega) ⟨by omega, by omega⟩) ?_)))))))
    rintro v_15 hs_15 ⟨w5, e5, H5, HC5, HD5, rfl, rfl, hres5⟩
    refine OT.pures hT 5 rfl (.nil (.seq (.seq (.draw (H5 :: HC5 :: HD5 :: [(b_2, blk (strsOf Q) 46 (0, 0))] :: r) mixed (.takes (fuel := 7) hT [0, 1, 2] kr kr rfl (.split 20 rfl (fun g20 => ?_) (fun g20 => ?_)))))))
    ·
      have g20 : e5 ≠ 0 := by simpa using g20
      obtain ⟨_, hcm, hdn⟩ := hres5.resolve_left fun h => g20 h.1
      refine AT.takes (fuel := 0) hT [3, 4, 5, 6, 7, 8, 9] kr kr rfl (.done kr sl (.seq (.cond_true rfl (.seq (.region (.pures hT 1 rfl (.nil (.seq (.ret (.of (rs := [.tmp 4]) [_] (HC5 :: HD5 :: r) rfl (.tmp rfl .nil) sl ?_))))))))))
      dsimp only [one]
      exact ⟨false, _, _, rfl, rfl, .inr ⟨rfl, hcm, hdn.mono (fun _ h => h) (by omega)⟩⟩
    ·
      have g20 : e5 = 0 := by simpa using g20
      obtain ⟨_, ho5, hc5⟩ := hres5.resolve_right fun h => by omega
      refine AT.takes (fuel := 5) hT [3, 5] kr kr rfl (.index_at (fuel := 4) hT 6 rfl kr kr kr rfl rfl rfl rfl (by omega) (by omega) rfl (.take (fuel := 3) hT 7 rfl rfl kr kr kr rfl (.load rfl (Ld.one hT rfl hz (by show (strsOf Q)[0 + (i : Int).toNat * 1]? = _; rw [show 0 + (i : Int).toNat * 1 = i by omega]; exact strsOf_at Q (by omega)))) rfl ?_))
      refine AT.op (fuel := 2) 4 kr rfl sl (.conv_bs (fun _ => rfl) hT rfl rfl rfl rfl rfl ho5.row rfl (.nil (.any (.takes (fuel := 0) hT [8, 9] kr kr rfl (.done kr sl (.seq (.cond rfl (fun c27 => ?_) (fun c27 => ?_))))))))
      ·
        have c27 : ¬ now i = Q i := by
          intro e
          rw [e] at c27
          simp [txt] at c27
        refine TT.seq (.region (.pures hT 1 rfl (.nil (.seq (.ret (.of (rs := [.tmp 4]) [_] (HC5 :: HD5 :: r) rfl (.tmp rfl .nil) sl ?_))))))
        dsimp only [one]
        exact ⟨false, _, _, rfl, rfl, .inl ⟨hc5.mono (fun _ h => h) (by omega) id, by simp only [Bool.false_eq_true, false_iff]; exact fun he => c27 (he i ⟨by omega, by omega⟩).symm⟩⟩
      ·
        have c27 : now i = Q i := by
          have : txt (now i) = txt (Q i) := by simpa [txt] using c27
          exact txt_eq this
        refine TT.skip (.blk (.seq (.region (.pures hT 3 rfl (.nil (.loop (i + 1, HC5, HD5) ?_ ?_ (SubR.cons rfl (SubR.cons rfl (SubR.cons' rfl (by (try dsimp only); exact (int_eq (by rw [wrap_i64 (by omega) (by omega)]; omega))) (SubR.nil _)))) sl))))))
        · dsimp only
          refine ⟨by omega, fun k hk => ?_, hc5⟩
          by_cases hki : k = i
          · subst hki; exact c27.symm
          · exact heq k (by omega)
        · dsimp only
          omega
  ·
    have c9 := of_decide_eq_false c9
    obtain rfl : i = 96 := by omega
    refine TT.exit (.seq (.loop (.here (.seq (.seq (.region (.pures hT 1 rfl (.nil (.seq (.ret (.of (rs := [.tmp 4]) [_] (H :: HD :: r) rfl (.tmp rfl .nil) sl ?_)))))))))))
    dsimp only [one]
    refine ⟨true, _, _, rfl, rfl, .inl ⟨h, by simp only [true_iff]; intro no hno; obtain ⟨k, rfl⟩ : ∃ k : Nat, no = k := ⟨no.toNat, by have := hno.1; omega⟩; exact heq k (by have := hno.2; omega)⟩⟩

end Go.Proofs.YtoalhcodigpgkaaGreatDoor.Sx
end
