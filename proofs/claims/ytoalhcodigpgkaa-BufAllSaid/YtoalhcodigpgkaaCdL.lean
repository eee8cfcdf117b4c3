/- The pool: what is cleaned. Printed by a program of ours off the loaded program and our notes; Lean checks it. -/
import Derived.Test.YtoalhcodigpgkaaPdD
import Derived.Test.YtoalhcodigpgkaaSxT
import Derived.Test.YtoalhcodigpgkaaCdK
import Derived.Test.YtoalhcodigpgkaaSxL
namespace Go.Proofs.Ytoalhcodigpgkaa.Sx
open Go Go.Sx Go.Pl
variable [Outer]

set_option maxHeartbeats 4000000 in
set_option maxRecDepth 100000 in
theorem buf_clean {b : Nat} {pd pw v : Value} {ts : List Tr} {Kl : Chunk} {r : List Chunk} (hP : PoolAt 5 79 76 v ts Kl) {l : Log} {d : Dev} {HL HD : Chunk} (hl : IsLog 5 2 98 72 pw pd l HL) (hd : IsDev 89 65 pd d HD) (hturn : l.sup.turn ≤ 4611686018427387904) {ks : List Nat} (hks : ∀ k ∈ ks, k < ts.length) (hkl : ks.length ≤ 1073741824) {vq : Value} (hq : Row encV 1 r vq (ks.map fun k => (ptrs ts).getD k (.pointer none))) : Fun Try.prog 38 [.pointer (some ⟨b, 0, none⟩), vq] ([(b, blk [pd, pw, v] 75 (0, 0))] :: Kl :: chunk ts :: HL :: HD :: r) (fun v' hs' => ∃ us HL' HD', hs' = [(b, blk [pd, pw, v] 75 (0, 0))] :: Kl :: chunk us :: HL' :: HD' :: r ∧ ptrs us = ptrs ts ∧ AllFr 5 79 us ∧ frs us = (poolClean (frs ts) ks l d).1 ∧ v' = .int .i64 (poolClean (frs ts) ks l d).2.2.2 ∧ IsLog 5 2 98 72 pw pd (poolClean (frs ts) ks l d).2.1 HL' ∧ IsDev 89 65 pd (poolClean (frs ts) ks l d).2.2.1 HD') := by
  refine Fun.enter 84 Try.func38 rfl Try.ntmps38 rfl ?_
  obtain ⟨aq, cq, hvq⟩ := hq.len
  rw [List.length_map] at hvq
  subst hvq
  have hqr := hq
  clear hq
  refine TT.seq (.region (.pures hT 1 rfl (.nil (.seq (.seq (.region (.pures hT 1 rfl (.nil (.seq (.seq (.seq (.region (.pures hT 3 rfl (.nil (.seq (.block (.loop (ι := Nat) (fun j => (j) ≤ ks.length) (fun j => ks.length - (j)) (fun j => [(0, .pointer (some ⟨b, 0, none⟩)), (1, .slice aq ks.length cq), (5, .int .i64 (topLsn (picks (frs ts) (ks.take (j))))), (15, .slice aq ks.length cq), (16, .int .i64 ks.length), (17, .int .i64 ((j) : Nat))]) (fun j => [(b, blk [pd, pw, v] 75 (0, 0))] :: Kl :: chunk ts :: HL :: HD :: r) (0) ?_ (SubR.cons rfl (SubR.cons rfl (SubR.cons' rfl (by (try dsimp only); exact (rfl)) (SubR.cons rfl (SubR.cons rfl (SubR.cons rfl (SubR.nil _))))))) sl ?_)))))))))))))))))
  · omega
  rintro i hi
  show TT _ _ _ [(0, .pointer (some ⟨b, 0, none⟩)), (1, .slice aq ks.length cq), (5, .int .i64 (topLsn (picks (frs ts) (ks.take i)))), (15, .slice aq ks.length cq), (16, .int .i64 ks.length), (17, .int .i64 (i : Nat))] ([(b, blk [pd, pw, v] 75 (0, 0))] :: Kl :: chunk ts :: HL :: HD :: r)
  refine TT.seq (.region (.pures hT 1 rfl (.nil (.seq (.seq (.cond rfl (fun c18 => ?_) (fun c18 => ?_)))))))
  ·
    have c18 := of_decide_eq_true c18
    obtain ⟨k, hk⟩ := nth (l := ks) (i := i) (by omega)
    have hkl := hks k (List.mem_of_getElem? hk)
    obtain ⟨t, ht⟩ := nth (l := ts) (i := k) hkl
    have hq : (ks.map fun k => (ptrs ts).getD k (.pointer none))[i]? = some t.1 := by rw [List.getElem?_map, hk, Option.map_some, List.getD_eq_getElem?_getD, ptrs_at ht]; rfl
    have hft := frs_at ht
    obtain ⟨bf, vb, Kb, hq1, hq2, hq3, hq4, hq5⟩ := chunk_has hP.all (List.mem_of_getElem? ht)
    refine TT.skip (.seq (.seq (.block (.seq (.region (.index hT rfl rfl rfl rfl (hqr.there.there.there.there.there) (by omega) hq rfl (fun ad_19 hel_19 => ?_)))))))
    refine OT.load rfl rfl (hel_19.ld_one hT rfl rfl) rfl (.reg 20 rfl (v := .pointer (some ⟨bf, 0, none⟩)) hq1 (.pures hT 1 rfl (.nil (.seq (.region (.pures hT 4 rfl (.load rfl rfl (Ld.one hT rfl (.there (.there (.here hq5))) rfl) rfl (.pures hT 2 rfl (.nil (.blk (.seq (.region (.pures hT 2 rfl (.nil (.loop (i + 1) ?_ ?_ (SubR.cons rfl (SubR.cons rfl (SubR.cons' rfl (by (try dsimp only); exact (int_eq (by rw [picks_snoc hk hft, topLsn_snoc]))) (SubR.cons rfl (SubR.cons rfl (SubR.cons' rfl (by (try dsimp only); exact (int_eq (by rw [wrap_i64 (by omega) (by omega)]; omega))) (SubR.nil _))))))) sl)))))))))))))))
    · omega
    · omega
  ·
    have c18 := of_decide_eq_false c18
    obtain rfl : i = ks.length := by omega
    rw [List.take_length]
    refine TT.exit (.seq (.loop (.here (.seq (.seq (.seq (.region (.pures hT 3 rfl (.nil (.seq (.cond rfl (fun c30 => ?_) (fun c30 => ?_))))))))))))
    ·
      have c30 : ks = [] := List.eq_nil_of_length_eq_zero (by have := eq_of_beq c30; omega)
      have hw : (poolClean (frs ts) ks l d) = (frs ts, l, d, 0) := by unfold poolClean; rw [if_pos c30]
      rw [hw]
      refine TT.seq (.region (.pures hT 1 rfl (.nil (.seq (.ret (.of (rs := [.tmp 4]) [_] ([(b, blk [pd, pw, v] 75 (0, 0))] :: Kl :: chunk ts :: HL :: HD :: r) rfl (.tmp rfl .nil) sl ?_))))))
      dsimp only [one]
      exact ⟨_, _, _, rfl, rfl, hP.all, rfl, rfl, hl, hd⟩
    ·
      have c30 : ¬ ks = [] := by intro h; rw [h] at c30; simp at c30
      refine TT.skip (.seq (.seq (.seq (.region (.pures hT 3 rfl (.load rfl rfl (Ld.one hT rfl hz rfl) rfl ?_))))))
      refine OT.pures hT 1 rfl (.call Try.call56 rfl rfl rfl rfl (Fun.pull (A := HD) pl (Fun.pull pl (wal_Force hl hd hturn))) ?_)
      rintro v_36 hs_36 ⟨H1, HD1, rfl, rfl, hl1, hd1⟩
      refine OT.pures hT 1 rfl (.nil (.seq (.seq (.region (.pures hT 2 rfl (.nil (.seq (.cond rfl (fun c38 => ?_) (fun c38 => ?_)))))))))
      ·
        have c38 : (l.force d (topLsn (picks (frs ts) ks))).2.2 ≠ 0 := by simpa using c38
        have hw : (poolClean (frs ts) ks l d) = (frs ts, (l.force d (topLsn (picks (frs ts) ks)))) := by unfold poolClean; rw [if_neg c30, if_pos c38]
        rw [hw]
        refine TT.seq (.region (.pures hT 2 rfl (.nil (.seq (.ret (.of (rs := [.tmp 4]) [_] ([(b, blk [pd, pw, v] 75 (0, 0))] :: Kl :: chunk ts :: H1 :: HD1 :: r) rfl (.tmp rfl .nil) sl ?_))))))
        dsimp only [one]
        exact ⟨_, _, _, rfl, rfl, hP.all, rfl, rfl, hl1, hd1⟩
      ·
        have c38 : (l.force d (topLsn (picks (frs ts) ks))).2.2 = 0 := by simpa using c38
        refine TT.skip (.seq (.seq (.seq (.region (.pures hT 3 rfl (.nil (.seq (.block (.loop (ι := Nat × Dev × Chunk) (fun j => (j.1) ≤ ks.length ∧ IsDev 89 65 pd (j.2.1) (j.2.2) ∧ (wrFrames (l.force d (topLsn (picks (frs ts) ks))).2.1 (picks (frs ts) ks)) = wrFrames (j.2.1) (picks (frs ts) (ks.drop (j.1)))) (fun j => ks.length - (j.1)) (fun j => [(0, .pointer (some ⟨b, 0, none⟩)), (1, .slice aq ks.length cq), (40, .slice aq ks.length cq), (41, .int .i64 ks.length), (42, .int .i64 ((j.1) : Nat))]) (fun j => [(b, blk [pd, pw, v] 75 (0, 0))] :: Kl :: chunk ts :: H1 :: (j.2.2) :: r) (0, (l.force d (topLsn (picks (frs ts) ks))).2.1, HD1) ?_ (SubR.cons rfl (SubR.cons rfl (SubR.cons rfl (SubR.cons rfl (SubR.cons rfl (SubR.nil _)))))) sl ?_)))))))))
        · dsimp only
          exact ⟨by omega, hd1, rfl⟩
        rintro ⟨i, d2, X⟩ hI
        dsimp only at hI
        obtain ⟨hi, hX, heq⟩ := hI
        show TT _ _ _ [(0, .pointer (some ⟨b, 0, none⟩)), (1, .slice aq ks.length cq), (40, .slice aq ks.length cq), (41, .int .i64 ks.length), (42, .int .i64 (i : Nat))] ([(b, blk [pd, pw, v] 75 (0, 0))] :: Kl :: chunk ts :: H1 :: X :: r)
        refine TT.seq (.region (.pures hT 1 rfl (.nil (.seq (.seq (.cond rfl (fun c43 => ?_) (fun c43 => ?_)))))))
        ·
          have c43 := of_decide_eq_true c43
          obtain ⟨k, hk⟩ := nth (l := ks) (i := i) (by omega)
          have hkl := hks k (List.mem_of_getElem? hk)
          obtain ⟨t, ht⟩ := nth (l := ts) (i := k) hkl
          have hq : (ks.map fun k => (ptrs ts).getD k (.pointer none))[i]? = some t.1 := by rw [List.getElem?_map, hk, Option.map_some, List.getD_eq_getElem?_getD, ptrs_at ht]; rfl
          have hft := frs_at ht
          obtain ⟨bf, vb, Kb, hq1, hq2, hq3, hq4, hq5⟩ := chunk_has hP.all (List.mem_of_getElem? ht)
          rw [picks_drop hk hft, wrFrames] at heq
          refine TT.skip (.seq (.seq (.block (.seq (.region (.index hT rfl rfl rfl rfl (hqr.there.there.there.there.there) (by omega) hq rfl (fun ad_44 hel_44 => ?_)))))))
          refine OT.load rfl rfl (hel_44.ld_one hT rfl rfl) rfl (.reg 45 rfl (v := .pointer (some ⟨bf, 0, none⟩)) hq1 (.pures hT 1 rfl (.nil (.seq (.seq (.draw ([(b, blk [pd, pw, v] 75 (0, 0))] :: Kl :: chunk ts :: r) mixed (.takes (fuel := 5) hT [0, 1, 2, 4, 5, 6, 8, 9, 10] kr kr rfl (.take (fuel := 4) hT 3 rfl rfl kr kr kr rfl (.load rfl (Ld.one hT rfl hz rfl)) rfl ?_))))))))
          refine AT.take (fuel := 3) hT 7 rfl rfl kr kr kr rfl (.load rfl (Ld.one hT rfl (.there (.there (.here hq5))) rfl)) rfl (.take (fuel := 2) hT 11 rfl rfl kr kr kr rfl (.load rfl (Ld.slc hT rfl (.there (.there (.here hq5))) rfl)) rfl (.op (fuel := 1) 12 kr rfl sl (.call Try.call57 rfl rfl rfl rfl (Fun.pull (A := X) pl (page_Write hX (chunk_row (List.mem_of_getElem? ht) hq2 hq4).there.there)) ?_)))
          rintro v_58 hs_58 ⟨X2, rfl, rfl, hX2⟩
          refine OT.nil (.any (.takes (fuel := 0) hT [13] kr kr rfl (.done kr sl (.seq (.seq (.region (.pures hT 2 rfl (.nil (.seq (.cond rfl (fun c60 => ?_) (fun c60 => ?_)))))))))))
          ·
            have c60 : (writePage d2 t.2.1.no t.2.1.b).2 ≠ 0 := by simpa using c60
            rw [if_pos c60] at heq
            have hw : (poolClean (frs ts) ks l d) = (frs ts, (l.force d (topLsn (picks (frs ts) ks))).1, writePage d2 t.2.1.no t.2.1.b) := by unfold poolClean; rw [if_neg c30, if_neg (by omega), if_pos (by rw [heq]; exact c60), heq]
            rw [hw]
            refine TT.seq (.region (.pures hT 2 rfl (.nil (.seq (.ret (.of (rs := [.tmp 4]) [_] ([(b, blk [pd, pw, v] 75 (0, 0))] :: Kl :: chunk ts :: H1 :: X2 :: r) rfl (.tmp rfl .nil) sl ?_))))))
            dsimp only [one]
            exact ⟨_, _, _, rfl, rfl, hP.all, rfl, rfl, hl1, hX2⟩
          ·
            have c60 : (writePage d2 t.2.1.no t.2.1.b).2 = 0 := by simpa using c60
            rw [if_neg (by omega)] at heq
            refine TT.skip (.blk (.seq (.region (.pures hT 2 rfl (.nil (.loop (i + 1, (writePage d2 t.2.1.no t.2.1.b).1, X2) ?_ ?_ (SubR.cons rfl (SubR.cons rfl (SubR.cons rfl (SubR.cons rfl (SubR.cons' rfl (by (try dsimp only); exact (int_eq (by rw [wrap_i64 (by omega) (by omega)]; omega))) (SubR.nil _)))))) sl))))))
            · dsimp only
              exact ⟨by omega, hX2, heq⟩
            · dsimp only
              omega
        ·
          have c43 := of_decide_eq_false c43
          obtain rfl : i = ks.length := by omega
          rw [List.drop_length] at heq
          replace heq : (wrFrames (l.force d (topLsn (picks (frs ts) ks))).2.1 (picks (frs ts) ks)) = (d2, 0) := heq
          refine TT.exit (.seq (.loop (.here (.seq (.seq (.seq (.region (.pures hT 3 rfl (.load rfl rfl (Ld.one hT rfl hz rfl) rfl ?_)))))))))
          refine OT.call Try.call58 rfl rfl rfl rfl (Fun.pull (A := X) pl (dev_Flush hX)) ?_
          rintro v_67 hs_67 ⟨X3, rfl, rfl, hX3⟩
          refine OT.pures hT 1 rfl (.nil (.seq (.seq (.region (.pures hT 2 rfl (.nil (.seq (.cond rfl (fun c69 => ?_) (fun c69 => ?_)))))))))
          ·
            have c69 : d2.flush.2 ≠ 0 := by simpa using c69
            have hw : (poolClean (frs ts) ks l d) = (frs ts, (l.force d (topLsn (picks (frs ts) ks))).1, d2.flush) := by unfold poolClean; rw [if_neg c30, if_neg (by omega), heq, if_neg (by simp), if_pos c69]
            rw [hw]
            refine TT.seq (.region (.pures hT 2 rfl (.nil (.seq (.ret (.of (rs := [.tmp 4]) [_] ([(b, blk [pd, pw, v] 75 (0, 0))] :: Kl :: chunk ts :: H1 :: X3 :: r) rfl (.tmp rfl .nil) sl ?_))))))
            dsimp only [one]
            exact ⟨_, _, _, rfl, rfl, hP.all, rfl, rfl, hl1, hX3⟩
          ·
            have c69 : d2.flush.2 = 0 := by simpa using c69
            have hw : (poolClean (frs ts) ks l d) = (cleaned (frs ts) ks, (l.force d (topLsn (picks (frs ts) ks))).1, d2.flush.1, 0) := by unfold poolClean; rw [if_neg c30, if_neg (by omega), heq, if_neg (by simp), if_neg (by simpa using c69)]
            rw [hw]
            refine TT.skip (.seq (.seq (.seq (.region (.pures hT 3 rfl (.nil (.seq (.block (.loop (ι := Nat × (List Tr)) (fun j => (j.1) ≤ ks.length ∧ ptrs (j.2) = ptrs ts ∧ AllFr 5 79 (j.2) ∧ frs (j.2) = cleaned (frs ts) (ks.take (j.1))) (fun j => ks.length - (j.1)) (fun j => [(0, .pointer (some ⟨b, 0, none⟩)), (1, .slice aq ks.length cq), (71, .slice aq ks.length cq), (72, .int .i64 ks.length), (73, .int .i64 ((j.1) : Nat))]) (fun j => [(b, blk [pd, pw, v] 75 (0, 0))] :: Kl :: chunk (j.2) :: H1 :: X3 :: r) (0, ts) ?_ (SubR.cons rfl (SubR.cons rfl (SubR.cons rfl (SubR.cons rfl (SubR.cons rfl (SubR.nil _)))))) sl ?_)))))))))
            · dsimp only
              exact ⟨by omega, rfl, hP.all, rfl⟩
            rintro ⟨i, us⟩ hI
            dsimp only at hI
            obtain ⟨hi, hpu, hau, hfu⟩ := hI
            show TT _ _ _ [(0, .pointer (some ⟨b, 0, none⟩)), (1, .slice aq ks.length cq), (71, .slice aq ks.length cq), (72, .int .i64 ks.length), (73, .int .i64 (i : Nat))] ([(b, blk [pd, pw, v] 75 (0, 0))] :: Kl :: chunk us :: H1 :: X3 :: r)
            refine TT.seq (.region (.pures hT 1 rfl (.nil (.seq (.seq (.cond rfl (fun c74 => ?_) (fun c74 => ?_)))))))
            ·
              have c74 := of_decide_eq_true c74
              have hul : us.length = ts.length := by rw [← ptrs_length us, hpu, ptrs_length]
              obtain ⟨k, hk⟩ := nth (l := ks) (i := i) (by omega)
              have hkl := hks k (List.mem_of_getElem? hk)
              obtain ⟨t, ht⟩ := nth (l := us) (i := k) (by omega)
              have hq : (ks.map fun k => (ptrs ts).getD k (.pointer none))[i]? = some t.1 := by rw [List.getElem?_map, hk, Option.map_some, List.getD_eq_getElem?_getD, ← hpu, ptrs_at ht]; rfl
              obtain ⟨bf, vb, Kb, hq1, hq2, hq3, hq4, hq5⟩ := chunk_has hau (List.mem_of_getElem? ht)
              have htf := hau t (List.mem_of_getElem? ht)
              refine TT.skip (.seq (.seq (.block (.seq (.region (.index hT rfl rfl rfl rfl (hqr.there.there.there.there.there) (by omega) hq rfl (fun ad_75 hel_75 => ?_)))))))
              refine OT.load rfl rfl (hel_75.ld_one hT rfl rfl) rfl (.reg 76 rfl (v := .pointer (some ⟨bf, 0, none⟩)) hq1 (.swap (chunk_get_perm ht hq4) pl ?_))
              refine OT.split_chunk (.split_chunk (.pures hT 1 rfl (.nil (.seq (.region (.pures hT 4 rfl (.store hT rfl rfl rfl rfl pl rfl (Nat.le_of_ble_eq_true rfl) rfl (.inl (Nat.le_refl _)) (cs' := [.int .i64 t.2.1.no, vb, .bool false, .int .i64 t.2.1.lsn]) rfl ?_)))))))
              refine OT.pures hT 2 rfl (.store hT rfl rfl rfl rfl pl rfl (Nat.le_of_ble_eq_true rfl) rfl (.inl (Nat.le_refl _)) (cs' := [.int .i64 t.2.1.no, vb, .bool false, .int .i64 0]) rfl ?_)
              refine OT.nil (.blk (.seq (.region (.pures hT 2 rfl (.nil (.join (.join ?_)))))))
              have hcl : (([(bf, blk [.int .i64 t.2.1.no, vb, .bool false, .int .i64 0] 79 (0, 0))] ++ Kb) ++ chunk (Go.Pl.cut us k)).Perm (chunk (us.set k (t.1, t.2.1.clean, [(bf, blk [.int .i64 t.2.1.no, vb, .bool false, .int .i64 0] 79 (0, 0))] ++ Kb))) := chunk_set_perm (by omega) rfl
              refine KT.swap hcl (by simp only [List.append_assoc]; exact Pull.head) (.loop (i + 1, us.set k (t.1, t.2.1.clean, [(bf, blk [.int .i64 t.2.1.no, vb, .bool false, .int .i64 0] 79 (0, 0))] ++ Kb)) ?_ ?_ (SubR.cons rfl (SubR.cons rfl (SubR.cons rfl (SubR.cons rfl (SubR.cons' rfl (by (try dsimp only); exact (int_eq (by rw [wrap_i64 (by omega) (by omega)]; omega))) (SubR.nil _)))))) sl)
              · dsimp only
                exact ⟨by omega, (ptrs_set (t' := (t.1, t.2.1.clean, [(bf, blk [.int .i64 t.2.1.no, vb, .bool false, .int .i64 0] 79 (0, 0))] ++ Kb)) ht rfl).trans hpu, hau.set (t := (t.1, t.2.1.clean, [(bf, blk [.int .i64 t.2.1.no, vb, .bool false, .int .i64 0] 79 (0, 0))] ++ Kb)) ⟨htf.len, htf.no, Int.le_refl _, ⟨bf, vb, Kb, hq1, hq2, hq3, rfl⟩⟩ k, by rw [frs_set (t' := (t.1, t.2.1.clean, [(bf, blk [.int .i64 t.2.1.no, vb, .bool false, .int .i64 0] 79 (0, 0))] ++ Kb)) ht rfl, hfu, cleaned_snoc hk]⟩
              · dsimp only
                omega
            ·
              have c74 := of_decide_eq_false c74
              obtain rfl : i = ks.length := by omega
              rw [List.take_length] at hfu
              refine TT.exit (.seq (.loop (.here (.seq (.seq (.region (.pures hT 1 rfl (.nil (.seq (.ret (.of (rs := [.tmp 4]) [_] ([(b, blk [pd, pw, v] 75 (0, 0))] :: Kl :: chunk us :: H1 :: X3 :: r) rfl (.tmp rfl .nil) sl ?_)))))))))))
              dsimp only [one]
              exact ⟨_, _, _, rfl, hpu, hau, hfu, rfl, hl1, hX3⟩

end Go.Proofs.Ytoalhcodigpgkaa.Sx
