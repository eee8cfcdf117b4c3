/- The pool: a page put, pages flushed. Printed by a program of ours off the loaded program and our notes; Lean checks it. -/
import Derived.Test.YtoalhcodigpgkaaPdE
import Derived.Test.YtoalhcodigpgkaaSxT
import Derived.Test.YtoalhcodigpgkaaCdN
import Derived.Test.YtoalhcodigpgkaaSxL
namespace Go.Proofs.Ytoalhcodigpgkaa.Sx
open Go Go.Sx Go.Pl
variable [Outer]

set_option maxHeartbeats 4000000 in
set_option maxRecDepth 100000 in
theorem buf_Put {p pd pw : Value} {fs : List Fr} {l : Log} {d : Dev} {H HL HD : Chunk} {r : List Chunk} (hp : IsPool 5 79 75 76 p pd pw fs H) (hl : IsLog 5 2 98 72 pw pd l HL) (hd : IsDev 89 65 pd d HD) (hturn : l.sup.turn + fs.length + 1 ≤ 4611686018427387904) (hfs : fs.length ≤ 1000000) {no lsn : Int} {vb : Value} {bs : List UInt8} (hr : Row Go.Sx.encB 1 r vb bs) (hbl : bs.length ≤ 1073741824) : Fun Try.prog 13 [p, .int .i64 no, vb, .int .i64 lsn] (H :: HL :: HD :: r) (fun v' hs' => ∃ H' HL' HD', hs' = H' :: HL' :: HD' :: r ∧ v' = .int .i64 (poolPut fs l d no bs lsn).1 ∧ IsPool 5 79 75 76 p pd pw (poolPut fs l d no bs lsn).2.1 H' ∧ IsLog 5 2 98 72 pw pd (poolPut fs l d no bs lsn).2.2.1 HL' ∧ IsDev 89 65 pd (poolPut fs l d no bs lsn).2.2.2 HD') := by
  refine Fun.enter 57 Try.func13 rfl Try.ntmps13 rfl ?_
  obtain ⟨ab, cb, hvb⟩ := hr.len
  subst hvb
  obtain ⟨b, v, ts, Kl, hpp, hfe, hP, hH⟩ := hp.is
  subst hpp
  subst hH
  subst hfe
  have hfl := frs_length ts
  have hplen := ptrs_length ts
  obtain ⟨av, cv, hv⟩ := (hP.own.row (hs := r)).len
  subst hv
  refine TT.perm perm3 (.seq (.region (.pures hT 1 rfl (.nil (.seq (.seq (.seq (.region (.pures hT 2 rfl (.call Try.call30 rfl rfl rfl rfl (buf_may) ?_))))))))))
  rintro v_13 hs_13 ⟨rfl, rfl⟩
  refine OT.pures hT 1 rfl (.nil (.seq (.seq (.region (.pures hT 2 rfl (.nil (.seq (.cond rfl (fun c15 => ?_) (fun c15 => ?_)))))))))
  ·
    have c15 : ¬ mayPage no := by intro h; unfold mayPool at c15; rw [if_pos h] at c15; simp at c15
    have hw : (poolPut (frs ts) l d no bs lsn) = (3, frs ts, l, d) := by unfold poolPut; rw [if_pos c15]
    have hm : mayPool no = 3 := by unfold mayPool; rw [if_neg c15]
    rw [hw, hm]
    refine TT.seq (.region (.pures hT 2 rfl (.nil (.seq (.ret (.of (rs := [.tmp 8]) [_] (([(b, blk [pd, pw, .slice av (ptrs ts).length cv] 75 (0, 0))] ++ (Kl ++ chunk ts)) :: HL :: HD :: r) rfl (.tmp rfl .nil) sl ?_))))))
    dsimp only [one]
    exact ⟨_, _, _, rfl, rfl, ⟨⟨b, _, _, _, rfl, rfl, hP, rfl⟩⟩, hl, hd⟩
  ·
    have c15 : mayPage no := by refine Classical.byContradiction fun h => ?_; unfold mayPool at c15; rw [if_neg h] at c15; simp at c15
    refine TT.skip (.seq (.seq (.seq (.region (.pures hT 3 rfl (.nil (.seq (.cond rfl (fun c19 => ?_) (fun c19 => ?_)))))))))
    ·
      have c19 : ¬ bs.length = 256 := by simp at c19; omega
      have hw : (poolPut (frs ts) l d no bs lsn) = (1, frs ts, l, d) := by unfold poolPut; rw [if_neg (by simpa using c15), if_pos c19]
      rw [hw]
      refine TT.seq (.region (.pures hT 1 rfl (.nil (.seq (.ret (.of (rs := [.tmp 8]) [_] (([(b, blk [pd, pw, .slice av (ptrs ts).length cv] 75 (0, 0))] ++ (Kl ++ chunk ts)) :: HL :: HD :: r) rfl (.tmp rfl .nil) sl ?_))))))
      dsimp only [one]
      exact ⟨_, _, _, rfl, rfl, ⟨⟨b, _, _, _, rfl, rfl, hP, rfl⟩⟩, hl, hd⟩
    ·
      have c19 : bs.length = 256 := by simp at c19; omega
      refine TT.skip (.seq (.seq (.region (.pures hT 2 rfl (.call Try.call31 rfl rfl rfl rfl (buf_find hP) ?_)))))
      rintro v_22 hs_22 ⟨v2, K2, rfl, hP2, rfl⟩
      refine OT.pures hT 1 rfl (.nil (.seq (.cut (ι := Value × (List Tr) × Chunk × Fr × Nat × Value × Chunk) (fun j => AllFr 5 79 (j.2.1) ∧ Own encV 1 76 (j.1) (ptrs (j.2.1) ++ [.pointer (some ⟨(j.2.2.2.2.1), 0, none⟩)]) (j.2.2.1) ∧ oneC (j.1) = true ∧ Own Go.Sx.encB 1 5 (j.2.2.2.2.2.1) (j.2.2.2.1).b (j.2.2.2.2.2.2) ∧ oneC (j.2.2.2.2.2.1) = true ∧ mayPage (j.2.2.2.1).no ∧ 0 ≤ (j.2.2.2.1).lsn ∧ (j.2.1).length ≤ ts.length ∧ putAt (frs ts) no bs lsn = frs (j.2.1) ++ [⟨(j.2.2.2.1).no, bs, true, max (j.2.2.2.1).lsn lsn⟩]) (fun j => [(0, .pointer (some ⟨b, 0, none⟩)), (2, .slice ab bs.length cb), (3, .int .i64 lsn), (10, .pointer (some ⟨(j.2.2.2.2.1), 0, none⟩))]) (fun j => [(b, blk [pd, pw, (j.1)] 75 (0, 0))] :: (j.2.2.1) :: chunk (j.2.1) :: [((j.2.2.2.2.1), blk (frCells (j.2.2.2.1) (j.2.2.2.2.2.1)) 79 (0, 0))] :: (j.2.2.2.2.2.2) :: HL :: HD :: r) ?_ ?_)))
      ·
        refine TT.seq (.region (.pures hT 2 rfl (.nil (.seq (.cond rfl (fun c24 => ?_) (fun c24 => ?_))))))
        ·
          obtain ⟨hf0, hat⟩ := findP_none hP.all c24
          rw [hat] at hP2 ⊢
          refine TT.seq (.region (.pures hT 1 rfl (.build (cs := [.int .i64 no, .slice none 0 0, .bool false, .int .i64 0]) hT rfl Try.zeroValue79 rfl rfl rfl rfl (.box rfl rfl rfl (fun b_27 => ?_)))))
          refine OT.pures hT 1 rfl (.nil (.seq (.region (.pures hT 4 rfl (.load rfl rfl (Ld.slc hT rfl hz rfl) rfl ?_)))))
          refine OT.pures hT 1 rfl ?_
          refine OT.buildSlice (enc := encV) (xs := [.pointer (some ⟨b_27, 0, none⟩)]) (xos := [.tmp 33]) el73 rfl rfl rfl rfl rfl (by simp [Value.cells]) (fun _ _ => rfl) rfl (by decide) rfl (fun v_34 H_34 ho_34 => ?_)
          refine OT.append hT el73 rfl rfl rfl rfl pl hP2.own ro rfl (by simp only [List.length_cons, List.length_nil]; omega) rfl (fun v_35 H_35 ho_35 => ?_)
          obtain ⟨a35, c35, hv35⟩ := (ho_35.row (hs := r)).len
          subst hv35
          refine OT.pures hT 2 rfl (.store hT rfl rfl rfl rfl pl rfl (Nat.le_of_ble_eq_true rfl) rfl (.inl (Nat.le_refl _)) (cs' := [pd, pw, .slice a35 (ptrs ts ++ [Value.pointer (some ⟨b_27, 0, none⟩)]).length c35]) rfl ?_)
          refine OT.nil (.chunk0 (.cut (.slice a35 (ptrs ts ++ [Value.pointer (some ⟨b_27, 0, none⟩)]).length c35, ts, H_35, ⟨no, [], false, 0⟩, b_27, .slice none 0 0, []) ?_ (SubR.cons rfl (SubR.cons rfl (SubR.cons rfl (SubR.cons rfl (SubR.nil _))))) sl))
          · dsimp only
            refine ⟨hP.all, ho_35, rfl, Own.nil, rfl, c15, Int.le_refl _, Nat.le_refl _, ?_⟩
            unfold putAt; rw [if_pos hf0]
        ·
          obtain ⟨hf0, us, t, bf, vb, Kb, hat, hfp, hq1, hq2, hq3, hq4, hno, htm, hul, htf, hau⟩ := findP_some hP.all c24
          rw [hfp]
          refine TT.skip (.swap (A := chunk (askedT ts no)) (B := chunk us ++ ([(bf, blk (frCells t.2.1 vb) 79 (0, 0))] ++ Kb)) (by rw [hat, chunk_snoc, hq4]) pl ?_)
          refine KT.split (.swap (List.Perm.refl ([(bf, blk (frCells t.2.1 vb) 79 (0, 0))] ++ Kb)) pl ?_)
          refine KT.split (.cut (v2, us, K2, t.2.1, bf, vb, Kb) ?_ (SubR.cons rfl (SubR.cons rfl (SubR.cons rfl (SubR.cons rfl (SubR.nil _))))) sl)
          · dsimp only
            refine ⟨hau, ?_, hP2.one, hq2, hq3, htf.no, htf.lsn, by omega, ?_⟩
            · have h := hP2.own
              rw [hat, ptrs_snoc, hq1] at h
              exact h
            · unfold putAt
              rw [if_neg hf0, ← askedT_frs, hat, frs_snoc]
              simp [lastFr]
      ·
        rintro ⟨v3, us, K3, f, bf, vb, Kb⟩ hI
        dsimp only at hI
        obtain ⟨hau, ho3, hone3, hob, hone, hno, hls, hul, hput⟩ := hI
        show TT _ _ _ [(0, .pointer (some ⟨b, 0, none⟩)), (2, .slice ab bs.length cb), (3, .int .i64 lsn), (10, .pointer (some ⟨bf, 0, none⟩))] ([(b, blk [pd, pw, v3] 75 (0, 0))] :: K3 :: chunk us :: [(bf, blk (frCells f vb) 79 (0, 0))] :: Kb :: HL :: HD :: r)
        have hw : (poolPut (frs ts) l d no bs lsn) = ((room 6 (frs us ++ [⟨f.no, bs, true, max f.lsn lsn⟩]) l d).2.2.2, (room 6 (frs us ++ [⟨f.no, bs, true, max f.lsn lsn⟩]) l d).1, (room 6 (frs us ++ [⟨f.no, bs, true, max f.lsn lsn⟩]) l d).2.1, (room 6 (frs us ++ [⟨f.no, bs, true, max f.lsn lsn⟩]) l d).2.2.1) := by unfold poolPut; rw [if_neg (by simpa using c15), if_neg (by simpa using c19), hput]
        rw [hw]
        refine TT.seq (.draw (r) mixed (.takes (fuel := 12) hT [0, 1, 2, 3, 5, 6, 7, 9] kr kr rfl (.all (fuel := 11) [4, 8] kr (by decide) sl ?_)))
        intro i hi
        simp only [List.mem_cons, List.not_mem_nil, or_false] at hi
        rcases hi with rfl | rfl
        ·
          refine ⟨_, rfl, ?_⟩
          refine OT.call Try.call32 rfl rfl rfl rfl (bytes_Clone (hr.there.there.there.there.there.there.there) (by omega)) ?_
          rintro v_42 hs_42 ⟨HB, rfl, hoB⟩
          obtain ⟨a4, c4, hv4⟩ := (hoB.row (hs := r)).len
          subst hv4
          refine OT.nil (.any (.op (fuel := 10) 8 kr rfl sl (.load rfl rfl (Ld.one hT rfl hz (show (frCells f vb)[3]? = some (.int .i64 f.lsn) from rfl)) rfl ?_)))
          refine OT.nil (.any (.takes (fuel := 7) hT [10, 11, 12] kr kr rfl (.op (fuel := 6) 13 kr rfl sl (.store hT rfl rfl rfl rfl pl rfl (Nat.le_of_ble_eq_true rfl) rfl (.inl (Nat.le_refl _)) (cs' := [.int .i64 f.no, .slice a4 bs.length c4, .bool f.dirty, .int .i64 f.lsn]) rfl ?_))))
          refine OT.nil (.any (.takes (fuel := 4) hT [14, 15] kr kr rfl (.op (fuel := 3) 16 kr rfl sl (.store hT rfl rfl rfl rfl pl rfl (Nat.le_of_ble_eq_true rfl) rfl (.inl (Nat.le_refl _)) (cs' := [.int .i64 f.no, .slice a4 bs.length c4, .bool true, .int .i64 f.lsn]) rfl ?_))))
          refine OT.nil (.any (.takes (fuel := 1) hT [17, 18] kr kr rfl (.op (fuel := 0) 19 kr rfl sl (.store hT rfl rfl rfl rfl pl rfl (Nat.le_of_ble_eq_true rfl) rfl (.inl (Nat.le_refl _)) (cs' := [.int .i64 f.no, .slice a4 bs.length c4, .bool true, .int .i64 (max f.lsn lsn)]) rfl ?_))))
          refine OT.nil (.any (.done kr sl (.seq (.seq (.region (.pures hT 1 rfl ?_))))))
          have hPn : PoolAt 5 79 76 v3 (us ++ [(.pointer (some ⟨bf, 0, none⟩), ⟨f.no, bs, true, max f.lsn lsn⟩, [(bf, blk [.int .i64 f.no, .slice a4 bs.length c4, .bool true, .int .i64 (max f.lsn lsn)] 79 (0, 0))] ++ HB)]) K3 := ⟨hau.snoc ⟨c19, hno, (by show 0 ≤ max f.lsn lsn; omega), ⟨bf, _, HB, rfl, hoB, rfl, rfl⟩⟩, by rw [ptrs_snoc]; exact ho3, hone3, by rw [List.length_append]; simp; omega⟩
          refine OT.call Try.call33 rfl rfl rfl rfl (Fun.weaken (hs' := [(b, blk [pd, pw, v3] 75 (0, 0))] :: K3 :: (chunk us ++ ([(bf, blk [.int .i64 f.no, .slice a4 bs.length c4, .bool true, .int .i64 (max f.lsn lsn)] 79 (0, 0))] ++ HB)) :: HL :: HD :: r) sl (by have h := buf_room (r := r) (b := b) hPn hl hd (n := 6) (by omega) (by rw [List.length_append]; simp; omega); rw [chunk_snoc] at h; exact h)) ?_
          rintro v_56 hs_56 ⟨v5, K5, us5, HL5, HD5, rfl, hP5, hlast, hfu, rfl, hl5, hd5⟩
          rw [frs_snoc] at hfu hl5 hd5 ⊢
          refine OT.pures hT 1 rfl (.nil (.seq (.ret (.of (rs := [.tmp 8]) [_] (([(b, blk [pd, pw, v5] 75 (0, 0))] ++ (K5 ++ chunk us5)) :: HL5 :: HD5 :: r) rfl (.tmp rfl .nil) sl ?_))))
          dsimp only [one]
          exact ⟨_, _, _, rfl, rfl, ⟨⟨b, _, _, _, rfl, hfu.symm, hP5, rfl⟩⟩, hl5, hd5⟩
        ·
          refine ⟨_, rfl, ?_⟩
          refine OT.load rfl rfl (Ld.one hT rfl hz (show (frCells f vb)[3]? = some (.int .i64 f.lsn) from rfl)) rfl ?_
          refine OT.nil (.any (.takes (fuel := 10) hT [10] kr kr rfl (.op (fuel := 9) 4 kr rfl sl (.call Try.call32 rfl rfl rfl rfl (bytes_Clone (hr.there.there.there.there.there.there.there) (by omega)) ?_))))
          rintro v_42 hs_42 ⟨HB, rfl, hoB⟩
          obtain ⟨a4, c4, hv4⟩ := (hoB.row (hs := r)).len
          subst hv4
          refine OT.nil (.any (.takes (fuel := 7) hT [11, 12] kr kr rfl (.op (fuel := 6) 13 kr rfl sl (.store hT rfl rfl rfl rfl pl rfl (Nat.le_of_ble_eq_true rfl) rfl (.inl (Nat.le_refl _)) (cs' := [.int .i64 f.no, .slice a4 bs.length c4, .bool f.dirty, .int .i64 f.lsn]) rfl ?_))))
          refine OT.nil (.any (.takes (fuel := 4) hT [14, 15] kr kr rfl (.op (fuel := 3) 16 kr rfl sl (.store hT rfl rfl rfl rfl pl rfl (Nat.le_of_ble_eq_true rfl) rfl (.inl (Nat.le_refl _)) (cs' := [.int .i64 f.no, .slice a4 bs.length c4, .bool true, .int .i64 f.lsn]) rfl ?_))))
          refine OT.nil (.any (.takes (fuel := 1) hT [17, 18] kr kr rfl (.op (fuel := 0) 19 kr rfl sl (.store hT rfl rfl rfl rfl pl rfl (Nat.le_of_ble_eq_true rfl) rfl (.inl (Nat.le_refl _)) (cs' := [.int .i64 f.no, .slice a4 bs.length c4, .bool true, .int .i64 (max f.lsn lsn)]) rfl ?_))))
          refine OT.nil (.any (.done kr sl (.seq (.seq (.region (.pures hT 1 rfl ?_))))))
          have hPn : PoolAt 5 79 76 v3 (us ++ [(.pointer (some ⟨bf, 0, none⟩), ⟨f.no, bs, true, max f.lsn lsn⟩, [(bf, blk [.int .i64 f.no, .slice a4 bs.length c4, .bool true, .int .i64 (max f.lsn lsn)] 79 (0, 0))] ++ HB)]) K3 := ⟨hau.snoc ⟨c19, hno, (by show 0 ≤ max f.lsn lsn; omega), ⟨bf, _, HB, rfl, hoB, rfl, rfl⟩⟩, by rw [ptrs_snoc]; exact ho3, hone3, by rw [List.length_append]; simp; omega⟩
          refine OT.call Try.call33 rfl rfl rfl rfl (Fun.weaken (hs' := [(b, blk [pd, pw, v3] 75 (0, 0))] :: K3 :: (chunk us ++ ([(bf, blk [.int .i64 f.no, .slice a4 bs.length c4, .bool true, .int .i64 (max f.lsn lsn)] 79 (0, 0))] ++ HB)) :: HL :: HD :: r) sl (by have h := buf_room (r := r) (b := b) hPn hl hd (n := 6) (by omega) (by rw [List.length_append]; simp; omega); rw [chunk_snoc] at h; exact h)) ?_
          rintro v_56 hs_56 ⟨v5, K5, us5, HL5, HD5, rfl, hP5, hlast, hfu, rfl, hl5, hd5⟩
          rw [frs_snoc] at hfu hl5 hd5 ⊢
          refine OT.pures hT 1 rfl (.nil (.seq (.ret (.of (rs := [.tmp 8]) [_] (([(b, blk [pd, pw, v5] 75 (0, 0))] ++ (K5 ++ chunk us5)) :: HL5 :: HD5 :: r) rfl (.tmp rfl .nil) sl ?_))))
          dsimp only [one]
          exact ⟨_, _, _, rfl, rfl, ⟨⟨b, _, _, _, rfl, hfu.symm, hP5, rfl⟩⟩, hl5, hd5⟩

set_option maxHeartbeats 4000000 in
set_option maxRecDepth 100000 in
theorem buf_Flush {p pd pw : Value} {fs : List Fr} {l : Log} {d : Dev} {H HL HD : Chunk} {r : List Chunk} (hp : IsPool 5 79 75 76 p pd pw fs H) (hl : IsLog 5 2 98 72 pw pd l HL) (hd : IsDev 89 65 pd d HD) (hturn : l.sup.turn + fs.length + 1 ≤ 4611686018427387904) (hfs : fs.length ≤ 1000000) {no : Int} : Fun Try.prog 16 [p, .int .i64 no] (H :: HL :: HD :: r) (fun v' hs' => ∃ H' HL' HD', hs' = H' :: HL' :: HD' :: r ∧ v' = .int .i64 (poolFlush fs l d no).1 ∧ IsPool 5 79 75 76 p pd pw (poolFlush fs l d no).2.1 H' ∧ IsLog 5 2 98 72 pw pd (poolFlush fs l d no).2.2.1 HL' ∧ IsDev 89 65 pd (poolFlush fs l d no).2.2.2 HD') := by
  refine Fun.enter 31 Try.func16 rfl Try.ntmps16 rfl ?_
  obtain ⟨b, v, ts, Kl, hpp, hfe, hP, hH⟩ := hp.is
  subst hpp
  subst hH
  subst hfe
  have hfl := frs_length ts
  have hplen := ptrs_length ts
  obtain ⟨av, cv, hv⟩ := (hP.own.row (hs := r)).len
  subst hv
  refine TT.perm perm3 (.seq (.region (.box rfl rfl rfl (fun b_3 => ?_))))
  refine OT.pures hT 1 rfl (.nil (.seq (.seq (.seq (.region (.pures hT 1 rfl (.load rfl rfl (Ld.one hT rfl hz rfl) rfl ?_)))))))
  refine OT.call Try.call30 rfl rfl rfl rfl (buf_may) ?_
  rintro v_9 hs_9 ⟨rfl, rfl⟩
  refine OT.pures hT 1 rfl (.nil (.seq (.seq (.region (.pures hT 2 rfl (.nil (.seq (.cond rfl (fun c11 => ?_) (fun c11 => ?_)))))))))
  ·
    have c15 : ¬ mayPage no := by intro h; unfold mayPool at c11; rw [if_pos h] at c11; simp at c11
    have hw : (poolFlush (frs ts) l d no) = (3, frs ts, l, d) := by unfold poolFlush; rw [if_pos c15]
    have hm : mayPool no = 3 := by unfold mayPool; rw [if_neg c15]
    rw [hw, hm]
    refine TT.seq (.region (.pures hT 2 rfl (.nil (.seq (.ret (.of (rs := [.tmp 4]) [_] (([(b, blk [pd, pw, .slice av (ptrs ts).length cv] 75 (0, 0))] ++ (Kl ++ chunk ts)) :: HL :: HD :: r) rfl (.tmp rfl .nil) sl ?_))))))
    dsimp only [one]
    exact ⟨_, _, _, rfl, rfl, ⟨⟨b, _, _, _, rfl, rfl, hP, rfl⟩⟩, hl, hd⟩
  ·
    have c15 : mayPage no := by refine Classical.byContradiction fun h => ?_; unfold mayPool at c11; rw [if_neg h] at c11; simp at c11
    refine TT.skip (.seq (.seq (.region (.pures hT 3 rfl (.load rfl rfl (Ld.slc hT rfl hz rfl) rfl ?_)))))
    refine OT.pures hT 1 rfl (.call Try.call36 rfl rfl rfl rfl (sl_IndexFr (q := (fun t : Tr => isNoDirty no t.2.1)) (N := 37) (caps := [.pointer (some ⟨b_3, 0, none⟩)]) (hP.own.row.there.there) hP.few Try.call37 (fun t ht => by obtain ⟨bf, vb, Kb, h1, h2, h3, h4, h5⟩ := chunk_has hP.all ht; rw [h1]; exact buf_flush1 (.there (.there (.there (.here h5)))) Has.one)) ?_)
    rintro v_18 hs_18 ⟨rfl, rfl⟩
    have hfi : firstAt (fun t : Tr => isNoDirty no t.2.1) 0 ts = firstAt (isNoDirty no) 0 (frs ts) := (firstAt_map _ _ _ _).symm
    rw [hfi]
    refine OT.pures hT 1 rfl (.nil (.seq (.seq (.seq (.region (.pures hT 2 rfl (.nil (.seq (.cond rfl (fun c20 => ?_) (fun c20 => ?_))))))))))
    ·
      have c20 := of_decide_eq_true c20
      have hw : (poolFlush (frs ts) l d no) = (0, frs ts, l, d) := by unfold poolFlush; rw [if_neg (by simpa using c15), if_pos c20]
      rw [hw]
      refine TT.seq (.region (.pures hT 1 rfl (.nil (.seq (.ret (.of (rs := [.tmp 4]) [_] (([(b, blk [pd, pw, .slice av (ptrs ts).length cv] 75 (0, 0))] ++ (Kl ++ chunk ts)) :: HL :: HD :: r) rfl (.tmp rfl .nil) sl ?_))))))
      dsimp only [one]
      exact ⟨_, _, _, rfl, rfl, ⟨⟨b, _, _, _, rfl, rfl, hP, rfl⟩⟩, hl, hd⟩
    ·
      have c20 := of_decide_eq_false c20
      have c20' := c20
      obtain ⟨i, hi, hil⟩ := firstAt_some c20
      rw [hfl] at hil
      obtain ⟨t, ht⟩ := nth (l := ts) (i := i) hil
      have hpt := ptrs_at ht
      obtain ⟨bf, vb, Kb, hq1, hq2, hq3, hq4, hq5⟩ := chunk_has hP.all (List.mem_of_getElem? ht)
      have hw : (poolFlush (frs ts) l d no) = ((poolClean (frs ts) [i] l d).2.2.2, (poolClean (frs ts) [i] l d).1, (poolClean (frs ts) [i] l d).2.1, (poolClean (frs ts) [i] l d).2.2.1) := by unfold poolFlush; rw [if_neg (by simpa using c15), if_neg c20', hi]; rfl
      rw [hw]
      rw [hi]
      refine TT.skip (.seq (.seq (.region (.pures hT 4 rfl (.load rfl rfl (Ld.slc hT rfl hz rfl) rfl ?_)))))
      refine OT.pures hT 1 rfl (.index hT rfl rfl rfl rfl (hP.own.row.there.there) (by omega) hpt rfl (fun ad_27 hel_27 => ?_))
      refine OT.load rfl rfl (hel_27.ld_one hT rfl rfl) rfl ?_
      refine OT.buildSlice (enc := encV) (xs := [t.1]) (xos := [.tmp 28]) el73 rfl rfl rfl rfl (by rw [hq1]; rfl) (by rw [hq1]; simp [Value.cells]) (fun _ _ => rfl) rfl (by decide) rfl (fun v_29 H_29 ho_29 => ?_)
      refine OT.call Try.call38 rfl rfl rfl rfl (Fun.weaken (hs' := [(b, blk [pd, pw, (.slice av (ptrs ts).length cv)] 75 (0, 0))] :: Kl :: chunk ts :: HL :: HD :: H_29 :: r) sl (buf_clean (r := H_29 :: r) hP hl hd (by omega) (ks := [i]) (by intro k hk; rw [List.mem_singleton] at hk; omega) (by simp) (by have h := ho_29.row (hs := r); have e : [t.1] = ([i].map fun k => (ptrs ts).getD k (.pointer none)) := (by simp [List.getD_eq_getElem?_getD, hpt]); rw [← e]; exact h))) ?_
      rintro v_30 hs_30 ⟨us, HL5, HD5, rfl, hpu, hau, hfu, rfl, hl5, hd5⟩
      refine OT.pures hT 1 rfl (.nil (.seq (.ret (.of (rs := [.tmp 4]) [_] (([(b, blk [pd, pw, .slice av (ptrs ts).length cv] 75 (0, 0))] ++ (Kl ++ chunk us)) :: HL5 :: HD5 :: r) rfl (.tmp rfl .nil) sl ?_))))
      dsimp only [one]
      have hul : us.length = ts.length := by rw [← ptrs_length us, hpu, ptrs_length]
      exact ⟨_, _, _, rfl, rfl, ⟨⟨b, _, _, _, rfl, hfu.symm, ⟨hau, by rw [hpu]; exact hP.own, rfl, by have := hP.few; omega⟩, rfl⟩⟩, hl5, hd5⟩

set_option maxHeartbeats 4000000 in
set_option maxRecDepth 100000 in
theorem buf_All {p pd pw : Value} {fs : List Fr} {l : Log} {d : Dev} {H HL HD : Chunk} {r : List Chunk} (hp : IsPool 5 79 75 76 p pd pw fs H) (hl : IsLog 5 2 98 72 pw pd l HL) (hd : IsDev 89 65 pd d HD) (hturn : l.sup.turn + fs.length + 1 ≤ 4611686018427387904) (hfs : fs.length ≤ 1000000) : Fun Try.prog 17 [p] (H :: HL :: HD :: r) (fun v' hs' => ∃ H' HL' HD', hs' = H' :: HL' :: HD' :: r ∧ v' = .int .i64 (poolAll fs l d).1 ∧ IsPool 5 79 75 76 p pd pw (poolAll fs l d).2.1 H' ∧ IsLog 5 2 98 72 pw pd (poolAll fs l d).2.2.1 HL' ∧ IsDev 89 65 pd (poolAll fs l d).2.2.2 HD') := by
  refine Fun.enter 29 Try.func17 rfl Try.ntmps17 rfl ?_
  obtain ⟨b, v, ts, Kl, hpp, hfe, hP, hH⟩ := hp.is
  subst hpp
  subst hH
  subst hfe
  have hfl := frs_length ts
  have hplen := ptrs_length ts
  obtain ⟨av, cv, hv⟩ := (hP.own.row (hs := r)).len
  subst hv
  refine TT.perm perm3 ?_
  have hfew := hP.few
  refine TT.seq (.region (.pures hT 1 rfl (.nil (.seq (.seq (.seq (.region (.pures hT 2 rfl (.nil (.seq (.cond_false rfl (.skip (.seq (.seq (.region (.pures hT 1 rfl (.nil (.seq (.seq (.seq (.region (.pures hT 3 rfl (.load rfl rfl (Ld.slc hT rfl hz rfl) rfl ?_)))))))))))))))))))))))
  refine OT.pures hT 2 rfl (.nil (.seq (.block (.chunk0 (.loop (ι := Nat × Value × Chunk) (fun j => (j.1) ≤ ts.length ∧ Own encV 1 76 (j.2.1) ((dirtyAt 0 ((frs ts).take (j.1))).map fun k => (ptrs ts).getD k (.pointer none)) (j.2.2)) (fun j => ts.length - (j.1)) (fun j => [(0, .pointer (some ⟨b, 0, none⟩)), (3, (j.2.1)), (11, .slice av (ptrs ts).length cv), (12, .int .i64 (ptrs ts).length), (13, .int .i64 ((j.1) : Nat))]) (fun j => (j.2.2) :: [(b, blk [pd, pw, (.slice av (ptrs ts).length cv)] 75 (0, 0))] :: Kl :: chunk ts :: HL :: HD :: r) (0, .slice none 0 0, []) ?_ (SubR.cons rfl (SubR.cons rfl (SubR.cons rfl (SubR.cons rfl (SubR.cons rfl (SubR.nil _)))))) sl ?_)))))
  · dsimp only
    exact ⟨by omega, Own.nil⟩
  rintro ⟨i, w, W⟩ hI
  dsimp only at hI
  obtain ⟨hi, hW⟩ := hI
  show TT _ _ _ [(0, .pointer (some ⟨b, 0, none⟩)), (3, w), (11, .slice av (ptrs ts).length cv), (12, .int .i64 (ptrs ts).length), (13, .int .i64 (i : Nat))] (W :: [(b, blk [pd, pw, (.slice av (ptrs ts).length cv)] 75 (0, 0))] :: Kl :: chunk ts :: HL :: HD :: r)
  refine TT.seq (.region (.pures hT 1 rfl (.nil (.seq (.seq (.cond rfl (fun c14 => ?_) (fun c14 => ?_)))))))
  ·
    have c14 := of_decide_eq_true c14
    obtain ⟨t, ht⟩ := nth (l := ts) (i := i) (by omega)
    have hpt := ptrs_at ht
    have hft := frs_at ht
    obtain ⟨bf, vb, Kb, hq1, hq2, hq3, hq4, hq5⟩ := chunk_has hP.all (List.mem_of_getElem? ht)
    have hdl := dirtyAt_length ((frs ts).take i) 0
    rw [List.length_take] at hdl
    refine TT.skip (.seq (.seq (.block (.seq (.region (.index hT rfl rfl rfl rfl (hP.own.row.there.there) (by omega) hpt rfl (fun ad_15 hel_15 => ?_)))))))
    refine OT.load rfl rfl (hel_15.ld_one hT rfl rfl) rfl (.reg 16 rfl (v := .pointer (some ⟨bf, 0, none⟩)) hq1 (.pures hT 1 rfl (.nil (.seq (.seq (.region (.pures hT 3 rfl (.load rfl rfl (Ld.one hT rfl (.there (.there (.there (.here hq5)))) rfl) rfl (.nil (.seq (.cond rfl (fun c20 => ?_) (fun c20 => ?_))))))))))))
    ·
      have hds := dirtyAt_snoc hft 0
      rw [if_pos (show t.2.1.dirty = true from c20), Nat.zero_add] at hds
      refine TT.region (.pures hT 2 rfl ?_)
      refine OT.buildSlice (enc := encV) (xs := [t.1]) (xos := [.tmp 22]) el73 rfl rfl rfl rfl (by rw [hq1]; rfl) (by simp [Value.cells]) (fun _ _ => rfl) rfl (by decide) rfl (fun v_23 H_23 ho_23 => ?_)
      refine OT.append hT el73 rfl rfl rfl rfl pl hW ro (by rw [hq1]; rfl) (by simp only [List.length_map, List.length_cons, List.length_nil]; omega) rfl (fun v_24 H_24 ho_24 => ?_)
      refine OT.pures hT 1 rfl (.nil (.blk (.seq (.region (.pures hT 2 rfl (.nil (.loop (i + 1, v_24, H_24) ?_ ?_ (SubR.cons rfl (SubR.cons rfl (SubR.cons rfl (SubR.cons rfl (SubR.cons' rfl (by (try dsimp only); exact (int_eq (by rw [wrap_i64 (by omega) (by omega)]; omega))) (SubR.nil _)))))) sl)))))))
      · dsimp only
        refine ⟨by omega, ?_⟩
        rw [hds, List.map_append]
        have e : [t.1] = ([i].map fun k => (ptrs ts).getD k (.pointer none)) := by simp [List.getD_eq_getElem?_getD, hpt]
        rw [← e]; exact ho_24
      · dsimp only
        omega
    ·
      have hds := dirtyAt_snoc hft 0
      rw [if_neg (by rw [show t.2.1.dirty = false from c20]; decide), List.append_nil] at hds
      refine TT.skip (.blk (.seq (.region (.pures hT 2 rfl (.nil (.loop (i + 1, w, W) ?_ ?_ (SubR.cons rfl (SubR.cons rfl (SubR.cons rfl (SubR.cons rfl (SubR.cons' rfl (by (try dsimp only); exact (int_eq (by rw [wrap_i64 (by omega) (by omega)]; omega))) (SubR.nil _)))))) sl))))))
      · dsimp only
        exact ⟨by omega, by rw [hds]; exact hW⟩
      · dsimp only
        omega
  ·
    have c14 := of_decide_eq_false c14
    obtain rfl : i = ts.length := by omega
    rw [show (frs ts).take ts.length = frs ts by rw [← hfl, List.take_length]] at hW
    refine TT.exit (.seq (.loop (.here (.seq (.seq (.region (.pures hT 2 rfl (.call Try.call38 rfl rfl rfl rfl (Fun.weaken (hs' := [(b, blk [pd, pw, (.slice av (ptrs ts).length cv)] 75 (0, 0))] :: Kl :: chunk ts :: HL :: HD :: W :: r) sl (buf_clean (r := W :: r) hP hl hd (by omega) (ks := dirtyAt 0 (frs ts)) (by intro k hk; have := dirtyAt_lt hk; omega) (by have := dirtyAt_length (frs ts) 0; omega) hW.row)) ?_))))))))
    rintro v_28 hs_28 ⟨us, HL5, HD5, rfl, hpu, hau, hfu, rfl, hl5, hd5⟩
    refine OT.pures hT 1 rfl (.nil (.seq (.ret (.of (rs := [.tmp 2]) [_] (([(b, blk [pd, pw, .slice av (ptrs ts).length cv] 75 (0, 0))] ++ (Kl ++ chunk us)) :: HL5 :: HD5 :: r) rfl (.tmp rfl .nil) sl ?_))))
    dsimp only [one]
    have hul : us.length = ts.length := by rw [← ptrs_length us, hpu, ptrs_length]
    exact ⟨_, _, _, rfl, rfl, ⟨⟨b, _, _, _, rfl, hfu.symm, ⟨hau, by rw [hpu]; exact hP.own, rfl, by have := hP.few; omega⟩, rfl⟩⟩, hl5, hd5⟩

end Go.Proofs.Ytoalhcodigpgkaa.Sx
