/- The pool: a page asked, put. Printed by a program of ours off the loaded program and our notes; Lean checks it. -/
import Derived.Test.YtoalhcodigpgkaaPdE
import Derived.Test.YtoalhcodigpgkaaSxT
import Derived.Test.YtoalhcodigpgkaaCdM
import Derived.Test.YtoalhcodigpgkaaSxL
namespace Go.Proofs.Ytoalhcodigpgkaa.Sx
open Go Go.Sx Go.Pl
variable [Outer]

set_option maxHeartbeats 4000000 in
set_option maxRecDepth 100000 in
theorem buf_Page {p pd pw : Value} {fs : List Fr} {l : Log} {d : Dev} {H HL HD : Chunk} {r : List Chunk} (hp : IsPool 5 79 75 76 p pd pw fs H) (hl : IsLog 5 2 98 72 pw pd l HL) (hd : IsDev 89 65 pd d HD) (hturn : l.sup.turn + fs.length + 1 ≤ 4611686018427387904) (hfs : fs.length ≤ 1000000) {no : Int} : Fun Try.prog 14 [p, .int .i64 no] (H :: HL :: HD :: r) (fun v' hs' => ∃ w H1 H' HL' HD', hs' = H1 :: H' :: HL' :: HD' :: r ∧ v' = .tuple ⟨[w, .int .i64 (poolPage fs l d no).2.1]⟩ ∧ Own Go.Sx.encB 1 5 w (poolPage fs l d no).1 H1 ∧ IsPool 5 79 75 76 p pd pw (poolPage fs l d no).2.2.1 H' ∧ IsLog 5 2 98 72 pw pd (poolPage fs l d no).2.2.2.1 HL' ∧ IsDev 89 65 pd (poolPage fs l d no).2.2.2.2 HD') := by
  refine Fun.enter 72 Try.func14 rfl Try.ntmps14 rfl ?_
  obtain ⟨b, v, ts, Kl, hpp, hfe, hP, hH⟩ := hp.is
  subst hpp
  subst hH
  subst hfe
  have hfl := frs_length ts
  have hplen := ptrs_length ts
  obtain ⟨av, cv, hv⟩ := (hP.own.row (hs := r)).len
  subst hv
  refine TT.perm perm3 (.seq (.region (.pures hT 2 rfl (.nil (.seq (.seq (.seq (.region (.pures hT 2 rfl (.call Try.call30 rfl rfl rfl rfl (buf_may) ?_))))))))))
  rintro v_13 hs_13 ⟨rfl, rfl⟩
  refine OT.pures hT 1 rfl (.nil (.seq (.seq (.region (.pures hT 2 rfl (.nil (.seq (.cond rfl (fun c15 => ?_) (fun c15 => ?_)))))))))
  ·
    have c15 : ¬ mayPage no := by intro h; unfold mayPool at c15; rw [if_pos h] at c15; simp at c15
    have hw : (poolPage (frs ts) l d no) = ([], 3, frs ts, l, d) := by unfold poolPage; rw [if_pos c15]
    have hm : mayPool no = 3 := by unfold mayPool; rw [if_neg c15]
    rw [hw, hm]
    refine TT.seq (.region (.pures hT 3 rfl (.nil (.seq (.ret (.of (rs := [.tmp 4, .tmp 5]) [_, _] ([] :: (([(b, blk [pd, pw, .slice av (ptrs ts).length cv] 75 (0, 0))] ++ (Kl ++ chunk ts)) :: HL :: HD :: r)) rfl (.tmp rfl (.tmp rfl .nil)) sl ?_))))))
    dsimp only [one]
    exact ⟨_, _, _, _, _, rfl, rfl, Own.nil, ⟨⟨b, _, _, _, rfl, rfl, hP, rfl⟩⟩, hl, hd⟩
  ·
    have c15 : mayPage no := by refine Classical.byContradiction fun h => ?_; unfold mayPool at c15; rw [if_neg h] at c15; simp at c15
    refine TT.skip (.seq (.seq (.region (.pures hT 2 rfl (.call Try.call31 rfl rfl rfl rfl (buf_find hP) ?_)))))
    rintro v_19 hs_19 ⟨v2, K2, rfl, hP2, rfl⟩
    refine OT.pures hT 1 rfl (.nil (.seq (.cut (ι := Value × (List Tr) × Chunk × Tr × Nat × Log × Dev × Chunk × Chunk) (fun j => PoolAt 5 79 76 (j.1) (j.2.1) (j.2.2.1) ∧ (j.2.2.2.1) ∈ (j.2.1) ∧ (j.2.2.2.1).1 = .pointer (some ⟨(j.2.2.2.2.1), 0, none⟩) ∧ (poolPage (frs ts) l d no) = ((j.2.2.2.1).2.1.b, 0, frs (j.2.1), (j.2.2.2.2.2.1), (j.2.2.2.2.2.2.1)) ∧ IsLog 5 2 98 72 pw pd (j.2.2.2.2.2.1) (j.2.2.2.2.2.2.2.1) ∧ IsDev 89 65 pd (j.2.2.2.2.2.2.1) (j.2.2.2.2.2.2.2.2)) (fun j => [(0, .pointer (some ⟨b, 0, none⟩)), (7, .pointer (some ⟨(j.2.2.2.2.1), 0, none⟩))]) (fun j => [(b, blk [pd, pw, (j.1)] 75 (0, 0))] :: (j.2.2.1) :: chunk (j.2.1) :: (j.2.2.2.2.2.2.2.1) :: (j.2.2.2.2.2.2.2.2) :: r) ?_ ?_)))
    ·
      refine TT.seq (.region (.pures hT 2 rfl (.nil (.seq (.cond rfl (fun c21 => ?_) (fun c21 => ?_))))))
      ·
        obtain ⟨hf0, hat⟩ := findP_none hP.all c21
        rw [hat] at hP2 ⊢
        have hw0 := hf0
        refine TT.seq (.region (.pures hT 3 rfl (.load rfl rfl (Ld.one hT rfl hz rfl) rfl ?_)))
        refine OT.pures hT 1 rfl (.call Try.call24 rfl rfl rfl rfl (Fun.pull (A := HD) pl (page_Read hd)) ?_)
        rintro v_28 hs_28 ⟨w8, H1, rfl, rfl, ho1⟩
        refine OT.pures hT 5 rfl (.nil (.seq (.seq (.seq (.region (.pures hT 2 rfl (.nil (.seq (.cond rfl (fun c32 => ?_) (fun c32 => ?_))))))))))
        ·
          have c32 : (readPage d no).2 ≠ 0 := by simpa using c32
          have hw : (poolPage (frs ts) l d no) = ([], (readPage d no).2, frs ts, l, d) := by unfold poolPage; rw [if_neg (by simpa using c15), if_pos hf0, if_pos c32]
          rw [hw]
          refine TT.seq (.region (.pures hT 3 rfl (.nil (.seq (.ret (.of (rs := [.tmp 4, .tmp 5]) [_, _] ([] :: (([(b, blk [pd, pw, v2] 75 (0, 0))] ++ (K2 ++ chunk ts)) :: HL :: HD :: r)) rfl (.tmp rfl (.tmp rfl .nil)) sl ?_))))))
          dsimp only [one]
          exact ⟨_, _, _, _, _, rfl, rfl, Own.nil, ⟨⟨b, _, _, _, rfl, rfl, hP2, rfl⟩⟩, hl, hd⟩
        ·
          have c32 : (readPage d no).2 = 0 := by simpa using c32
          have hrl := readPage_length hd.ok c32
          obtain ⟨a8, c8, hv8⟩ := (ho1.row (hs := r)).len
          subst hv8
          refine TT.skip (.seq (.seq (.region (.pures hT 2 rfl (.build (cs := [.int .i64 no, .slice a8 (readPage d no).1.length c8, .bool false, .int .i64 0]) hT rfl Try.zeroValue79 rfl rfl rfl rfl (.box rfl rfl rfl (fun b_37 => ?_)))))))
          refine OT.pures hT 1 rfl (.nil (.seq (.seq (.region (.pures hT 4 rfl (.load rfl rfl (Ld.slc hT rfl hz rfl) rfl ?_))))))
          refine OT.pures hT 1 rfl ?_
          refine OT.buildSlice (enc := encV) (xs := [.pointer (some ⟨b_37, 0, none⟩)]) (xos := [.tmp 43]) el73 rfl rfl rfl rfl rfl (by simp [Value.cells]) (fun _ _ => rfl) rfl (by decide) rfl (fun v_44 H_44 ho_44 => ?_)
          refine OT.append hT el73 rfl rfl rfl rfl pl hP2.own ro rfl (by simp only [List.length_cons, List.length_nil]; omega) rfl (fun v_45 H_45 ho_45 => ?_)
          have how : Own encV 1 76 v_45 (ptrs (ts ++ [(.pointer (some ⟨b_37, 0, none⟩), ⟨no, (readPage d no).1, false, 0⟩, [(b_37, blk [.int .i64 no, .slice a8 (readPage d no).1.length c8, .bool false, .int .i64 0] 79 (0, 0))] ++ H1)])) H_45 := by rw [ptrs_snoc]; exact ho_45
          have hPn : PoolAt 5 79 76 v_45 (ts ++ [(.pointer (some ⟨b_37, 0, none⟩), ⟨no, (readPage d no).1, false, 0⟩, [(b_37, blk [.int .i64 no, .slice a8 (readPage d no).1.length c8, .bool false, .int .i64 0] 79 (0, 0))] ++ H1)]) H_45 := ⟨hP.all.snoc ⟨hrl, c15, Int.le_refl _, ⟨b_37, _, H1, rfl, ho1, rfl, rfl⟩⟩, how, by obtain ⟨x, y, h⟩ := (how.row (hs := r)).len; rw [h]; rfl, by rw [List.length_append]; simp; omega⟩
          refine OT.pures hT 2 rfl (.store hT rfl rfl rfl rfl pl (by obtain ⟨x, y, h⟩ := (how.row (hs := r)).len; rw [h]; rfl) (Nat.le_of_ble_eq_true rfl) (by obtain ⟨x, y, h⟩ := (how.row (hs := r)).len; rw [h]; rfl) (.inl (Nat.le_refl _)) (cs' := [pd, pw, v_45]) (by obtain ⟨x, y, h⟩ := (how.row (hs := r)).len; rw [h]; rfl) ?_)
          refine OT.nil (.seq (.seq (.region (.pures hT 1 rfl (.call Try.call33 rfl rfl rfl rfl (Fun.weaken (hs' := [(b, blk [pd, pw, v_45] 75 (0, 0))] :: H_45 :: (chunk ts ++ ([(b_37, blk [.int .i64 no, .slice a8 (readPage d no).1.length c8, .bool false, .int .i64 0] 79 (0, 0))] ++ H1)) :: HL :: HD :: r) sl (by have h := buf_room (r := r) (b := b) hPn hl hd (n := 6) (by omega) (by rw [List.length_append]; simp; omega); rw [chunk_snoc] at h; exact h)) ?_)))))
          rintro v_49 hs_49 ⟨v5, K5, us, HL5, HD5, rfl, hP5, hlast, hfu, rfl, hl5, hd5⟩
          rw [frs_snoc] at hfu hl5 hd5 ⊢
          rw [ptrs_snoc, List.getLast?_concat] at hlast
          have hulast := last_snoc hlast
          refine OT.pures hT 1 rfl (.nil (.seq (.seq (.region (.pures hT 2 rfl (.nil (.seq (.cond rfl (fun c51 => ?_) (fun c51 => ?_)))))))))
          ·
            have c51 : (room 6 (frs ts ++ [⟨no, (readPage d no).1, false, 0⟩]) l d).2.2.2 ≠ 0 := by simpa using c51
            have hw : (poolPage (frs ts) l d no) = ([], (room 6 (frs ts ++ [⟨no, (readPage d no).1, false, 0⟩]) l d).2.2.2, (room 6 (frs ts ++ [⟨no, (readPage d no).1, false, 0⟩]) l d).1.dropLast, (room 6 (frs ts ++ [⟨no, (readPage d no).1, false, 0⟩]) l d).2.1, (room 6 (frs ts ++ [⟨no, (readPage d no).1, false, 0⟩]) l d).2.2.1) := by unfold poolPage; rw [if_neg (by simpa using c15), if_pos hf0, if_neg (by omega), if_pos c51]
            rw [hw]
            obtain ⟨a5, c5, hv5⟩ := (hP5.own.row (hs := r)).len
            subst hv5
            have hul : 0 < us.length := by rw [← ptrs_length us, hulast]; simp
            have hup := ptrs_length us
            refine TT.seq (.draw (r) mixed (.takes (fuel := 8) hT [0, 1, 2, 3, 5, 6, 7] kr kr rfl (.all (fuel := 7) [4, 8] kr (by decide) sl ?_)))
            intro i hi
            simp only [List.mem_cons, List.not_mem_nil, or_false] at hi
            rcases hi with rfl | rfl
            ·
              refine ⟨_, rfl, ?_⟩
              refine OT.load rfl rfl (Ld.slc hT rfl hz rfl) rfl ?_
              refine OT.nil (.any (.op (fuel := 6) 8 kr rfl sl (.load rfl rfl (Ld.slc hT rfl hz rfl) rfl ?_)))
              refine OT.nil (.any (.takes (fuel := 4) hT [9, 10] kr kr rfl (.op (fuel := 3) 11 kr rfl sl (.reg 62 rfl (v := .int .i64 ((us.length - 1 : Nat) : Int)) (int_eq (by have := hP5.few; rw [wrap_i64 (by omega) (by omega)]; omega)) ?_))))
              refine OT.slice_to (us.length - 1) hT rfl rfl rfl rfl hP5.own (by omega) rfl (fun ho_63 => ?_)
              refine OT.nil (.any (.takes (fuel := 1) hT [12, 13] kr kr rfl (.op (fuel := 0) 14 kr rfl sl (.store hT rfl rfl rfl rfl pl rfl (Nat.le_of_ble_eq_true rfl) rfl (.inl (Nat.le_refl _)) (cs' := [pd, pw, .slice a5 (us.length - 1) c5]) rfl ?_))))
              refine OT.nil (.any (.done kr sl (.seq (.seq (.region (.pures hT 3 rfl (.nil (.seq (.ret ?_)))))))))
              obtain ⟨t5, ht5⟩ := nth (l := us) (i := us.length - 1) (by omega)
              obtain ⟨bf, vb, Kb, hq1, hq2, hq3, hq4, hq5⟩ := chunk_has hP5.all (List.mem_of_getElem? ht5)
              have hdl : us.dropLast = Go.Pl.cut us (us.length - 1) := by unfold Go.Pl.cut; rw [List.drop_eq_nil_of_le (by omega), List.append_nil, List.dropLast_eq_take]
              refine RT.swap (chunk_get_perm ht5 hq4) pl ?_
              refine RT.split ?_
              refine RT.of (rs := [.tmp 4, .tmp 5]) [_, _] ([] :: ([(b, blk [pd, pw, (.slice a5 (us.length - 1) c5)] 75 (0, 0))] ++ (K5 ++ chunk (Go.Pl.cut us (us.length - 1)))) :: HL5 :: HD5 :: r) rfl (.tmp rfl (.tmp rfl .nil)) sl ?_
              dsimp only [one]
              refine ⟨_, _, _, _, _, rfl, rfl, Own.nil, ⟨⟨b, _, _, _, rfl, ?_, ⟨hP5.all.cut _, ?_, rfl, ?_⟩, rfl⟩⟩, hl5, hd5⟩
              · rw [← hfu, ← hdl]; unfold frs; rw [List.map_dropLast]
              · rw [← hdl, show ptrs us.dropLast = (ptrs us).take (us.length - 1) by unfold ptrs; rw [List.map_dropLast, List.dropLast_eq_take, List.length_map]]; first | exact ho_63 | assumption
              · have := hP5.few; rw [← hdl, List.length_dropLast]; omega
            ·
              refine ⟨_, rfl, ?_⟩
              refine OT.load rfl rfl (Ld.slc hT rfl hz rfl) rfl ?_
              refine OT.nil (.any (.takes (fuel := 5) hT [9, 10] kr kr rfl (.op (fuel := 4) 4 kr rfl sl (.load rfl rfl (Ld.slc hT rfl hz rfl) rfl ?_))))
              refine OT.nil (.any (.op (fuel := 3) 11 kr rfl sl (.reg 62 rfl (v := .int .i64 ((us.length - 1 : Nat) : Int)) (int_eq (by have := hP5.few; rw [wrap_i64 (by omega) (by omega)]; omega)) ?_)))
              refine OT.slice_to (us.length - 1) hT rfl rfl rfl rfl hP5.own (by omega) rfl (fun ho_63 => ?_)
              refine OT.nil (.any (.takes (fuel := 1) hT [12, 13] kr kr rfl (.op (fuel := 0) 14 kr rfl sl (.store hT rfl rfl rfl rfl pl rfl (Nat.le_of_ble_eq_true rfl) rfl (.inl (Nat.le_refl _)) (cs' := [pd, pw, .slice a5 (us.length - 1) c5]) rfl ?_))))
              refine OT.nil (.any (.done kr sl (.seq (.seq (.region (.pures hT 3 rfl (.nil (.seq (.ret ?_)))))))))
              obtain ⟨t5, ht5⟩ := nth (l := us) (i := us.length - 1) (by omega)
              obtain ⟨bf, vb, Kb, hq1, hq2, hq3, hq4, hq5⟩ := chunk_has hP5.all (List.mem_of_getElem? ht5)
              have hdl : us.dropLast = Go.Pl.cut us (us.length - 1) := by unfold Go.Pl.cut; rw [List.drop_eq_nil_of_le (by omega), List.append_nil, List.dropLast_eq_take]
              refine RT.swap (chunk_get_perm ht5 hq4) pl ?_
              refine RT.split ?_
              refine RT.of (rs := [.tmp 4, .tmp 5]) [_, _] ([] :: ([(b, blk [pd, pw, (.slice a5 (us.length - 1) c5)] 75 (0, 0))] ++ (K5 ++ chunk (Go.Pl.cut us (us.length - 1)))) :: HL5 :: HD5 :: r) rfl (.tmp rfl (.tmp rfl .nil)) sl ?_
              dsimp only [one]
              refine ⟨_, _, _, _, _, rfl, rfl, Own.nil, ⟨⟨b, _, _, _, rfl, ?_, ⟨hP5.all.cut _, ?_, rfl, ?_⟩, rfl⟩⟩, hl5, hd5⟩
              · rw [← hfu, ← hdl]; unfold frs; rw [List.map_dropLast]
              · rw [← hdl, show ptrs us.dropLast = (ptrs us).take (us.length - 1) by unfold ptrs; rw [List.map_dropLast, List.dropLast_eq_take, List.length_map]]; first | exact ho_63 | assumption
              · have := hP5.few; rw [← hdl, List.length_dropLast]; omega
          ·
            have c51 : (room 6 (frs ts ++ [⟨no, (readPage d no).1, false, 0⟩]) l d).2.2.2 = 0 := by simpa using c51
            have hw : (poolPage (frs ts) l d no) = ((readPage d no).1, 0, (room 6 (frs ts ++ [⟨no, (readPage d no).1, false, 0⟩]) l d).1, (room 6 (frs ts ++ [⟨no, (readPage d no).1, false, 0⟩]) l d).2.1, (room 6 (frs ts ++ [⟨no, (readPage d no).1, false, 0⟩]) l d).2.2.1) := by unfold poolPage; rw [if_neg (by simpa using c15), if_pos hf0, if_neg (by omega), if_neg (by omega)]
            refine TT.skip ?_
            obtain ⟨t5, ht5, hpt5⟩ : ∃ t5 ∈ us, t5.1 = .pointer (some ⟨b_37, 0, none⟩) ∧ us.getLast? = some t5 := by
              obtain ⟨t5, h5⟩ : ∃ t5, us.getLast? = some t5 := by
                cases h : us.getLast? with
                | none => rw [List.getLast?_eq_none_iff] at h; rw [h] at hlast; cases hlast
                | some x => exact ⟨x, rfl⟩
              refine ⟨t5, List.mem_of_getLast? h5, ?_, h5⟩
              unfold ptrs at hlast
              rw [List.getLast?_map, h5] at hlast
              exact Option.some.inj hlast
            have hb5 : t5.2.1 = ⟨no, (readPage d no).1, false, 0⟩ := by
              have h := room_last (n := 6) (by omega) (frs ts ++ [⟨no, (readPage d no).1, false, 0⟩]) l d
              rw [← hfu, List.getLast?_concat] at h
              unfold frs at h
              rw [List.getLast?_map, hpt5.2] at h
              exact Option.some.inj h
            refine KT.cut (v5, us, K5, t5, b_37, (room 6 (frs ts ++ [⟨no, (readPage d no).1, false, 0⟩]) l d).2.1, (room 6 (frs ts ++ [⟨no, (readPage d no).1, false, 0⟩]) l d).2.2.1, HL5, HD5) ?_ (SubR.cons rfl (SubR.cons rfl (SubR.nil _))) sl
            · dsimp only
              exact ⟨hP5, ht5, hpt5.1, by rw [hw, hfu, hb5], hl5, hd5⟩
      ·
        obtain ⟨hf0, us, t, bf, vb, Kb, hat, hfp, hq1, hq2, hq3, hq4, hno, htm, hul, htf, hau⟩ := findP_some hP.all c21
        rw [hfp]
        refine TT.skip (.cut (v2, (askedT ts no), K2, t, bf, l, d, HL, HD) ?_ (SubR.cons rfl (SubR.cons rfl (SubR.nil _))) sl)
        · dsimp only
          refine ⟨hP2, by rw [hat]; simp, hq1, ?_, hl, hd⟩
          unfold poolPage
          rw [if_neg (by simpa using c15), if_neg hf0, ← askedT_frs, hat, frs_snoc]
          simp [lastFr]
    ·
      rintro ⟨v3, us, K3, t, bf, l3, d3, HL3, HD3⟩ hI
      dsimp only at hI
      obtain ⟨hP3, htm, htp, hw, hl3, hd3⟩ := hI
      show TT _ _ _ [(0, .pointer (some ⟨b, 0, none⟩)), (7, .pointer (some ⟨bf, 0, none⟩))] ([(b, blk [pd, pw, v3] 75 (0, 0))] :: K3 :: chunk us :: HL3 :: HD3 :: r)
      obtain ⟨bf', vb, Kb, hq1, hq2, hq3, hq4, hq5⟩ := chunk_has hP3.all htm
      obtain rfl : bf = bf' := by rw [htp] at hq1; injection hq1 with e; injection e with e; injection e
      have hlen := (hP3.all t htm).len
      obtain ⟨a9, c9, hv9⟩ := (hq2.row (hs := r)).len
      subst hv9
      rw [hw]
      refine TT.seq (.region (.pures hT 3 rfl (.load rfl rfl (Ld.slc hT rfl (.there (.there (.here hq5))) rfl) rfl (.call Try.call32 rfl rfl rfl rfl (bytes_Clone ((chunk_row htm hq2 hq4).there.there) (by omega)) ?_))))
      rintro v_71 hs_71 ⟨HB, rfl, hoB⟩
      refine OT.pures hT 2 rfl (.nil (.seq (.ret (.of (rs := [.tmp 4, .tmp 5]) [_, _] (HB :: (([(b, blk [pd, pw, v3] 75 (0, 0))] ++ (K3 ++ chunk us)) :: HL3 :: HD3 :: r)) rfl (.tmp rfl (.tmp rfl .nil)) sl ?_))))
      dsimp only [one]
      exact ⟨_, _, _, _, _, rfl, rfl, hoB, ⟨⟨b, _, _, _, rfl, rfl, hP3, rfl⟩⟩, hl3, hd3⟩

end Go.Proofs.Ytoalhcodigpgkaa.Sx
