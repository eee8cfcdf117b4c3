/- The pool, where all is clean: its log is not asked. Printed by a program of ours off the loaded program and our notes; Lean checks it. -/
import Derived.Test.YtoalhcodigpgkaaPhB
import Derived.Test.YtoalhcodigpgkaaSxT
import Derived.Test.YtoalhcodigpgkaaCdP
import Derived.Test.YtoalhcodigpgkaaSxL
namespace Go.Proofs.Ytoalhcodigpgkaa.Sx
open Go Go.Sx Go.Pl
variable [Outer]

set_option maxHeartbeats 2000000 in
set_option maxRecDepth 100000 in
theorem buf_roomC {b : Nat} {pd pw v : Value} {ts : List Tr} {Kl : Chunk} {r : List Chunk} (hP : PoolAt 5 79 76 v ts Kl) (hall : ∀ t ∈ ts, t.2.1.dirty = false) {n : Nat} (hn : 1 ≤ n) : Fun Try.prog 33 [.pointer (some ⟨b, 0, none⟩), .int .i64 (n : Nat)] ([(b, blk [pd, pw, v] 75 (0, 0))] :: Kl :: chunk ts :: r) (fun v' hs' => ∃ v2 K2 us, hs' = [(b, blk [pd, pw, v2] 75 (0, 0))] :: K2 :: chunk us :: r ∧ PoolAt 5 79 76 v2 us K2 ∧ (ptrs us).getLast? = (ptrs ts).getLast? ∧ (∀ t ∈ us, t.2.1.dirty = false) ∧ frs us = (frs ts).drop (ts.length - n) ∧ v' = .int .i64 0) := by
  refine Fun.enter 51 Try.func33 rfl Try.ntmps33 rfl ?_
  refine TT.seq (.region (.pures hT 1 rfl (.nil (.seq (.seq (.block (.loop (ι := (List Tr) × Value × Chunk) (fun j => PoolAt 5 79 76 (j.2.1) (j.1) (j.2.2) ∧ (∀ t ∈ (j.1), t.2.1.dirty = false) ∧ (ptrs (j.1)).getLast? = (ptrs ts).getLast? ∧ (j.1).length ≤ ts.length ∧ ((j.1).length = ts.length ∨ n ≤ (j.1).length) ∧ frs (j.1) = (frs ts).drop (ts.length - (j.1).length)) (fun j => (j.1).length - n) (fun j => [(0, .pointer (some ⟨b, 0, none⟩)), (1, .int .i64 (n : Nat))]) (fun j => [(b, blk [pd, pw, (j.2.1)] 75 (0, 0))] :: (j.2.2) :: chunk (j.1) :: r) (ts, v, Kl) ?_ (SubR.cons rfl (SubR.cons rfl (SubR.nil _))) sl ?_)))))))
  · dsimp only
    exact ⟨hP, hall, rfl, Nat.le_refl _, .inl rfl, by simp⟩
  rintro ⟨us, v2, K2⟩ hI
  dsimp only at hI
  obtain ⟨hPx, hax, hlast, hle, hor, hfu⟩ := hI
  show TT _ _ _ [(0, .pointer (some ⟨b, 0, none⟩)), (1, .int .i64 (n : Nat))] ([(b, blk [pd, pw, v2] 75 (0, 0))] :: K2 :: chunk us :: r)
  have hown := hPx.own
  obtain ⟨a2, c2, hv2⟩ := (hown.row (hs := r)).len
  subst hv2
  have hpl := ptrs_length us
  have hfew := hPx.few
  refine TT.seq (.seq (.region (.pures hT 3 rfl (.load rfl rfl (Ld.slc hT rfl hz rfl) rfl ?_))))
  refine OT.pures hT 3 rfl (.nil (.seq (.cond rfl (fun c13 => ?_) (fun c13 => ?_))))
  ·
    have c13 := of_decide_eq_true c13
    refine TT.skip (.seq (.block (.seq (.draw ([(b, blk [pd, pw, .slice a2 (ptrs us).length c2] 75 (0, 0))] :: K2 :: chunk us :: r) mixed (.takes (fuel := 7) hT [0, 1, 2, 4, 5, 6] kr kr rfl (.take (fuel := 6) hT 3 rfl rfl kr kr kr rfl (.load rfl (Ld.slc hT rfl hz rfl)) rfl ?_))))))
    refine AT.take (fuel := 5) hT 7 rfl rfl kr kr kr rfl (.load rfl (Ld.slc hT rfl hz rfl)) rfl ?_
    refine AT.takes (fuel := 3) hT [8, 9] kr kr rfl (.op (fuel := 2) 10 kr rfl sl (.reg 23 rfl (v := .int .i64 ((us.length - 1 : Nat) : Int)) (int_eq (by rw [wrap_i64 (by omega) (by omega)]; omega)) (.slice 0 (us.length - 1) hT rfl rfl rfl rfl rfl (hown.row.there) (.inl ⟨rfl, rfl⟩) (.inr ⟨_, rfl⟩) (by omega) (by omega) rfl (fun v_24 hv_24 => ?_))))
    refine OT.nil (.any (.op (fuel := 1) 11 kr rfl sl ?_))
    rw [List.drop_zero, ← ptrs_take] at hv_24
    refine OT.call Try.call36 rfl rfl rfl rfl (sl_IndexFr (q := (fun t : Tr => isClean t.2.1)) (N := 54) (caps := []) hv_24 (by rw [List.length_take]; omega) Try.call54 (fun t ht => by obtain ⟨bf, vb, Kb, h1, h2, h3, h4, h5⟩ := chunk_has hPx.all (List.mem_of_mem_take ht); rw [h1]; exact buf_room1 (.there (.there (.here h5))))) ?_
    rintro v_25 hs_25 ⟨rfl, rfl⟩
    have hfi : firstAt (fun t : Tr => isClean t.2.1) 0 (us.take (us.length - 1)) = 0 := firstAt_cleanT (fun t ht => hax t (List.mem_of_mem_take ht)) (by rw [List.length_take]; omega)
    rw [hfi]
    refine OT.nil (.any (.takes (fuel := 0) hT [12] kr kr rfl (.done kr sl (.seq (.seq (.seq (.region (.pures hT 2 rfl (.nil (.seq (.cond rfl (fun c27 => ?_) (fun c27 => ?_))))))))))))
    ·
      exact absurd c27 (by decide)
    ·
      obtain ⟨t, ht⟩ := nth (l := us) (i := 0) (by omega)
      obtain ⟨bf, vb, Kb, hq1, hq2, hq3, hq4, hq5⟩ := chunk_has hPx.all (List.mem_of_getElem? ht)
      refine TT.skip (.seq (.region (.pures hT 4 rfl (.load rfl rfl (Ld.slc hT rfl hz rfl) rfl ?_))))
      refine OT.pures hT 3 rfl (.reg 45 rfl (v := .int .i64 ((0 : Nat) : Int)) rfl (.reg 47 rfl (v := .int .i64 ((0 + 1 : Nat) : Int)) (int_eq (by rw [wrap_i64 (by omega) (by omega)]; rfl)) (.call Try.call53 rfl rfl rfl rfl (Fun.pull pl (sl_DeleteFr hown (ones_ptrs hPx.all) (by omega) (by omega) (by omega))) ?_)))
      rintro v_48 hs_48 ⟨H1, rfl, ho1⟩
      have how : Own encV 1 76 v_48 (ptrs (Go.Pl.cut us 0)) H1 := by rw [ptrs_cut]; exact ho1
      obtain ⟨a48, c48, hv48⟩ := (how.row (hs := r)).len
      subst hv48
      refine OT.pures hT 2 rfl (.store hT rfl rfl rfl rfl pl rfl (Nat.le_of_ble_eq_true rfl) rfl (.inl (Nat.le_refl _)) (cs' := [pd, pw, .slice a48 (ptrs (Go.Pl.cut us 0)).length c48]) rfl ?_)
      refine OT.nil (.blk (.swap (chunk_get_perm ht hq4) pl ?_))
      refine KT.split ?_
      have hcl : (Go.Pl.cut us 0).length = us.length - 1 := cut_length (by omega)
      have hcl2 : (ptrs us).getLast? = (ptrs (Go.Pl.cut us 0)).getLast? := by rw [show ptrs (Go.Pl.cut us 0) = Go.Pl.cut (ptrs us) 0 by unfold ptrs; rw [cut_map], cut_last (by omega)]
      refine KT.loop (Go.Pl.cut us 0, .slice a48 (ptrs (Go.Pl.cut us 0)).length c48, H1) ?_ ?_ (SubR.cons rfl (SubR.cons rfl (SubR.nil _))) sl
      · dsimp only
        exact ⟨⟨hPx.all.cut 0, how, rfl, by omega⟩, fun t ht => hax t (cut_mem ht), hcl2.symm.trans hlast, by omega, by omega, by rw [frs_cut, cut_zero, hfu, List.drop_drop, hcl]; congr 1; omega⟩
      · dsimp only
        omega
  ·
    have c13 := of_decide_eq_false c13
    refine TT.exit (.seq (.loop (.here (.seq (.seq (.region (.pures hT 1 rfl (.nil (.seq (.ret (.of (rs := [.tmp 4]) [_] ([(b, blk [pd, pw, .slice a2 (ptrs us).length c2] 75 (0, 0))] :: K2 :: chunk us :: r) rfl (.tmp rfl .nil) sl ?_)))))))))))
    dsimp only [one]
    exact ⟨_, _, _, rfl, hPx, hlast, hax, by rw [hfu]; congr 1; omega, rfl⟩

set_option maxHeartbeats 4000000 in
set_option maxRecDepth 100000 in
theorem buf_PageC {p pd pw : Value} {fs : List Fr} {d : Dev} {H HD : Chunk} {r : List Chunk} (hp : IsPool 5 79 75 76 p pd pw fs H) (hd : IsDev 89 65 pd d HD) (hall : ∀ f ∈ fs, f.dirty = false) (hfs : fs.length ≤ 1000000) {no : Int} (hmay : mayPage no) (hrd0 : (readPage d no).2 = 0) : Fun Try.prog 14 [p, .int .i64 no] (H :: HD :: r) (fun v' hs' => ∃ w H1 H', hs' = H1 :: H' :: HD :: r ∧ v' = .tuple ⟨[w, .int .i64 0]⟩ ∧ Own Go.Sx.encB 1 5 w (pageC fs d no).1 H1 ∧ IsPool 5 79 75 76 p pd pw (pageC fs d no).2 H') := by
  refine Fun.enter 72 Try.func14 rfl Try.ntmps14 rfl ?_
  obtain ⟨b, v, ts, Kl, hpp, hfe, hP, hH⟩ := hp.is
  subst hpp
  subst hH
  subst hfe
  have hfl := frs_length ts
  have hplen := ptrs_length ts
  obtain ⟨av, cv, hv⟩ := (hP.own.row (hs := r)).len
  subst hv
  refine TT.perm perm3 ?_
  have hallT : ∀ t ∈ ts, t.2.1.dirty = false := fun t ht => hall t.2.1 (List.mem_map.2 ⟨t, ht, rfl⟩)
  refine TT.seq (.region (.pures hT 2 rfl (.nil (.seq (.seq (.seq (.region (.pures hT 2 rfl (.call Try.call30 rfl rfl rfl rfl (buf_may) ?_)))))))))
  rintro v_13 hs_13 ⟨rfl, rfl⟩
  refine OT.pures hT 1 rfl (.nil (.seq (.seq (.region (.pures hT 2 rfl (.nil (.seq (.cond rfl (fun c15 => ?_) (fun c15 => ?_)))))))))
  ·
    exact absurd c15 (by unfold mayPool; rw [if_pos hmay]; decide)
  ·
    refine TT.skip (.seq (.seq (.region (.pures hT 2 rfl (.call Try.call31 rfl rfl rfl rfl (buf_find hP) ?_)))))
    rintro v_19 hs_19 ⟨v2, K2, rfl, hP2, rfl⟩
    refine OT.pures hT 1 rfl (.nil (.seq (.cut (ι := Value × (List Tr) × Chunk × Tr × Nat) (fun j => PoolAt 5 79 76 (j.1) (j.2.1) (j.2.2.1) ∧ (j.2.2.2.1) ∈ (j.2.1) ∧ (j.2.2.2.1).1 = .pointer (some ⟨(j.2.2.2.2), 0, none⟩) ∧ (pageC (frs ts) d no) = ((j.2.2.2.1).2.1.b, frs (j.2.1))) (fun j => [(0, .pointer (some ⟨b, 0, none⟩)), (7, .pointer (some ⟨(j.2.2.2.2), 0, none⟩))]) (fun j => [(b, blk [pd, pw, (j.1)] 75 (0, 0))] :: (j.2.2.1) :: chunk (j.2.1) :: HD :: r) ?_ ?_)))
    ·
      refine TT.seq (.region (.pures hT 2 rfl (.nil (.seq (.cond rfl (fun c21 => ?_) (fun c21 => ?_))))))
      ·
        obtain ⟨hf0, hat⟩ := findP_none hP.all c21
        rw [hat] at hP2 ⊢
        refine TT.seq (.region (.pures hT 3 rfl (.load rfl rfl (Ld.one hT rfl hz rfl) rfl ?_)))
        refine OT.pures hT 1 rfl (.call Try.call24 rfl rfl rfl rfl (Fun.pull (A := HD) pl (page_Read hd)) ?_)
        rintro v_28 hs_28 ⟨w8, H1, rfl, rfl, ho1⟩
        refine OT.pures hT 5 rfl (.nil (.seq (.seq (.seq (.region (.pures hT 2 rfl (.nil (.seq (.cond rfl (fun c32 => ?_) (fun c32 => ?_))))))))))
        ·
          exact absurd c32 (by rw [hrd0]; decide)
        ·
          have hrl := readPage_length hd.ok hrd0
          obtain ⟨a8, c8, hv8⟩ := (ho1.row (hs := r)).len
          subst hv8
          refine TT.skip (.seq (.seq (.region (.pures hT 2 rfl (.build (cs := [.int .i64 no, .slice a8 (readPage d no).1.length c8, .bool false, .int .i64 0]) hT rfl Try.zeroValue79 rfl rfl rfl rfl (.box rfl rfl rfl (fun b_37 => ?_)))))))
          refine OT.pures hT 1 rfl (.nil (.seq (.seq (.region (.pures hT 4 rfl (.load rfl rfl (Ld.slc hT rfl hz rfl) rfl ?_))))))
          refine OT.pures hT 1 rfl ?_
          refine OT.buildSlice (enc := encV) (xs := [.pointer (some ⟨b_37, 0, none⟩)]) (xos := [.tmp 43]) el73 rfl rfl rfl rfl rfl (by simp [Value.cells]) (fun _ _ => rfl) rfl (by decide) rfl (fun v_44 H_44 ho_44 => ?_)
          refine OT.append hT el73 rfl rfl rfl rfl pl hP2.own ro rfl (by simp only [List.length_cons, List.length_nil]; omega) rfl (fun v_45 H_45 ho_45 => ?_)
          have how : Own encV 1 76 v_45 (ptrs (ts ++ [(.pointer (some ⟨b_37, 0, none⟩), ⟨no, (readPage d no).1, false, 0⟩, [(b_37, blk [.int .i64 no, .slice a8 (readPage d no).1.length c8, .bool false, .int .i64 0] 79 (0, 0))] ++ H1)])) H_45 := by rw [ptrs_snoc]; exact ho_45
          have hPn : PoolAt 5 79 76 v_45 (ts ++ [(.pointer (some ⟨b_37, 0, none⟩), ⟨no, (readPage d no).1, false, 0⟩, [(b_37, blk [.int .i64 no, .slice a8 (readPage d no).1.length c8, .bool false, .int .i64 0] 79 (0, 0))] ++ H1)]) H_45 := ⟨hP.all.snoc ⟨hrl, hmay, Int.le_refl _, ⟨b_37, _, H1, rfl, ho1, rfl, rfl⟩⟩, how, by obtain ⟨x, y, h⟩ := (how.row (hs := r)).len; rw [h]; rfl, by rw [List.length_append]; simp; omega⟩
          refine OT.pures hT 2 rfl (.store hT rfl rfl rfl rfl pl (by obtain ⟨x, y, h⟩ := (how.row (hs := r)).len; rw [h]; rfl) (Nat.le_of_ble_eq_true rfl) (by obtain ⟨x, y, h⟩ := (how.row (hs := r)).len; rw [h]; rfl) (.inl (Nat.le_refl _)) (cs' := [pd, pw, v_45]) (by obtain ⟨x, y, h⟩ := (how.row (hs := r)).len; rw [h]; rfl) ?_)
          refine OT.nil (.seq (.seq (.region (.pures hT 1 rfl (.call Try.call33 rfl rfl rfl rfl (Fun.weaken (hs' := [(b, blk [pd, pw, v_45] 75 (0, 0))] :: H_45 :: (chunk ts ++ ([(b_37, blk [.int .i64 no, .slice a8 (readPage d no).1.length c8, .bool false, .int .i64 0] 79 (0, 0))] ++ H1)) :: HD :: r) sl (by have h := buf_roomC (r := HD :: r) (b := b) (pd := pd) (pw := pw) hPn (by intro t ht; rcases List.mem_append.1 ht with ht | ht; exact hallT t ht; rw [List.mem_singleton] at ht; subst ht; rfl) (n := 6) (by omega); rw [chunk_snoc] at h; exact h)) ?_)))))
          rintro v_49 hs_49 ⟨v5, K5, us, rfl, hP5, hlast, hau, hfu, rfl⟩
          rw [frs_snoc] at hfu
          rw [ptrs_snoc, List.getLast?_concat] at hlast
          refine OT.pures hT 1 rfl (.nil (.seq (.seq (.region (.pures hT 2 rfl (.nil (.seq (.cond rfl (fun c51 => ?_) (fun c51 => ?_)))))))))
          ·
            exact absurd c51 (by decide)
          ·
            refine TT.skip ?_
            obtain ⟨t5, ht5, hpt5⟩ : ∃ t5 ∈ us, t5.1 = .pointer (some ⟨b_37, 0, none⟩) ∧ us.getLast? = some t5 := by
              obtain ⟨t5, h5⟩ : ∃ t5, us.getLast? = some t5 := by
                cases h : us.getLast? with
                | none => rw [List.getLast?_eq_none_iff] at h; rw [h] at hlast; cases hlast
                | some x => exact ⟨x, rfl⟩
              refine ⟨t5, List.mem_of_getLast? h5, ?_, h5⟩
              unfold ptrs at hlast
              rw [List.getLast?_map, h5] at hlast
              exact Option.some.inj hlast
            have hk6 : frs us = keep6 (frs ts ++ [⟨no, (readPage d no).1, false, 0⟩]) := by rw [hfu]; unfold keep6; congr 1; simp [frs_length]
            have hb5 : t5.2.1 = ⟨no, (readPage d no).1, false, 0⟩ := by
              have h : (frs us).getLast? = some ⟨no, (readPage d no).1, false, 0⟩ := by rw [hk6]; unfold keep6; rw [List.getLast?_drop, if_neg (by simp; omega), List.getLast?_concat]
              unfold frs at h
              rw [List.getLast?_map, hpt5.2] at h
              exact Option.some.inj h
            refine KT.cut (v5, us, K5, t5, b_37) ?_ (SubR.cons rfl (SubR.cons rfl (SubR.nil _))) sl
            · dsimp only
              exact ⟨hP5, ht5, hpt5.1, by unfold pageC; rw [if_pos hf0, ← hk6, hb5]⟩
      ·
        obtain ⟨hf0, us, t, bf, vb, Kb, hat, hfp, hq1, hq2, hq3, hq4, hno, htm, hul, htf, hau⟩ := findP_some hP.all c21
        rw [hfp]
        refine TT.skip (.cut (v2, (askedT ts no), K2, t, bf) ?_ (SubR.cons rfl (SubR.cons rfl (SubR.nil _))) sl)
        · dsimp only
          refine ⟨hP2, by rw [hat]; simp, hq1, ?_⟩
          unfold pageC
          rw [if_neg hf0, ← askedT_frs, hat, frs_snoc]
          simp [lastFr]
    ·
      rintro ⟨v3, us, K3, t, bf⟩ hI
      dsimp only at hI
      obtain ⟨hP3, htm, htp, hw⟩ := hI
      show TT _ _ _ [(0, .pointer (some ⟨b, 0, none⟩)), (7, .pointer (some ⟨bf, 0, none⟩))] ([(b, blk [pd, pw, v3] 75 (0, 0))] :: K3 :: chunk us :: HD :: r)
      obtain ⟨bf', vb, Kb, hq1, hq2, hq3, hq4, hq5⟩ := chunk_has hP3.all htm
      obtain rfl : bf = bf' := by rw [htp] at hq1; injection hq1 with e; injection e with e; injection e
      have hlen := (hP3.all t htm).len
      obtain ⟨a9, c9, hv9⟩ := (hq2.row (hs := r)).len
      subst hv9
      rw [hw]
      refine TT.seq (.region (.pures hT 3 rfl (.load rfl rfl (Ld.slc hT rfl (.there (.there (.here hq5))) rfl) rfl (.call Try.call32 rfl rfl rfl rfl (bytes_Clone ((chunk_row htm hq2 hq4).there.there) (by omega)) ?_))))
      rintro v_71 hs_71 ⟨HB, rfl, hoB⟩
      refine OT.pures hT 2 rfl (.nil (.seq (.ret (.of (rs := [.tmp 4, .tmp 5]) [_, _] (HB :: (([(b, blk [pd, pw, v3] 75 (0, 0))] ++ (K3 ++ chunk us)) :: HD :: r)) rfl (.tmp rfl (.tmp rfl .nil)) sl ?_))))
      dsimp only [one]
      exact ⟨_, _, _, rfl, rfl, hoB, ⟨⟨b, _, _, _, rfl, rfl, hP3, rfl⟩⟩⟩

set_option maxHeartbeats 1000000 in
set_option maxRecDepth 100000 in
theorem buf_HeldC {p pd pw : Value} {fs : List Fr} {H : Chunk} {r : List Chunk} (hp : IsPool 5 79 75 76 p pd pw fs H) : Fun Try.prog 20 [p] (H :: r) (fun v' hs' => v' = .int .i64 fs.length ∧ H :: r = hs') := by
  refine Fun.enter 10 Try.func20 rfl Try.ntmps20 rfl ?_
  obtain ⟨b, v, ts, Kl, hpp, hfe, hP, hH⟩ := hp.is
  subst hpp
  subst hH
  subst hfe
  have hfl := frs_length ts
  have hplen := ptrs_length ts
  obtain ⟨av, cv, hv⟩ := (hP.own.row (hs := r)).len
  subst hv
  refine TT.perm perm3 (.seq (.region (.pures hT 1 rfl (.nil (.seq (.seq (.seq (.region (.pures hT 2 rfl (.nil (.seq (.cond_false rfl (.skip (.seq (.seq (.region (.pures hT 3 rfl (.load rfl rfl (Ld.slc hT rfl hz rfl) rfl ?_))))))))))))))))))
  refine OT.pures hT 2 rfl (.nil (.seq (.ret (.of (rs := [.tmp 2]) [_] (([(b, blk [pd, pw, (.slice av (ptrs ts).length cv)] 75 (0, 0))] ++ (Kl ++ chunk ts)) :: r) rfl (.tmp rfl .nil) sl ?_))))
  dsimp only [one]
  exact ⟨by rw [hplen, hfl]; rfl, rfl⟩

end Go.Proofs.Ytoalhcodigpgkaa.Sx
