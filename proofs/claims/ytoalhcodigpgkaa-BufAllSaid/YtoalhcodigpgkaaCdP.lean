/- The pool: what is dirty; no pool. Printed by a program of ours off the loaded program and our notes; Lean checks it. -/
import Derived.Test.YtoalhcodigpgkaaPdE
import Derived.Test.YtoalhcodigpgkaaSxT
import Derived.Test.YtoalhcodigpgkaaSxS
import Derived.Test.YtoalhcodigpgkaaCdO
import Derived.Test.YtoalhcodigpgkaaSxL
namespace Go.Proofs.Ytoalhcodigpgkaa.Sx
open Go Go.Sx Go.Pl
variable [Outer]

theorem sl_Sort {v : Value} {xs : List Int} {H : Chunk} {r : List Chunk} (ho : Own Go.Sx.encI 1 3 v xs H) (hl : xs.length ≤ 1073741824) :
    Fun Try.prog 39 [v] (H :: r) (fun v' hs' => v' = .tuple #[] ∧ ∃ H', hs' = H' :: r ∧ Own Go.Sx.encI 1 3 v (xs.mergeSort fun x y => decide (x ≤ y)) H') :=
  sorted_of ho hl Try.slices_Sort_int_none (fun b off cap zs w h1 h2 h3 => Try.slices_Sort_int b off cap zs w h1 h2 h3)

set_option maxHeartbeats 2000000 in
set_option maxRecDepth 100000 in
theorem buf_Dirty {p pd pw : Value} {fs : List Fr} {H : Chunk} {r : List Chunk} (hp : IsPool 5 79 75 76 p pd pw fs H) : Fun Try.prog 18 [p] (H :: r) (fun v' hs' => ∃ H', hs' = H' :: H :: r ∧ Own Go.Sx.encI 1 3 v' (poolDirty fs) H') := by
  refine Fun.enter 32 Try.func18 rfl Try.ntmps18 rfl ?_
  obtain ⟨b, v, ts, Kl, hpp, hfe, hP, hH⟩ := hp.is
  subst hpp
  subst hH
  subst hfe
  have hfl := frs_length ts
  have hplen := ptrs_length ts
  obtain ⟨av, cv, hv⟩ := (hP.own.row (hs := r)).len
  subst hv
  refine TT.perm perm3 ?_
  have hfew := hP.few
  refine TT.seq (.region (.pures hT 1 rfl (.nil (.seq (.seq (.seq (.region (.pures hT 2 rfl (.nil (.seq (.cond_false rfl (.skip (.seq (.seq (.region (.pures hT 1 rfl (.nil (.seq (.seq (.seq (.region (.pures hT 3 rfl (.load rfl rfl (Ld.slc hT rfl hz rfl) rfl ?_)))))))))))))))))))))))
  refine OT.pures hT 2 rfl (.nil (.seq (.block (.chunk0 (.loop (ι := Nat × Value × Chunk) (fun j => (j.1) ≤ ts.length ∧ Own Go.Sx.encI 1 3 (j.2.1) (dirties ((frs ts).take (j.1))) (j.2.2)) (fun j => ts.length - (j.1)) (fun j => [(0, .pointer (some ⟨b, 0, none⟩)), (3, (j.2.1)), (11, .slice av (ptrs ts).length cv), (12, .int .i64 (ptrs ts).length), (13, .int .i64 ((j.1) : Nat))]) (fun j => (j.2.2) :: [(b, blk [pd, pw, (.slice av (ptrs ts).length cv)] 75 (0, 0))] :: Kl :: chunk ts :: r) (0, .slice none 0 0, []) ?_ (SubR.cons rfl (SubR.cons rfl (SubR.cons rfl (SubR.cons rfl (SubR.cons rfl (SubR.nil _)))))) sl ?_)))))
  · dsimp only
    exact ⟨by omega, Own.nil⟩
  rintro ⟨i, w, W⟩ hI
  dsimp only at hI
  obtain ⟨hi, hW⟩ := hI
  show TT _ _ _ [(0, .pointer (some ⟨b, 0, none⟩)), (3, w), (11, .slice av (ptrs ts).length cv), (12, .int .i64 (ptrs ts).length), (13, .int .i64 (i : Nat))] (W :: [(b, blk [pd, pw, (.slice av (ptrs ts).length cv)] 75 (0, 0))] :: Kl :: chunk ts :: r)
  have hdl : (dirties ((frs ts).take i)).length ≤ i := by unfold dirties; rw [List.length_map]; exact Nat.le_trans (List.length_filter_le _ _) (List.length_take_le _ _)
  refine TT.seq (.region (.pures hT 1 rfl (.nil (.seq (.seq (.cond rfl (fun c14 => ?_) (fun c14 => ?_)))))))
  ·
    have c14 := of_decide_eq_true c14
    obtain ⟨t, ht⟩ := nth (l := ts) (i := i) (by omega)
    have hpt := ptrs_at ht
    have hft := frs_at ht
    obtain ⟨bf, vb, Kb, hq1, hq2, hq3, hq4, hq5⟩ := chunk_has hP.all (List.mem_of_getElem? ht)
    refine TT.skip (.seq (.seq (.block (.seq (.region (.index hT rfl rfl rfl rfl (hP.own.row.there.there) (by omega) hpt rfl (fun ad_15 hel_15 => ?_)))))))
    refine OT.load rfl rfl (hel_15.ld_one hT rfl rfl) rfl (.reg 16 rfl (v := .pointer (some ⟨bf, 0, none⟩)) hq1 (.pures hT 1 rfl (.nil (.seq (.seq (.region (.pures hT 3 rfl (.load rfl rfl (Ld.one hT rfl (.there (.there (.there (.here hq5)))) rfl) rfl (.nil (.seq (.cond rfl (fun c20 => ?_) (fun c20 => ?_))))))))))))
    ·
      have hds : dirties ((frs ts).take (i + 1)) = dirties ((frs ts).take i) ++ [t.2.1.no] := by unfold dirties; rw [take_succ hft, List.filter_append, List.map_append]; simp [show t.2.1.dirty = true from c20]
      refine TT.region (.pures hT 4 rfl (.load rfl rfl (Ld.one hT rfl (.there (.there (.there (.here hq5)))) rfl) rfl ?_))
      refine OT.buildSlice (enc := Go.Sx.encI) (xs := [t.2.1.no]) (xos := [.tmp 25]) el46 rfl rfl rfl rfl rfl (by simp [Value.cells]) (fun _ _ => rfl) rfl (by decide) rfl (fun v_26 H_26 ho_26 => ?_)
      refine OT.append hT el46 rfl rfl rfl rfl pl hW ro rfl (by simp only [List.length_cons, List.length_nil]; omega) rfl (fun v_27 H_27 ho_27 => ?_)
      refine OT.pures hT 1 rfl (.nil (.blk (.seq (.region (.pures hT 2 rfl (.nil (.loop (i + 1, v_27, H_27) ?_ ?_ (SubR.cons rfl (SubR.cons rfl (SubR.cons rfl (SubR.cons rfl (SubR.cons' rfl (by (try dsimp only); exact (int_eq (by rw [wrap_i64 (by omega) (by omega)]; omega))) (SubR.nil _)))))) sl)))))))
      · dsimp only
        exact ⟨by omega, by rw [hds]; exact ho_27⟩
      · dsimp only
        omega
    ·
      have hds : dirties ((frs ts).take (i + 1)) = dirties ((frs ts).take i) := by unfold dirties; rw [take_succ hft, List.filter_append, List.map_append]; simp [show t.2.1.dirty = false from c20]
      refine TT.skip (.blk (.seq (.region (.pures hT 2 rfl (.nil (.loop (i + 1, w, W) ?_ ?_ (SubR.cons rfl (SubR.cons rfl (SubR.cons rfl (SubR.cons rfl (SubR.cons' rfl (by (try dsimp only); exact (int_eq (by rw [wrap_i64 (by omega) (by omega)]; omega))) (SubR.nil _)))))) sl))))))
      · dsimp only
        exact ⟨by omega, by rw [hds]; exact hW⟩
      · dsimp only
        omega
  ·
    have c14 := of_decide_eq_false c14
    obtain rfl : i = ts.length := by omega
    rw [show (frs ts).take ts.length = frs ts by rw [← hfl, List.take_length]] at hW hdl
    refine TT.exit (.seq (.loop (.here (.seq (.seq (.region (.pures hT 1 rfl (.call Try.call39 rfl rfl rfl rfl (sl_Sort hW (by omega)) ?_))))))))
    rintro v_30 hs_30 ⟨rfl, H2, rfl, ho2⟩
    refine OT.nil (.seq (.seq (.region (.pures hT 2 rfl (.nil (.seq (.ret (.of (rs := [.tmp 2]) [_] (H2 :: ([(b, blk [pd, pw, (.slice av (ptrs ts).length cv)] 75 (0, 0))] ++ (Kl ++ chunk ts)) :: r) rfl (.tmp rfl .nil) sl ?_))))))))
    dsimp only [one]
    exact ⟨_, rfl, ho2⟩

set_option maxHeartbeats 1000000 in
set_option maxRecDepth 100000 in
theorem buf_Page0 {no : Int} {r : List Chunk} : Fun Try.prog 14 [.pointer none, .int .i64 no] r (fun v' hs' => v' = .tuple ⟨[.slice none 0 0, .int .i64 5]⟩ ∧ r = hs') := by
  refine Fun.enter 72 Try.func14 rfl Try.ntmps14 rfl ?_
  refine TT.seq (.region (.pures hT 2 rfl (.nil (.seq (.seq (.seq (.region (.pures hT 2 rfl (.call Try.call30 rfl rfl rfl rfl (buf_may0) ?_)))))))))
  rintro v_13 hs_13 ⟨rfl, rfl⟩
  refine OT.pures hT 1 rfl (.nil (.seq (.seq (.region (.pures hT 2 rfl (.nil (.seq (.cond rfl (fun c15 => ?_) (fun c15 => ?_)))))))))
  ·
    refine TT.seq (.region (.pures hT 3 rfl (.nil (.seq (.ret (.of (rs := [.tmp 4, .tmp 5]) [_, _] r rfl (.tmp rfl (.tmp rfl .nil)) sl ?_))))))
    dsimp only [one]
    exact ⟨rfl, rfl⟩
  ·
    exact absurd c15 (by decide)

set_option maxHeartbeats 1000000 in
set_option maxRecDepth 100000 in
theorem buf_Put0 {no : Int} {vb : Value} {lsn : Int} {r : List Chunk} : Fun Try.prog 13 [.pointer none, .int .i64 no, vb, .int .i64 lsn] r (fun v' hs' => v' = .int .i64 5 ∧ r = hs') := by
  refine Fun.enter 57 Try.func13 rfl Try.ntmps13 rfl ?_
  refine TT.seq (.region (.pures hT 1 rfl (.nil (.seq (.seq (.seq (.region (.pures hT 2 rfl (.call Try.call30 rfl rfl rfl rfl (buf_may0) ?_)))))))))
  rintro v_13 hs_13 ⟨rfl, rfl⟩
  refine OT.pures hT 1 rfl (.nil (.seq (.seq (.region (.pures hT 2 rfl (.nil (.seq (.cond rfl (fun c15 => ?_) (fun c15 => ?_)))))))))
  ·
    refine TT.seq (.region (.pures hT 2 rfl (.nil (.seq (.ret (.of (rs := [.tmp 8]) [_] r rfl (.tmp rfl .nil) sl ?_))))))
    dsimp only [one]
    exact ⟨rfl, rfl⟩
  ·
    exact absurd c15 (by decide)

set_option maxHeartbeats 1000000 in
set_option maxRecDepth 100000 in
theorem buf_Flush0 {no : Int} {r : List Chunk} : Fun Try.prog 16 [.pointer none, .int .i64 no] r (fun v' hs' => v' = .int .i64 5 ∧ r = hs') := by
  refine Fun.enter 31 Try.func16 rfl Try.ntmps16 rfl ?_
  refine TT.seq (.region (.box rfl rfl rfl (fun b_3 => ?_)))
  refine OT.pures hT 1 rfl (.nil (.seq (.seq (.seq (.region (.pures hT 1 rfl (.load rfl rfl (Ld.one hT rfl hz rfl) rfl ?_)))))))
  refine OT.call Try.call30 rfl rfl rfl rfl (buf_may0) ?_
  rintro v_9 hs_9 ⟨rfl, rfl⟩
  refine OT.pures hT 1 rfl (.nil (.seq (.seq (.region (.pures hT 2 rfl (.nil (.seq (.cond rfl (fun c11 => ?_) (fun c11 => ?_)))))))))
  ·
    refine TT.seq (.region (.pures hT 2 rfl (.nil (.seq (.ret (.of (rs := [.tmp 4]) [_] r rfl (.tmp rfl .nil) sl ?_))))))
    dsimp only [one]
    exact ⟨rfl, rfl⟩
  ·
    exact absurd c11 (by decide)

set_option maxHeartbeats 1000000 in
set_option maxRecDepth 100000 in
theorem buf_All0 {r : List Chunk} : Fun Try.prog 17 [.pointer none] r (fun v' hs' => v' = .int .i64 5 ∧ r = hs') := by
  refine Fun.enter 29 Try.func17 rfl Try.ntmps17 rfl ?_
  refine TT.seq (.region (.pures hT 1 rfl (.nil (.seq (.seq (.seq (.region (.pures hT 2 rfl (.nil (.seq (.cond_true rfl (.seq (.region (.pures hT 1 rfl (.nil (.seq (.ret (.of (rs := [.tmp 2]) [_] r rfl (.tmp rfl .nil) sl ?_))))))))))))))))))
  dsimp only [one]
  exact ⟨rfl, rfl⟩

set_option maxHeartbeats 1000000 in
set_option maxRecDepth 100000 in
theorem buf_Dirty0 {r : List Chunk} : Fun Try.prog 18 [.pointer none] r (fun v' hs' => v' = .slice none 0 0 ∧ r = hs') := by
  refine Fun.enter 32 Try.func18 rfl Try.ntmps18 rfl ?_
  refine TT.seq (.region (.pures hT 1 rfl (.nil (.seq (.seq (.seq (.region (.pures hT 2 rfl (.nil (.seq (.cond_true rfl (.seq (.region (.pures hT 1 rfl (.nil (.seq (.ret (.of (rs := [.tmp 2]) [_] r rfl (.tmp rfl .nil) sl ?_))))))))))))))))))
  dsimp only [one]
  exact ⟨rfl, rfl⟩

set_option maxHeartbeats 1000000 in
set_option maxRecDepth 100000 in
theorem buf_Held0 {r : List Chunk} : Fun Try.prog 20 [.pointer none] r (fun v' hs' => v' = .int .i64 0 ∧ r = hs') := by
  refine Fun.enter 10 Try.func20 rfl Try.ntmps20 rfl ?_
  refine TT.seq (.region (.pures hT 1 rfl (.nil (.seq (.seq (.seq (.region (.pures hT 2 rfl (.nil (.seq (.cond_true rfl (.seq (.region (.pures hT 1 rfl (.nil (.seq (.ret (.of (rs := [.tmp 2]) [_] r rfl (.tmp rfl .nil) sl ?_))))))))))))))))))
  dsimp only [one]
  exact ⟨rfl, rfl⟩

end Go.Proofs.Ytoalhcodigpgkaa.Sx
