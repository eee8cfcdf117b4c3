/- Side pages: what Copies and Take compute, the program's and the document's. Printed by a program of ours off the loaded program and our notes; Lean checks it. -/
import Derived.Test.YtpijialhhdpobaaPlG
import Derived.Test.YtpijialhhdpobaaSxT
import Derived.Test.YtpijialhhdpobaaSxS
import Derived.Test.YtpijialhhdpobaaCtH
namespace Go.Proofs.Ytpijialhhdpobaa.Sx
open Go Go.Sx Go.Pl
variable [Outer]

theorem sl_Sort {v : Value} {xs : List Int} {H : Chunk} {r : List Chunk} (ho : Own Go.Sx.encI 1 3 v xs H) (hl : xs.length ≤ 1073741824) :
    Fun Try.prog 40 [v] (H :: r) (fun v' hs' => v' = .tuple #[] ∧ ∃ H', hs' = H' :: r ∧ Own Go.Sx.encI 1 3 v (xs.mergeSort fun x y => decide (x ≤ y)) H') :=
  sorted_of ho hl Try.slices_Sort_int_none (fun b off cap zs w h1 h2 h3 => Try.slices_Sort_int b off cap zs w h1 h2 h3)

set_option maxHeartbeats 1000000 in
set_option maxRecDepth 100000 in
theorem cat_Copies {next : Int} {v : Value} {xs : List Snap} {hs : List Chunk} (hr : Row encSnap 35 hs v xs) (hl : xs.length ≤ 64) : Fun Try.prog 22 [.agg ⟨[.int .i64 next, v]⟩] hs (fun v' hs' => ∃ H', hs' = H' :: hs ∧ Own Go.Sx.encI 1 3 v' (copiesP xs) H') := by
  refine Fun.enter 31 Try.func22 rfl Try.ntmps22 rfl ?_
  obtain ⟨a0, c0, hv⟩ := hr.len
  subst hv
  refine TT.seq ?_
  refine TT.region ?_
  refine OT.box rfl rfl rfl (fun b_1 => ?_)
  refine OT.pures hT 1 rfl ?_
  refine OT.nil ?_
  refine KT.seq ?_
  refine TT.seq ?_
  refine TT.region ?_
  refine OT.pures hT 1 rfl ?_
  refine OT.nil ?_
  refine KT.seq ?_
  refine TT.seq ?_
  refine TT.seq ?_
  refine TT.region ?_
  refine OT.pures hT 1 rfl ?_
  refine OT.load rfl rfl (Ld.slc hT rfl (by repeat (first | exact Has.one | apply Has.there)) rfl) rfl ?_
  refine OT.pures hT 2 rfl ?_
  refine OT.nil ?_
  refine KT.seq ?_
  refine TT.block ?_
  refine TT.chunk0 ?_
  refine TT.loop (ι := Nat × Value × Chunk) (fun j => (j.1) ≤ xs.length ∧ Own Go.Sx.encI 1 3 (j.2.1) (gather (xs.take (j.1))) (j.2.2)) (fun j => xs.length - (j.1)) (fun j => [(1, .pointer (some ⟨b_1, 0, none⟩)), (3, (j.2.1)), (9, .slice a0 xs.length c0), (10, .int .i64 xs.length), (11, .int .i64 ((j.1) : Nat))]) (fun j => [(b_1, blk [.int .i64 next, .slice a0 xs.length c0] 33 (0, 0))] :: (j.2.2) :: hs) (0, .slice none 0 0, []) ?_ (SubR.cons rfl (SubR.cons rfl (SubR.cons rfl (SubR.cons rfl (SubR.cons rfl (SubR.nil _)))))) (by repeat (first | exact Sel.refl _ | refine Sel.empty ?_ | refine Sel.pull (by repeat (first | exact Pull.head | apply Pull.tail)) ?_ | refine Sel.drop ?_)) ?_
  · dsimp only
    exact ⟨by omega, Own.nil⟩
  rintro ⟨i, w, K⟩ hI
  dsimp only at hI
  obtain ⟨hi, hO⟩ := hI
  show TT _ _ _ [(1, .pointer (some ⟨b_1, 0, none⟩)), (3, w), (9, .slice a0 xs.length c0), (10, .int .i64 xs.length), (11, .int .i64 (i : Nat))] ([(b_1, blk [.int .i64 next, .slice a0 xs.length c0] 33 (0, 0))] :: K :: hs)
  have hg := gather_length (xs := xs.take i) (fun s hs => hr.1 s (List.mem_of_mem_take hs))
  have hti := List.length_take_le' i xs
  refine TT.seq ?_
  refine TT.region ?_
  refine OT.pures hT 1 rfl ?_
  refine OT.nil ?_
  refine KT.seq ?_
  refine TT.seq ?_
  refine TT.cond rfl (fun c12 => ?_) (fun c12 => ?_)
  ·
    have c12 := of_decide_eq_true c12
    obtain ⟨s, hy⟩ := nth (l := xs) (i := i) (by omega)
    have h35 := hr.1 s (List.mem_of_getElem? hy)
    have h32 := map32 h35
    refine TT.skip ?_
    refine KT.seq ?_
    refine TT.seq ?_
    refine TT.block ?_
    refine TT.seq ?_
    refine TT.region ?_
    refine OT.index hT rfl rfl rfl rfl hr.there.there (by omega) hy rfl (fun ad_13 hel_13 => ?_)
    refine OT.load rfl rfl (hel_13.ld_struct hT rfl) rfl ?_
    refine OT.alloc Try.zeroValue42 rfl rfl (fun b_5 => ?_)
    refine OT.store_all hT rfl rfl rfl rfl (by repeat (first | exact Pull.head | apply Pull.tail)) (by exact h35) rfl (ones_snap s) (.inl (Nat.le_refl _)) ?_
    refine OT.nil ?_
    refine KT.seq ?_
    refine TT.seq ?_
    refine TT.region ?_
    refine OT.pures hT 1 rfl ?_
    refine OT.load rfl rfl (Ld.arr hT rfl Has.one (snap_map h35) (by simp [h32])) rfl ?_
    refine OT.pures hT 1 rfl ?_
    refine OT.nil ?_
    refine KT.seq ?_
    refine TT.block ?_
    refine TT.loop (ι := Nat × Value × Chunk) (fun j => (j.1) ≤ 32 ∧ Own Go.Sx.encI 1 3 (j.2.1) (gather (xs.take i) ++ not0 (s.map.take (j.1))) (j.2.2)) (fun j => 32 - (j.1)) (fun j => [(1, .pointer (some ⟨b_1, 0, none⟩)), (3, (j.2.1)), (5, .pointer (some ⟨b_5, 0, none⟩)), (9, .slice a0 xs.length c0), (10, .int .i64 xs.length), (11, .int .i64 (i : Nat)), (16, .agg ⟨s.map.map (Value.int .i64)⟩), (17, .int .i64 ((j.1) : Nat))]) (fun j => [(b_5, blk (encSnap s) 42 (0, 0))] :: [(b_1, blk [.int .i64 next, .slice a0 xs.length c0] 33 (0, 0))] :: (j.2.2) :: hs) (0, w, K) ?_ (SubR.cons rfl (SubR.cons rfl (SubR.cons rfl (SubR.cons rfl (SubR.cons rfl (SubR.cons rfl (SubR.cons rfl (SubR.cons rfl (SubR.nil _))))))))) (by repeat (first | exact Sel.refl _ | refine Sel.empty ?_ | refine Sel.pull (by repeat (first | exact Pull.head | apply Pull.tail)) ?_ | refine Sel.drop ?_)) ?_
    · dsimp only
      exact ⟨by omega, by unfold not0; simpa using hO⟩
    rintro ⟨no, w2, K2⟩ hI
    dsimp only at hI
    obtain ⟨hno, hO2⟩ := hI
    show TT _ _ _ [(1, .pointer (some ⟨b_1, 0, none⟩)), (3, w2), (5, .pointer (some ⟨b_5, 0, none⟩)), (9, .slice a0 xs.length c0), (10, .int .i64 xs.length), (11, .int .i64 (i : Nat)), (16, .agg ⟨s.map.map (Value.int .i64)⟩), (17, .int .i64 (no : Nat))] ([(b_5, blk (encSnap s) 42 (0, 0))] :: [(b_1, blk [.int .i64 next, .slice a0 xs.length c0] 33 (0, 0))] :: K2 :: hs)
    have hn0 := not0_length (s.map.take no)
    have hn1 := List.length_take_le no s.map
    refine TT.seq ?_
    refine TT.region ?_
    refine OT.pures hT 1 rfl ?_
    refine OT.nil ?_
    refine KT.seq ?_
    refine TT.seq ?_
    refine TT.cond rfl (fun c18 => ?_) (fun c18 => ?_)
    ·
      have c18 := of_decide_eq_true c18
      obtain ⟨at_, hat⟩ := nth (l := s.map) (i := no) (by omega)
      refine TT.skip ?_
      refine KT.seq ?_
      refine TT.seq ?_
      refine TT.block ?_
      refine TT.seq ?_
      refine TT.region ?_
      refine OT.index_arr hT rfl rfl rfl rfl rfl (by omega) (by simp [h32]) (by rw [Int.toNat_natCast, List.getElem?_map, hat]; rfl) rfl ?_
      refine OT.pures hT 1 rfl ?_
      refine OT.nil ?_
      refine KT.seq ?_
      refine TT.seq ?_
      refine TT.region ?_
      refine OT.pures hT 2 rfl ?_
      refine OT.nil ?_
      refine KT.seq ?_
      refine TT.cond rfl (fun c21 => ?_) (fun c21 => ?_)
      ·
        have c21 : ¬ at_ = 0 := by simpa using c21
        refine TT.region ?_
        refine OT.pures hT 2 rfl ?_
        refine OT.buildSlice (enc := Go.Sx.encI) (xs := [at_]) (xos := [.tmp 23]) el46 rfl rfl rfl rfl rfl (by simp [Value.cells]) (fun _ _ => rfl) rfl (by decide) rfl (fun v_24 H_24 ho_24 => ?_)
        refine OT.append hT el46 rfl rfl rfl rfl (by repeat (first | exact Pull.head | apply Pull.tail)) hO2 ho_24.row rfl (by simp only [List.length_append, List.length_cons, List.length_nil]; omega) rfl (fun v_25 H_25 ho_25 => ?_)
        refine OT.pures hT 1 rfl ?_
        refine OT.nil ?_
        refine KT.blk ?_
        refine KT.seq ?_
        refine TT.region ?_
        refine OT.pures hT 2 rfl ?_
        refine OT.nil ?_
        refine KT.loop (no + 1, v_25, H_25) ?_ ?_ (SubR.cons rfl (SubR.cons rfl (SubR.cons rfl (SubR.cons rfl (SubR.cons rfl (SubR.cons rfl (SubR.cons rfl (SubR.cons' rfl (by (try dsimp only); exact (int_eq (by rw [wrap_i64 (by omega) (by omega)]; omega))) (SubR.nil _))))))))) (by repeat (first | exact Sel.refl _ | refine Sel.empty ?_ | refine Sel.pull (by repeat (first | exact Pull.head | apply Pull.tail)) ?_ | refine Sel.drop ?_))
        · dsimp only
          refine ⟨by omega, ?_⟩
          unfold not0
          rw [filter_take_succ _ hat, if_pos (by simpa using c21), ← List.append_assoc]
          exact ho_25
        · dsimp only
          omega
      ·
        have c21 : at_ = 0 := by simpa using c21
        refine TT.skip ?_
        refine KT.blk ?_
        refine KT.seq ?_
        refine TT.region ?_
        refine OT.pures hT 2 rfl ?_
        refine OT.nil ?_
        refine KT.loop (no + 1, w2, K2) ?_ ?_ (SubR.cons rfl (SubR.cons rfl (SubR.cons rfl (SubR.cons rfl (SubR.cons rfl (SubR.cons rfl (SubR.cons rfl (SubR.cons' rfl (by (try dsimp only); exact (int_eq (by rw [wrap_i64 (by omega) (by omega)]; omega))) (SubR.nil _))))))))) (by repeat (first | exact Sel.refl _ | refine Sel.empty ?_ | refine Sel.pull (by repeat (first | exact Pull.head | apply Pull.tail)) ?_ | refine Sel.drop ?_))
        · dsimp only
          refine ⟨by omega, ?_⟩
          unfold not0
          rw [filter_take_succ _ hat, if_neg (by simpa using c21), List.append_nil]
          exact hO2
        · dsimp only
          omega
    ·
      have c18 := of_decide_eq_false c18
      refine TT.exit ?_
      refine XT.seq ?_
      refine XT.loop ?_
      refine XT.here ?_
      refine KT.blk ?_
      refine KT.seq ?_
      refine TT.region ?_
      refine OT.pures hT 2 rfl ?_
      refine OT.nil ?_
      refine KT.loop (i + 1, w2, K2) ?_ ?_ (SubR.cons rfl (SubR.cons rfl (SubR.cons rfl (SubR.cons rfl (SubR.cons' rfl (by (try dsimp only); exact (int_eq (by rw [wrap_i64 (by omega) (by omega)]; omega))) (SubR.nil _)))))) (by repeat (first | exact Sel.refl _ | refine Sel.empty ?_ | refine Sel.pull (by repeat (first | exact Pull.head | apply Pull.tail)) ?_ | refine Sel.drop ?_))
      · dsimp only
        refine ⟨by omega, ?_⟩
        unfold gather
        rw [flatMap_take_succ _ _ hy]
        rw [List.take_of_length_le (l := s.map) (by omega)] at hO2
        exact hO2
      · dsimp only
        omega
  ·
    have c12 := of_decide_eq_false c12
    rw [List.take_of_length_le (by omega)] at hO hg
    refine TT.exit ?_
    refine XT.seq ?_
    refine XT.loop ?_
    refine XT.here ?_
    refine KT.seq ?_
    refine TT.seq ?_
    refine TT.region ?_
    refine OT.pures hT 1 rfl ?_
    refine OT.call Try.call40 rfl rfl rfl rfl (Fun.pull (by repeat (first | exact Pull.head | apply Pull.tail)) (sl_Sort hO (by omega))) ?_
    rintro v_29 hs_29 ⟨rfl, H29, rfl, ho29⟩
    refine OT.nil ?_
    refine KT.seq ?_
    refine TT.seq ?_
    refine TT.region ?_
    refine OT.pures hT 2 rfl ?_
    refine OT.nil ?_
    refine KT.seq ?_
    refine TT.ret ?_
    refine RT.of (rs := [.tmp 2]) [_] (H29 :: hs) rfl (.tmp rfl .nil) (by repeat (first | exact Sel.refl _ | refine Sel.empty ?_ | refine Sel.pull (by repeat (first | exact Pull.head | apply Pull.tail)) ?_ | refine Sel.drop ?_)) ?_
    dsimp only [one]
    exact ⟨_, rfl, ho29⟩

set_option maxHeartbeats 1000000 in
set_option maxRecDepth 100000 in
theorem cat_Take {next : Int} {v : Value} {xs : List Snap} {hs : List Chunk} (hr : Row encSnap 35 hs v xs) (hl : xs.length ≤ 64) : Fun Try.prog 20 [.agg ⟨[.int .i64 next, v]⟩] hs (fun v' hs' => v' = .tuple ⟨[.int .i64 (takeP xs).1, .bool (takeP xs).2]⟩ ∧ hs = hs') := by
  refine Fun.enter 17 Try.func20 rfl Try.ntmps20 rfl ?_
  obtain ⟨a0, c0, hv⟩ := hr.len
  subst hv
  refine TT.seq ?_
  refine TT.region ?_
  refine OT.box rfl rfl rfl (fun b_1 => ?_)
  refine OT.pures hT 2 rfl ?_
  refine OT.nil ?_
  refine KT.seq ?_
  refine TT.seq ?_
  refine TT.region ?_
  refine OT.load rfl rfl (Ld.struct_all hT rfl (by repeat (first | exact Has.one | apply Has.there)) rfl) rfl ?_
  refine OT.call Try.call22 rfl rfl rfl rfl (cat_Copies hr.there hl) ?_
  rintro v_7 hs_7 ⟨H7, rfl, ho7⟩
  have hcl : (copiesP xs).length ≤ 1073741824 := by
    unfold copiesP
    rw [List.length_mergeSort]
    have := gather_length hr.1
    omega
  refine OT.pures hT 1 rfl ?_
  refine OT.nil ?_
  refine KT.seq ?_
  refine TT.seq ?_
  refine TT.seq ?_
  refine TT.region ?_
  refine OT.pures hT 1 rfl ?_
  refine OT.nil ?_
  refine KT.seq ?_
  refine TT.block ?_
  refine TT.loop (ι := Nat) (fun j => (j) ≤ 64 ∧ freeAt (64 - (j)) ((32 + (j) : Nat) : Int) (copiesP xs) = takeP xs) (fun j => 64 - (j)) (fun j => [(1, .pointer (some ⟨b_1, 0, none⟩)), (4, v_7), (5, .int .i64 ((32 + (j) : Nat) : Int))]) (fun j => H7 :: [(b_1, blk [.int .i64 next, .slice a0 xs.length c0] 33 (0, 0))] :: hs) (0) ?_ (SubR.cons rfl (SubR.cons rfl (SubR.cons rfl (SubR.nil _)))) (by repeat (first | exact Sel.refl _ | refine Sel.empty ?_ | refine Sel.pull (by repeat (first | exact Pull.head | apply Pull.tail)) ?_ | refine Sel.drop ?_)) ?_
  · exact ⟨by omega, rfl⟩
  rintro k ⟨hk, hp⟩
  show TT _ _ _ [(1, .pointer (some ⟨b_1, 0, none⟩)), (4, v_7), (5, .int .i64 ((32 + k : Nat) : Int))] (H7 :: [(b_1, blk [.int .i64 next, .slice a0 xs.length c0] 33 (0, 0))] :: hs)
  refine TT.seq ?_
  refine TT.seq ?_
  refine TT.region ?_
  refine OT.pures hT 2 rfl ?_
  refine OT.nil ?_
  refine KT.seq ?_
  refine TT.cond rfl (fun c9 => ?_) (fun c9 => ?_)
  ·
    have c9 := of_decide_eq_true c9
    rw [show 64 - k = (63 - k) + 1 by omega, freeAt] at hp
    refine TT.skip ?_
    refine KT.seq ?_
    refine TT.seq ?_
    refine TT.block ?_
    refine TT.seq ?_
    refine TT.region ?_
    refine OT.pures hT 2 rfl ?_
    refine OT.call Try.call34 rfl rfl rfl rfl (sl_Contains ho7.row hcl) ?_
    rintro v_14 hs_14 ⟨rfl, rfl⟩
    refine OT.pures hT 1 rfl ?_
    refine OT.nil ?_
    refine KT.seq ?_
    refine TT.cond rfl (fun c15 => ?_) (fun c15 => ?_)
    ·
      have c15 : ((32 + k : Nat) : Int) ∉ copiesP xs := fun h => by rw [decide_eq_true h] at c15; cases c15
      rw [if_neg c15] at hp
      refine TT.seq ?_
      refine TT.region ?_
      refine OT.pures hT 3 rfl ?_
      refine OT.nil ?_
      refine KT.seq ?_
      refine TT.ret ?_
      refine RT.of (rs := [.tmp 2, .tmp 3]) [_, _] hs rfl (.tmp rfl (.tmp rfl .nil)) (by repeat (first | exact Sel.refl _ | refine Sel.empty ?_ | refine Sel.pull (by repeat (first | exact Pull.head | apply Pull.tail)) ?_ | refine Sel.drop ?_)) ?_
      dsimp only [one]
      rw [← hp]
      exact ⟨rfl, rfl⟩
    ·
      have c15 : ((32 + k : Nat) : Int) ∈ copiesP xs := Decidable.byContradiction fun h => by rw [decide_eq_false h] at c15; cases c15
      rw [if_pos c15] at hp
      refine TT.skip ?_
      refine KT.blk ?_
      refine KT.seq ?_
      refine TT.region ?_
      refine OT.pures hT 3 rfl ?_
      refine OT.nil ?_
      refine KT.loop (k + 1) ?_ ?_ (SubR.cons rfl (SubR.cons rfl (SubR.cons' rfl (by (try dsimp only); exact (int_eq (by rw [wrap_i64 (by omega) (by omega)]; omega))) (SubR.nil _)))) (by repeat (first | exact Sel.refl _ | refine Sel.empty ?_ | refine Sel.pull (by repeat (first | exact Pull.head | apply Pull.tail)) ?_ | refine Sel.drop ?_))
      · refine ⟨by omega, ?_⟩
        rw [show 64 - (k + 1) = 63 - k by omega, show ((32 + (k + 1) : Nat) : Int) = ((32 + k : Nat) : Int) + 1 by omega]
        exact hp
      · omega
  ·
    have c9 := of_decide_eq_false c9
    rw [show 64 - k = 0 by omega, freeAt] at hp
    refine TT.exit ?_
    refine XT.seq ?_
    refine XT.loop ?_
    refine XT.here ?_
    refine KT.seq ?_
    refine TT.seq ?_
    refine TT.region ?_
    refine OT.pures hT 2 rfl ?_
    refine OT.nil ?_
    refine KT.seq ?_
    refine TT.ret ?_
    refine RT.of (rs := [.tmp 2, .tmp 3]) [_, _] hs rfl (.tmp rfl (.tmp rfl .nil)) (by repeat (first | exact Sel.refl _ | refine Sel.empty ?_ | refine Sel.pull (by repeat (first | exact Pull.head | apply Pull.tail)) ?_ | refine Sel.drop ?_)) ?_
    dsimp only [one]
    rw [← hp]
    exact ⟨rfl, rfl⟩

set_option maxHeartbeats 4000000 in
set_option maxRecDepth 100000 in
theorem ref_Copies {next : Int} {v : Value} {xs : List Snap} {hs : List Chunk} (hr : Row encSnap 35 hs v xs) (hl : xs.length ≤ 64) : Fun Try.prog 23 [.agg ⟨[.int .i64 next, v]⟩] hs (fun v' hs' => ∃ H', hs' = H' :: hs ∧ Own Go.Sx.encI 1 3 v' (copiesR xs) H') := by
  refine Fun.enter 37 Try.func23 rfl Try.ntmps23 rfl ?_
  obtain ⟨a0, c0, hv⟩ := hr.len
  subst hv
  refine TT.seq ?_
  refine TT.region ?_
  refine OT.box rfl rfl rfl (fun b_1 => ?_)
  refine OT.pures hT 1 rfl ?_
  refine OT.nil ?_
  refine KT.seq ?_
  refine TT.seq ?_
  refine TT.region ?_
  refine OT.pures hT 1 rfl ?_
  refine OT.nil ?_
  refine KT.seq ?_
  refine TT.seq ?_
  refine TT.seq ?_
  refine TT.region ?_
  refine OT.pures hT 1 rfl ?_
  refine OT.nil ?_
  refine KT.seq ?_
  refine TT.block ?_
  refine TT.chunk0 ?_
  refine TT.loop (ι := Nat × Value × Chunk) (fun j => (j.1) ≤ 255 ∧ Own Go.Sx.encI 1 3 (j.2.1) (copiesTo (j.1) xs) (j.2.2)) (fun j => 255 - (j.1)) (fun j => [(1, .pointer (some ⟨b_1, 0, none⟩)), (3, (j.2.1)), (4, .int .i64 (((j.1) : Int) + 1))]) (fun j => [(b_1, blk [.int .i64 next, .slice a0 xs.length c0] 24 (0, 0))] :: (j.2.2) :: hs) (0, .slice none 0 0, []) ?_ (SubR.cons rfl (SubR.cons rfl (SubR.cons rfl (SubR.nil _)))) (by repeat (first | exact Sel.refl _ | refine Sel.empty ?_ | refine Sel.pull (by repeat (first | exact Pull.head | apply Pull.tail)) ?_ | refine Sel.drop ?_)) ?_
  · dsimp only
    exact ⟨by omega, Own.nil⟩
  rintro ⟨k, w, K⟩ hI
  dsimp only at hI
  obtain ⟨hk, hO⟩ := hI
  show TT _ _ _ [(1, .pointer (some ⟨b_1, 0, none⟩)), (3, w), (4, .int .i64 ((k : Int) + 1))] ([(b_1, blk [.int .i64 next, .slice a0 xs.length c0] 24 (0, 0))] :: K :: hs)
  have hcl : (copiesTo k xs).length ≤ 255 * (64 * 32) := Nat.le_trans (copiesTo_length hr.1) (Nat.mul_le_mul hk (Nat.mul_le_mul hl (Nat.le_refl _)))
  refine TT.seq ?_
  refine TT.seq ?_
  refine TT.region ?_
  refine OT.pures hT 2 rfl ?_
  refine OT.nil ?_
  refine KT.seq ?_
  refine TT.cond rfl (fun c8 => ?_) (fun c8 => ?_)
  ·
    have c8 := of_decide_eq_true c8
    refine TT.skip ?_
    refine KT.seq ?_
    refine TT.seq ?_
    refine TT.block ?_
    refine TT.seq ?_
    refine TT.region ?_
    refine OT.pures hT 1 rfl ?_
    refine OT.nil ?_
    refine KT.seq ?_
    refine TT.block ?_
    refine TT.loop (ι := Nat × Value × Chunk) (fun j => (j.1) ≤ xs.length ∧ Own Go.Sx.encI 1 3 (j.2.1) (copiesTo k xs ++ sameIn ((k : Int) + 1) (xs.take (j.1))) (j.2.2)) (fun j => xs.length - (j.1)) (fun j => [(1, .pointer (some ⟨b_1, 0, none⟩)), (3, (j.2.1)), (4, .int .i64 ((k : Int) + 1)), (5, .int .i64 ((j.1) : Nat))]) (fun j => [(b_1, blk [.int .i64 next, .slice a0 xs.length c0] 24 (0, 0))] :: (j.2.2) :: hs) (0, w, K) ?_ (SubR.cons rfl (SubR.cons rfl (SubR.cons rfl (SubR.cons rfl (SubR.nil _))))) (by repeat (first | exact Sel.refl _ | refine Sel.empty ?_ | refine Sel.pull (by repeat (first | exact Pull.head | apply Pull.tail)) ?_ | refine Sel.drop ?_)) ?_
    · dsimp only
      exact ⟨by omega, by unfold sameIn; simpa using hO⟩
    rintro ⟨i, w2, K2⟩ hI
    dsimp only at hI
    obtain ⟨hi, hO2⟩ := hI
    show TT _ _ _ [(1, .pointer (some ⟨b_1, 0, none⟩)), (3, w2), (4, .int .i64 ((k : Int) + 1)), (5, .int .i64 (i : Nat))] ([(b_1, blk [.int .i64 next, .slice a0 xs.length c0] 24 (0, 0))] :: K2 :: hs)
    have hsl := sameIn_length (n := (k : Int) + 1) (xs := xs.take i) (fun s hs => hr.1 s (List.mem_of_mem_take hs))
    have hti := List.length_take_le' i xs
    refine TT.seq ?_
    refine TT.seq ?_
    refine TT.region ?_
    refine OT.pures hT 2 rfl ?_
    refine OT.load rfl rfl (Ld.slc hT rfl (by repeat (first | exact Has.one | apply Has.there)) rfl) rfl ?_
    refine OT.pures hT 2 rfl ?_
    refine OT.nil ?_
    refine KT.seq ?_
    refine TT.cond rfl (fun c15 => ?_) (fun c15 => ?_)
    ·
      have c15 := of_decide_eq_true c15
      obtain ⟨s, hy⟩ := nth (l := xs) (i := i) (by omega)
      have h35 := hr.1 s (List.mem_of_getElem? hy)
      have h32 := map32 h35
      refine TT.skip ?_
      refine KT.seq ?_
      refine TT.seq ?_
      refine TT.block ?_
      refine TT.seq ?_
      refine TT.region ?_
      refine OT.pures hT 1 rfl ?_
      refine OT.nil ?_
      refine KT.seq ?_
      refine TT.block ?_
      refine TT.loop (ι := Nat × Value × Chunk) (fun j => (j.1) ≤ 32 ∧ Own Go.Sx.encI 1 3 (j.2.1) (copiesTo k xs ++ sameIn ((k : Int) + 1) (xs.take i) ++ same ((k : Int) + 1) (s.map.take (j.1))) (j.2.2)) (fun j => 32 - (j.1)) (fun j => [(1, .pointer (some ⟨b_1, 0, none⟩)), (3, (j.2.1)), (4, .int .i64 ((k : Int) + 1)), (5, .int .i64 (i : Nat)), (6, .int .i64 ((j.1) : Nat))]) (fun j => [(b_1, blk [.int .i64 next, .slice a0 xs.length c0] 24 (0, 0))] :: (j.2.2) :: hs) (0, w2, K2) ?_ (SubR.cons rfl (SubR.cons rfl (SubR.cons rfl (SubR.cons rfl (SubR.cons rfl (SubR.nil _)))))) (by repeat (first | exact Sel.refl _ | refine Sel.empty ?_ | refine Sel.pull (by repeat (first | exact Pull.head | apply Pull.tail)) ?_ | refine Sel.drop ?_)) ?_
      · dsimp only
        exact ⟨by omega, by unfold same; simpa using hO2⟩
      rintro ⟨no, w3, K3⟩ hI
      dsimp only at hI
      obtain ⟨hno, hO3⟩ := hI
      show TT _ _ _ [(1, .pointer (some ⟨b_1, 0, none⟩)), (3, w3), (4, .int .i64 ((k : Int) + 1)), (5, .int .i64 (i : Nat)), (6, .int .i64 (no : Nat))] ([(b_1, blk [.int .i64 next, .slice a0 xs.length c0] 24 (0, 0))] :: K3 :: hs)
      have hn0 := same_length ((k : Int) + 1) (s.map.take no)
      have hn1 := List.length_take_le no s.map
      refine TT.seq ?_
      refine TT.seq ?_
      refine TT.region ?_
      refine OT.pures hT 2 rfl ?_
      refine OT.nil ?_
      refine KT.seq ?_
      refine TT.cond rfl (fun c19 => ?_) (fun c19 => ?_)
      ·
        have c19 := of_decide_eq_true c19
        obtain ⟨x, hn⟩ := nth (l := s.map) (i := no) (by omega)
        refine TT.skip ?_
        refine KT.seq ?_
        refine TT.seq ?_
        refine TT.block ?_
        refine TT.seq ?_
        refine TT.region ?_
        refine OT.pures hT 1 rfl ?_
        refine OT.load rfl rfl (Ld.slc hT rfl (by repeat (first | exact Has.one | apply Has.there)) rfl) rfl ?_
        refine OT.pures hT 2 rfl ?_
        refine OT.index hT rfl rfl rfl rfl hr.there.there (by omega) hy rfl (fun ad_26 hel_26 => ?_)
        obtain ⟨eb_26, eo_26, rfl, hfld_26⟩ := hel_26.at (P := Try.prog)
        refine OT.pures hT 1 rfl ?_
        refine OT.index_at hT rfl rfl rfl rfl (by omega) (by omega) rfl ?_
        refine OT.load rfl rfl (by rw [Nat.add_assoc]; exact hfld_26 hT rfl (snap_at hn)) rfl ?_
        refine OT.pures hT 2 rfl ?_
        refine OT.nil ?_
        refine KT.seq ?_
        refine TT.cond rfl (fun c31 => ?_) (fun c31 => ?_)
        ·
          have c31 : x = (k : Int) + 1 := by simpa using c31
          refine TT.region ?_
          refine OT.pures hT 2 rfl ?_
          refine OT.buildSlice (enc := Go.Sx.encI) (xs := [(k : Int) + 1]) (xos := [.tmp 33]) el46 rfl rfl rfl rfl rfl (by simp [Value.cells]) (fun _ _ => rfl) rfl (by decide) rfl (fun v_34 H_34 ho_34 => ?_)
          refine OT.append hT el46 rfl rfl rfl rfl (by repeat (first | exact Pull.head | apply Pull.tail)) hO3 ho_34.row rfl (by simp only [List.length_append, List.length_cons, List.length_nil]; omega) rfl (fun v_35 H_35 ho_35 => ?_)
          refine OT.pures hT 1 rfl ?_
          refine OT.nil ?_
          refine KT.blk ?_
          refine KT.seq ?_
          refine TT.region ?_
          refine OT.pures hT 3 rfl ?_
          refine OT.nil ?_
          refine KT.loop (no + 1, v_35, H_35) ?_ ?_ (SubR.cons rfl (SubR.cons rfl (SubR.cons rfl (SubR.cons rfl (SubR.cons' rfl (by (try dsimp only); exact (int_eq (by rw [wrap_i64 (by omega) (by omega)]; omega))) (SubR.nil _)))))) (by repeat (first | exact Sel.refl _ | refine Sel.empty ?_ | refine Sel.pull (by repeat (first | exact Pull.head | apply Pull.tail)) ?_ | refine Sel.drop ?_))
          · dsimp only
            refine ⟨by omega, ?_⟩
            unfold same
            rw [filter_take_succ _ hn, if_pos (by simpa using c31), ← List.append_assoc, c31]
            exact ho_35
          · dsimp only
            omega
        ·
          have c31 : ¬ x = (k : Int) + 1 := by simpa using c31
          refine TT.skip ?_
          refine KT.blk ?_
          refine KT.seq ?_
          refine TT.region ?_
          refine OT.pures hT 3 rfl ?_
          refine OT.nil ?_
          refine KT.loop (no + 1, w3, K3) ?_ ?_ (SubR.cons rfl (SubR.cons rfl (SubR.cons rfl (SubR.cons rfl (SubR.cons' rfl (by (try dsimp only); exact (int_eq (by rw [wrap_i64 (by omega) (by omega)]; omega))) (SubR.nil _)))))) (by repeat (first | exact Sel.refl _ | refine Sel.empty ?_ | refine Sel.pull (by repeat (first | exact Pull.head | apply Pull.tail)) ?_ | refine Sel.drop ?_))
          · dsimp only
            refine ⟨by omega, ?_⟩
            unfold same
            rw [filter_take_succ _ hn, if_neg (by simpa using c31), List.append_nil]
            exact hO3
          · dsimp only
            omega
      ·
        have c19 := of_decide_eq_false c19
        refine TT.exit ?_
        refine XT.seq ?_
        refine XT.loop ?_
        refine XT.here ?_
        refine KT.blk ?_
        refine KT.seq ?_
        refine TT.region ?_
        refine OT.pures hT 3 rfl ?_
        refine OT.nil ?_
        refine KT.loop (i + 1, w3, K3) ?_ ?_ (SubR.cons rfl (SubR.cons rfl (SubR.cons rfl (SubR.cons' rfl (by (try dsimp only); exact (int_eq (by rw [wrap_i64 (by omega) (by omega)]; omega))) (SubR.nil _))))) (by repeat (first | exact Sel.refl _ | refine Sel.empty ?_ | refine Sel.pull (by repeat (first | exact Pull.head | apply Pull.tail)) ?_ | refine Sel.drop ?_))
        · dsimp only
          refine ⟨by omega, ?_⟩
          unfold sameIn
          rw [flatMap_take_succ _ _ hy, ← List.append_assoc]
          rw [List.take_of_length_le (l := s.map) (by omega)] at hO3
          exact hO3
        · dsimp only
          omega
    ·
      have c15 := of_decide_eq_false c15
      refine TT.exit ?_
      refine XT.seq ?_
      refine XT.loop ?_
      refine XT.here ?_
      refine KT.blk ?_
      refine KT.seq ?_
      refine TT.region ?_
      refine OT.pures hT 3 rfl ?_
      refine OT.nil ?_
      refine KT.loop (k + 1, w2, K2) ?_ ?_ (SubR.cons rfl (SubR.cons rfl (SubR.cons' rfl (by (try dsimp only); exact (int_eq (by rw [wrap_i64 (by omega) (by omega)]; omega))) (SubR.nil _)))) (by repeat (first | exact Sel.refl _ | refine Sel.empty ?_ | refine Sel.pull (by repeat (first | exact Pull.head | apply Pull.tail)) ?_ | refine Sel.drop ?_))
      · dsimp only
        refine ⟨by omega, ?_⟩
        rw [copiesTo_succ]
        rw [List.take_of_length_le (by omega)] at hO2
        exact hO2
      · dsimp only
        omega
  ·
    have c8 := of_decide_eq_false c8
    obtain rfl : k = 255 := by omega
    refine TT.exit ?_
    refine XT.seq ?_
    refine XT.loop ?_
    refine XT.here ?_
    refine KT.seq ?_
    refine TT.seq ?_
    refine TT.region ?_
    refine OT.pures hT 2 rfl ?_
    refine OT.nil ?_
    refine KT.seq ?_
    refine TT.ret ?_
    refine RT.of (rs := [.tmp 2]) [_] (K :: hs) rfl (.tmp rfl .nil) (by repeat (first | exact Sel.refl _ | refine Sel.empty ?_ | refine Sel.pull (by repeat (first | exact Pull.head | apply Pull.tail)) ?_ | refine Sel.drop ?_)) ?_
    dsimp only [one]
    exact ⟨_, rfl, hO⟩

set_option maxHeartbeats 4000000 in
set_option maxRecDepth 100000 in
theorem ref_Take {next : Int} {v : Value} {xs : List Snap} {hs : List Chunk} (hr : Row encSnap 35 hs v xs) (hl : xs.length ≤ 64) : Fun Try.prog 21 [.agg ⟨[.int .i64 next, v]⟩] hs (fun v' hs' => v' = .tuple ⟨[.int .i64 (takeR xs).1, .bool (takeR xs).2]⟩ ∧ hs = hs') := by
  refine Fun.enter 31 Try.func21 rfl Try.ntmps21 rfl ?_
  obtain ⟨a0, c0, hv⟩ := hr.len
  subst hv
  refine TT.seq ?_
  refine TT.region ?_
  refine OT.box rfl rfl rfl (fun b_1 => ?_)
  refine OT.pures hT 2 rfl ?_
  refine OT.nil ?_
  refine KT.seq ?_
  refine TT.seq ?_
  refine TT.region ?_
  refine OT.load rfl rfl (Ld.struct_all hT rfl (by repeat (first | exact Has.one | apply Has.there)) rfl) rfl ?_
  refine OT.call Try.call23 rfl rfl rfl rfl (ref_Copies hr.there hl) ?_
  rintro v_9 hs_9 ⟨H9, rfl, ho9⟩
  obtain ⟨a9, c9, hv9⟩ := (ho9.row (hs := hs)).len
  subst hv9
  have hcl : (copiesR xs).length ≤ 255 * (64 * 32) := Nat.le_trans (copiesTo_length hr.1) (Nat.mul_le_mul (Nat.le_refl _) (Nat.mul_le_mul hl (Nat.le_refl _)))
  refine OT.pures hT 1 rfl ?_
  refine OT.nil ?_
  refine KT.seq ?_
  refine TT.seq ?_
  refine TT.seq ?_
  refine TT.region ?_
  refine OT.pures hT 1 rfl ?_
  refine OT.nil ?_
  refine KT.seq ?_
  refine TT.block ?_
  refine TT.loop (ι := Nat) (fun j => (j) ≤ 64 ∧ freeAt (64 - (j)) ((32 + (j) : Nat) : Int) (copiesR xs) = takeR xs) (fun j => 64 - (j)) (fun j => [(1, .pointer (some ⟨b_1, 0, none⟩)), (4, .slice a9 (copiesR xs).length c9), (5, .int .i64 ((32 + (j) : Nat) : Int))]) (fun j => H9 :: [(b_1, blk [.int .i64 next, .slice a0 xs.length c0] 24 (0, 0))] :: hs) (0) ?_ (SubR.cons rfl (SubR.cons rfl (SubR.cons rfl (SubR.nil _)))) (by repeat (first | exact Sel.refl _ | refine Sel.empty ?_ | refine Sel.pull (by repeat (first | exact Pull.head | apply Pull.tail)) ?_ | refine Sel.drop ?_)) ?_
  · exact ⟨by omega, rfl⟩
  rintro k ⟨hk, hp⟩
  show TT _ _ _ [(1, .pointer (some ⟨b_1, 0, none⟩)), (4, .slice a9 (copiesR xs).length c9), (5, .int .i64 ((32 + k : Nat) : Int))] (H9 :: [(b_1, blk [.int .i64 next, .slice a0 xs.length c0] 24 (0, 0))] :: hs)
  refine TT.seq ?_
  refine TT.seq ?_
  refine TT.region ?_
  refine OT.pures hT 2 rfl ?_
  refine OT.nil ?_
  refine KT.seq ?_
  refine TT.cond rfl (fun c11 => ?_) (fun c11 => ?_)
  ·
    have c11 := of_decide_eq_true c11
    rw [show 64 - k = (63 - k) + 1 by omega, freeAt] at hp
    refine TT.skip ?_
    refine KT.seq ?_
    refine TT.seq ?_
    refine TT.block ?_
    refine TT.seq ?_
    refine TT.region ?_
    refine OT.pures hT 1 rfl ?_
    refine OT.nil ?_
    refine KT.seq ?_
    refine TT.seq ?_
    refine TT.seq ?_
    refine TT.region ?_
    refine OT.pures hT 1 rfl ?_
    refine OT.nil ?_
    refine KT.seq ?_
    refine TT.block ?_
    refine TT.loop (ι := Nat × Bool) (fun j => (j.1) ≤ (copiesR xs).length ∧ ((j.2) = true ↔ ((32 + k : Nat) : Int) ∉ (copiesR xs).take (j.1))) (fun j => (copiesR xs).length - (j.1)) (fun j => [(1, .pointer (some ⟨b_1, 0, none⟩)), (4, .slice a9 (copiesR xs).length c9), (5, .int .i64 ((32 + k : Nat) : Int)), (6, .bool (j.2)), (7, .int .i64 ((j.1) : Nat))]) (fun j => H9 :: [(b_1, blk [.int .i64 next, .slice a0 xs.length c0] 24 (0, 0))] :: hs) (0, true) ?_ (SubR.cons rfl (SubR.cons rfl (SubR.cons rfl (SubR.cons rfl (SubR.cons rfl (SubR.nil _)))))) (by repeat (first | exact Sel.refl _ | refine Sel.empty ?_ | refine Sel.pull (by repeat (first | exact Pull.head | apply Pull.tail)) ?_ | refine Sel.drop ?_)) ?_
    · dsimp only
      exact ⟨by omega, by simp⟩
    rintro ⟨m, b⟩ hI
    dsimp only at hI
    obtain ⟨hm, hb⟩ := hI
    show TT _ _ _ [(1, .pointer (some ⟨b_1, 0, none⟩)), (4, .slice a9 (copiesR xs).length c9), (5, .int .i64 ((32 + k : Nat) : Int)), (6, .bool b), (7, .int .i64 (m : Nat))] (H9 :: [(b_1, blk [.int .i64 next, .slice a0 xs.length c0] 24 (0, 0))] :: hs)
    refine TT.seq ?_
    refine TT.seq ?_
    refine TT.region ?_
    refine OT.pures hT 4 rfl ?_
    refine OT.nil ?_
    refine KT.seq ?_
    refine TT.cond rfl (fun c17 => ?_) (fun c17 => ?_)
    ·
      have c17 := of_decide_eq_true c17
      obtain ⟨x, hx⟩ := nth (l := copiesR xs) (i := m) (by omega)
      refine TT.skip ?_
      refine KT.seq ?_
      refine TT.seq ?_
      refine TT.block ?_
      refine TT.region ?_
      refine OT.pures hT 2 rfl ?_
      refine OT.split 21 rfl (fun g21 => ?_) (fun g21 => ?_)
      ·
        refine OT.pures hT 2 rfl ?_
        refine OT.index hT rfl rfl rfl rfl ho9.row (by omega) hx rfl (fun ad_24 hel_24 => ?_)
        refine OT.load rfl rfl (hel_24.ld_one hT rfl rfl) rfl ?_
        refine OT.pures hT 4 rfl ?_
        refine OT.nil ?_
        refine KT.blk ?_
        refine KT.seq ?_
        refine TT.region ?_
        refine OT.pures hT 3 rfl ?_
        refine OT.nil ?_
        refine KT.loop (m + 1, _) ?_ ?_ (SubR.cons rfl (SubR.cons rfl (SubR.cons rfl (SubR.cons rfl (SubR.cons' rfl (by (try dsimp only); exact (int_eq (by rw [wrap_i64 (by omega) (by omega)]; omega))) (SubR.nil _)))))) (by repeat (first | exact Sel.refl _ | refine Sel.empty ?_ | refine Sel.pull (by repeat (first | exact Pull.head | apply Pull.tail)) ?_ | refine Sel.drop ?_))
        · dsimp only
          refine ⟨by omega, ?_⟩
          rw [take_succ hx, List.mem_append, not_or, ← hb, g21, List.mem_singleton]
          refine ⟨fun h => ⟨rfl, fun e => (bne_iff_ne (a := x) (b := ((32 + k : Nat) : Int))).1 h e.symm⟩, fun h => (bne_iff_ne (a := x) (b := ((32 + k : Nat) : Int))).2 fun e => h.2 e.symm⟩
        · dsimp only
          omega
      ·
        refine OT.pures hT 8 rfl ?_
        refine OT.nil ?_
        refine KT.blk ?_
        refine KT.seq ?_
        refine TT.region ?_
        refine OT.pures hT 3 rfl ?_
        refine OT.nil ?_
        refine KT.loop (m + 1, false) ?_ ?_ (SubR.cons rfl (SubR.cons rfl (SubR.cons rfl (SubR.cons rfl (SubR.cons' rfl (by (try dsimp only); exact (int_eq (by rw [wrap_i64 (by omega) (by omega)]; omega))) (SubR.nil _)))))) (by repeat (first | exact Sel.refl _ | refine Sel.empty ?_ | refine Sel.pull (by repeat (first | exact Pull.head | apply Pull.tail)) ?_ | refine Sel.drop ?_))
        · dsimp only
          refine ⟨by omega, ?_⟩
          rw [take_succ hx, List.mem_append, not_or, ← hb, g21]
          simp only [Bool.false_eq_true, false_and]
        · dsimp only
          omega
    ·
      have c17 := of_decide_eq_false c17
      rw [List.take_of_length_le (by omega)] at hb
      refine TT.exit ?_
      refine XT.seq ?_
      refine XT.loop ?_
      refine XT.here ?_
      refine KT.seq ?_
      refine TT.seq ?_
      refine TT.region ?_
      refine OT.pures hT 1 rfl ?_
      refine OT.nil ?_
      refine KT.seq ?_
      refine TT.cond rfl (fun c29 => ?_) (fun c29 => ?_)
      ·
        rw [if_neg (hb.1 c29)] at hp
        refine TT.seq ?_
        refine TT.region ?_
        refine OT.pures hT 3 rfl ?_
        refine OT.nil ?_
        refine KT.seq ?_
        refine TT.ret ?_
        refine RT.of (rs := [.tmp 2, .tmp 3]) [_, _] hs rfl (.tmp rfl (.tmp rfl .nil)) (by repeat (first | exact Sel.refl _ | refine Sel.empty ?_ | refine Sel.pull (by repeat (first | exact Pull.head | apply Pull.tail)) ?_ | refine Sel.drop ?_)) ?_
        dsimp only [one]
        rw [← hp]
        exact ⟨rfl, rfl⟩
      ·
        rw [if_pos (Decidable.byContradiction fun h => by rw [hb.2 h] at c29; cases c29)] at hp
        refine TT.skip ?_
        refine KT.blk ?_
        refine KT.seq ?_
        refine TT.region ?_
        refine OT.pures hT 3 rfl ?_
        refine OT.nil ?_
        refine KT.loop (k + 1) ?_ ?_ (SubR.cons rfl (SubR.cons rfl (SubR.cons' rfl (by (try dsimp only); exact (int_eq (by rw [wrap_i64 (by omega) (by omega)]; omega))) (SubR.nil _)))) (by repeat (first | exact Sel.refl _ | refine Sel.empty ?_ | refine Sel.pull (by repeat (first | exact Pull.head | apply Pull.tail)) ?_ | refine Sel.drop ?_))
        · refine ⟨by omega, ?_⟩
          rw [show 64 - (k + 1) = 63 - k by omega, show ((32 + (k + 1) : Nat) : Int) = ((32 + k : Nat) : Int) + 1 by omega]
          exact hp
        · omega
  ·
    have c11 := of_decide_eq_false c11
    rw [show 64 - k = 0 by omega, freeAt] at hp
    refine TT.exit ?_
    refine XT.seq ?_
    refine XT.loop ?_
    refine XT.here ?_
    refine KT.seq ?_
    refine TT.seq ?_
    refine TT.region ?_
    refine OT.pures hT 2 rfl ?_
    refine OT.nil ?_
    refine KT.seq ?_
    refine TT.ret ?_
    refine RT.of (rs := [.tmp 2, .tmp 3]) [_, _] hs rfl (.tmp rfl (.tmp rfl .nil)) (by repeat (first | exact Sel.refl _ | refine Sel.empty ?_ | refine Sel.pull (by repeat (first | exact Pull.head | apply Pull.tail)) ?_ | refine Sel.drop ?_)) ?_
    dsimp only [one]
    rw [← hp]
    exact ⟨rfl, rfl⟩

end Go.Proofs.Ytpijialhhdpobaa.Sx
