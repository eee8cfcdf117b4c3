/- CatNames: it answers true. Printed by a program of ours off the loaded program and our notes; Lean checks it. -/
import Derived.Test.YtpijialhhdpobaaPlM
import Derived.Test.YtpijialhhdpobaaSxT
import Derived.Test.YtpijialhhdpobaaSxK
import Derived.Test.YtpijialhhdpobaaCtM
import Derived.Test.YtpijialhhdpobaaSxU
namespace Go.Proofs.Ytpijialhhdpobaa.Sx
open Go Go.Sx Go.Pl
variable [Outer]

set_option maxHeartbeats 8000000 in
set_option maxRecDepth 100000 in
theorem law_CatNames {v0 v1 : Value} {us : List ByteArray} {bs : List Bool} {hs : List Chunk} (h0 : Row Go.Sx.encS 1 hs v0 us) (hul : us.length ≤ 9223372036854775807) (h1 : Row Go.Sx.encBool 1 hs v1 bs) (hbl : bs.length ≤ 9223372036854775807) : Fun Try.prog 5 [v0, v1] hs (fun v' hs' => v' = .bool true ∧ hs = hs') := by
  refine Fun.enter 178 Try.func5 rfl Try.ntmps5 rfl ?_
  obtain ⟨a0, c0, hv0⟩ := h0.len
  subst hv0
  obtain ⟨a1, c1, hv1⟩ := h1.len
  subst hv1
  refine TT.seq (.region (.pures hT 1 rfl (.nil (.seq (.seq (.region (.call Try.call9 rfl rfl rfl rfl (law20_begun) ?_)))))))
  rintro v_21 hs_21 ⟨rfl, rfl⟩
  refine OT.pures hT 1 rfl (.nil (.seq (.seq (.seq (.region (.pures hT 2 rfl (.nil (.seq (.cond rfl (fun c23 => ?_) (fun c23 => ?_))))))))))
  ·
    exact absurd c23 (by decide)
  ·
    refine TT.skip (.seq (.seq (.region (.alloc Try.zeroValue33 rfl rfl (fun b_6 => ?_)))))
    refine OT.nil (.seq (.seq (.region (.pures hT 1 rfl (.nil (.seq (.seq (.region (.pures hT 1 rfl (.nil (.seq (.seq (.seq (.region (.pures hT 1 rfl (.nil (.seq (.block (.chunk0 (.chunk0 (.loop (ι := Nat × (Option Addr) × Nat × (List Snap) × Chunk × (Option Addr) × Nat × Chunk × Nat) (fun j => (j.1) ≤ us.length ∧ (j.1) ≤ 30 ∧ (j.2.2.2.2.2.2.2.2) ≤ (j.1) ∧ (j.2.2.2.1).length ≤ 4 ∧ Shot (j.2.2.2.2.2.2.2.2) (j.2.2.2.1) ∧ Own encSnap 35 42 (.slice (j.2.1) (j.2.2.2.1).length (j.2.2.1)) (j.2.2.2.1) (j.2.2.2.2.1) ∧ Own Go.Sx.encS 1 9 (.slice (j.2.2.2.2.2.1) (names (j.2.2.2.1)).length (j.2.2.2.2.2.2.1)) (names (j.2.2.2.1)) (j.2.2.2.2.2.2.2.1)) (fun j => us.length - (j.1)) (fun j => [(0, .slice a0 us.length c0), (1, .slice a1 bs.length c1), (6, .pointer (some ⟨b_6, 0, none⟩)), (7, .slice (j.2.2.2.2.2.1) (names (j.2.2.2.1)).length (j.2.2.2.2.2.2.1)), (8, .int .i64 ((j.2.2.2.2.2.2.2.2) : Nat)), (9, .int .i64 ((j.1) : Nat))]) (fun j => [(b_6, blk [.int .i64 ((j.2.2.2.2.2.2.2.2) : Nat), .slice (j.2.1) (j.2.2.2.1).length (j.2.2.1)] 33 (0, 0))] :: (j.2.2.2.2.2.2.2.1) :: (j.2.2.2.2.1) :: hs) (0, none, 0, [], [], none, 0, [], 0) ?_ (SubR.cons rfl (SubR.cons rfl (SubR.cons rfl (SubR.cons rfl (SubR.cons rfl (SubR.cons rfl (SubR.nil _))))))) sl ?_)))))))))))))))))))))
    · dsimp only
      exact ⟨by omega, by omega, by omega, by simp, shot_nil, Own.nil, Own.nil⟩
    rintro ⟨i, a, c, L, K, aw, cw, W, nx⟩ hI
    dsimp only at hI
    obtain ⟨hi, hi30, hnx, hL4, hS, hO, hW⟩ := hI
    show TT _ _ _ [(0, .slice a0 us.length c0), (1, .slice a1 bs.length c1), (6, .pointer (some ⟨b_6, 0, none⟩)), (7, .slice aw (names L).length cw), (8, .int .i64 (nx : Nat)), (9, .int .i64 (i : Nat))] ([(b_6, blk [.int .i64 (nx : Nat), .slice a L.length c] 33 (0, 0))] :: W :: K :: hs)
    refine TT.seq (.seq (.region (.pures hT 5 rfl (.split 28 rfl (fun g28 => ?_) (fun g28 => ?_)))))
    ·
      have g28 := of_decide_eq_true g28
      refine OT.pures hT 3 rfl (.nil (.seq (.cond rfl (fun c31 => ?_) (fun c31 => ?_))))
      ·
        have c31 := of_decide_eq_true c31
        refine TT.skip (.seq (.seq (.block (.seq (.region (.pures hT 2 rfl ?_))))))
        obtain ⟨u, hu⟩ := nth (l := us) (i := i) (by omega)
        refine OT.index hT rfl rfl rfl rfl (by first | exact h0 | exact h0.there | exact h0.there.there | exact h0.there.there.there | exact h0.there.there.there.there | exact h0.there.there.there.there.there | exact h0.there.there.there.there.there.there | exact h0.there.there.there.there.there.there.there | exact h0.there.there.there.there.there.there.there.there) (by omega) hu rfl (fun ad_36 hel_36 => ?_)
        refine OT.load rfl rfl (hel_36.ld_one hT rfl rfl) rfl (.call Try.call11 rfl rfl rfl rfl (law1_Cut (n := 10)) ?_)
        rintro v_38 hs_38 ⟨rfl, rfl⟩
        generalize cutS u 10 = nm
        refine OT.pures hT 1 rfl (.nil (.seq (.seq (.region (.pures hT 1 rfl (.nil (.seq (.seq (.seq (.region (.pures hT 1 rfl (.nil (.seq (.block (.loop (ι := Nat) (fun j => (j) ≤ L.length) (fun j => L.length - (j)) (fun j => [(0, .slice a0 us.length c0), (1, .slice a1 bs.length c1), (6, .pointer (some ⟨b_6, 0, none⟩)), (7, .slice aw (names L).length cw), (8, .int .i64 (nx : Nat)), (9, .int .i64 (i : Nat)), (10, .string nm), (11, .int .i64 (findAt (named nm) 0 (L.take (j)))), (12, .int .i64 ((j) : Nat))]) (fun j => [(b_6, blk [.int .i64 (nx : Nat), .slice a L.length c] 33 (0, 0))] :: W :: K :: hs) (0) ?_ (SubR.cons rfl (SubR.cons rfl (SubR.cons rfl (SubR.cons rfl (SubR.cons rfl (SubR.cons rfl (SubR.cons rfl (SubR.cons' rfl (by (try dsimp only); exact (rfl)) (SubR.cons rfl (SubR.nil _)))))))))) sl ?_)))))))))))))))
        · omega
        rintro k hk
        show TT _ _ _ [(0, .slice a0 us.length c0), (1, .slice a1 bs.length c1), (6, .pointer (some ⟨b_6, 0, none⟩)), (7, .slice aw (names L).length cw), (8, .int .i64 (nx : Nat)), (9, .int .i64 (i : Nat)), (10, .string nm), (11, .int .i64 (findAt (named nm) 0 (L.take k))), (12, .int .i64 (k : Nat))] ([(b_6, blk [.int .i64 (nx : Nat), .slice a L.length c] 33 (0, 0))] :: W :: K :: hs)
        refine TT.seq (.seq (.region (.pures hT 4 rfl (.nil (.seq (.cond rfl (fun c42 => ?_) (fun c42 => ?_)))))))
        ·
          have c42 := of_decide_eq_true c42
          rw [names_length] at c42
          obtain ⟨x, hx⟩ := nth (l := names L) (i := k) (by rw [names_length]; omega)
          have hst := shot_step hS (by omega) (by omega) hL4 hx nm
          refine TT.skip (.seq (.seq (.block (.seq (.region (.pures hT 2 rfl (.index hT rfl rfl rfl rfl (by first | exact hW.row | exact hW.row.there | exact hW.row.there.there | exact hW.row.there.there.there | exact hW.row.there.there.there.there | exact hW.row.there.there.there.there.there | exact hW.row.there.there.there.there.there.there | exact hW.row.there.there.there.there.there.there.there | exact hW.row.there.there.there.there.there.there.there.there) (by omega) hx rfl (fun ad_47 hel_47 => ?_))))))))
          refine OT.load rfl rfl (hel_47.ld_one hT rfl rfl) rfl (.pures hT 2 rfl (.nil (.seq (.cond rfl (fun c50 => ?_) (fun c50 => ?_)))))
          ·
            have c50 := of_decide_eq_true c50
            refine TT.region (.pures hT 2 rfl (.nil (.blk (.seq (.region (.pures hT 3 rfl (.nil (.loop (k + 1) ?_ ?_ (SubR.cons rfl (SubR.cons rfl (SubR.cons rfl (SubR.cons rfl (SubR.cons rfl (SubR.cons rfl (SubR.cons rfl (SubR.cons' rfl (by (try dsimp only); exact (int_eq (by rw [hst, if_pos c50]))) (SubR.cons' rfl (by (try dsimp only); exact (int_eq (by rw [wrap_i64 (by omega) (by omega)]; omega))) (SubR.nil _)))))))))) sl))))))))
            · omega
            · omega
          ·
            have c50 := of_decide_eq_false c50
            refine TT.skip (.blk (.seq (.region (.pures hT 3 rfl (.nil (.loop (k + 1) ?_ ?_ (SubR.cons rfl (SubR.cons rfl (SubR.cons rfl (SubR.cons rfl (SubR.cons rfl (SubR.cons rfl (SubR.cons rfl (SubR.cons' rfl (by (try dsimp only); exact (int_eq (by rw [hst, if_neg c50]))) (SubR.cons' rfl (by (try dsimp only); exact (int_eq (by rw [wrap_i64 (by omega) (by omega)]; omega))) (SubR.nil _)))))))))) sl))))))
            · omega
            · omega
        ·
          have c42 := of_decide_eq_false c42
          rw [names_length] at c42
          obtain rfl : k = L.length := by omega
          have hnl := names_length L
          have hlt := (findAt_lt (named nm) L 0).1
          refine TT.exit (.seq (.loop (.here (.seq (.seq (.region (.reg 11 rfl (v := .int .i64 (findAt (named nm) 0 L)) (int_eq (by rw [List.take_length])) (.load rfl rfl (Ld.struct_all hT rfl hz rfl) rfl ?_))))))))
          refine OT.call Try.call25 rfl rfl rfl rfl (law20_Back) ?_
          rintro v_53 hs_53 ⟨rfl, rfl⟩
          refine OT.alloc Try.zeroValue24 rfl rfl (fun b_13 => ?_)
          refine OT.store_all hT rfl rfl rfl rfl pl rfl rfl rfl (.inl (Nat.le_refl _)) ?_
          refine OT.nil (.seq (.seq (.region (.pures hT 1 rfl (.load rfl rfl (Ld.slc hT rfl hz rfl) rfl ?_)))))
          refine OT.chunk0 ?_
          refine OT.append hT el22 rfl rfl rfl rfl pl Own.nil (by first | exact hO.row | exact hO.row.there | exact hO.row.there.there | exact hO.row.there.there.there | exact hO.row.there.there.there.there | exact hO.row.there.there.there.there.there | exact hO.row.there.there.there.there.there.there | exact hO.row.there.there.there.there.there.there.there | exact hO.row.there.there.there.there.there.there.there.there) (ones_snaps _) (by simp only [List.length_nil]; omega) rfl (fun v_56 H_56 ho_56 => ?_)
          rw [List.nil_append] at ho_56
          obtain ⟨a56, ca56, hv56⟩ := (ho_56.row (hs := hs)).len
          subst hv56
          refine OT.pures hT 1 rfl (.store hT rfl rfl rfl rfl pl rfl (Nat.le_of_ble_eq_true rfl) rfl (.inl (Nat.le_refl _)) (cs' := [.int .i64 (nx : Nat), .slice a56 L.length ca56]) rfl ?_)
          refine OT.nil (.seq (.cut (ι := (Option Addr) × Nat × (List Snap) × Chunk × (Option Addr) × Nat × Chunk × Nat) (fun j => (j.2.2.2.2.2.2.2) ≤ i + 1 ∧ (j.2.2.1).length ≤ 4 ∧ Shot (j.2.2.2.2.2.2.2) (j.2.2.1) ∧ Own encSnap 35 42 (.slice (j.1) (j.2.2.1).length (j.2.1)) (j.2.2.1) (j.2.2.2.1) ∧ Own Go.Sx.encS 1 9 (.slice (j.2.2.2.2.1) (names (j.2.2.1)).length (j.2.2.2.2.2.1)) (names (j.2.2.1)) (j.2.2.2.2.2.2.1)) (fun j => [(0, .slice a0 us.length c0), (1, .slice a1 bs.length c1), (6, .pointer (some ⟨b_6, 0, none⟩)), (7, .slice (j.2.2.2.2.1) (names (j.2.2.1)).length (j.2.2.2.2.2.1)), (8, .int .i64 ((j.2.2.2.2.2.2.2) : Nat)), (9, .int .i64 (i : Nat))]) (fun j => [(b_6, blk [.int .i64 ((j.2.2.2.2.2.2.2) : Nat), .slice (j.1) (j.2.2.1).length (j.2.1)] 33 (0, 0))] :: (j.2.2.2.2.2.2.1) :: (j.2.2.2.1) :: hs) ?_ ?_))
          ·
            refine TT.seq (.region (.pures hT 5 rfl (.split 62 rfl (fun g62 => ?_) (fun g62 => ?_))))
            ·
              have g62 := of_decide_eq_true g62
              refine OT.pures hT 2 rfl ?_
              obtain ⟨bb, hbb⟩ := nth (l := bs) (i := i) (by omega)
              refine OT.index hT rfl rfl rfl rfl (by first | exact h1 | exact h1.there | exact h1.there.there | exact h1.there.there.there | exact h1.there.there.there.there | exact h1.there.there.there.there.there | exact h1.there.there.there.there.there.there | exact h1.there.there.there.there.there.there.there | exact h1.there.there.there.there.there.there.there.there) (by omega) hbb rfl (fun ad_65 hel_65 => ?_)
              refine OT.load rfl rfl (hel_65.ld_one hT rfl rfl) rfl (.pures hT 1 rfl (.nil (.seq (.cond rfl (fun c67 => ?_) (fun c67 => ?_)))))
              ·
                refine TT.seq (.region (.load rfl rfl (Ld.struct_all hT rfl hz rfl) rfl ?_))
                refine OT.pures hT 1 rfl (.call Try.call30 rfl rfl rfl rfl (cat_Drop (by first | exact hO.row | exact hO.row.there | exact hO.row.there.there | exact hO.row.there.there.there | exact hO.row.there.there.there.there | exact hO.row.there.there.there.there.there | exact hO.row.there.there.there.there.there.there | exact hO.row.there.there.there.there.there.there.there | exact hO.row.there.there.there.there.there.there.there.there) (by omega)) ?_)
                rintro v_71 hs_71 ⟨w71, H71, rfl, rfl, ho71⟩
                obtain ⟨a71, ca71, hv71⟩ := (ho71.row (hs := hs)).len
                subst hv71
                refine OT.pures hT 3 rfl (.alloc Try.zeroValue33 rfl rfl (fun b_14 => ?_))
                refine OT.store_all hT rfl rfl rfl rfl pl rfl rfl rfl (.inl (Nat.le_refl _)) ?_
                refine OT.pures hT 1 rfl (.nil (.seq (.seq (.region (.pures hT 1 rfl (.nil (.seq (.seq (.seq (.region (.pures hT 2 rfl (.nil (.seq (.cond rfl (fun c75 => ?_) (fun c75 => ?_)))))))))))))))
                ·
                  have c75 := of_decide_eq_true c75
                  obtain ⟨j, hj⟩ : ∃ j : Nat, findAt (named nm) 0 L = j := ⟨_, (Int.toNat_of_nonneg c75).symm⟩
                  have hdr : dropC (nx : Int) L nm = ((((nx : Nat) : Int), L.take j ++ L.drop (j + 1)), 0) := by unfold dropC; rw [if_neg (by omega), hj, Int.toNat_natCast]
                  rw [hdr] at ho71 ⊢
                  dsimp only at ho71 ⊢
                  rw [hj] at hlt ⊢
                  have hjl : j < L.length := by omega
                  have hdl : (L.take j ++ L.drop (j + 1)).length = L.length - 1 := by rw [List.length_append, List.length_take, List.length_drop]; omega
                  refine TT.seq (.region (.pures hT 1 rfl (.nil (.seq (.draw (hs) mixed (.takes (fuel := 5) hT [0, 1, 4, 5, 6] kr kr rfl (.all (fuel := 4) [2, 7] kr (by decide) sl ?_)))))))
                  intro i hi
                  simp only [List.mem_cons, List.not_mem_nil, or_false] at hi
                  rcases hi with rfl | rfl
                  ·
                    refine ⟨_, rfl, ?_⟩
                    refine OT.slice 0 j hT rfl rfl rfl rfl rfl (by first | exact hW.row | exact hW.row.there | exact hW.row.there.there | exact hW.row.there.there.there | exact hW.row.there.there.there.there | exact hW.row.there.there.there.there.there | exact hW.row.there.there.there.there.there.there | exact hW.row.there.there.there.there.there.there.there | exact hW.row.there.there.there.there.there.there.there.there) (.inl ⟨rfl, rfl⟩) (.inr ⟨_, rfl⟩) (by omega) (by omega) rfl (fun v_78 hv_78 => ?_)
                    refine OT.nil (.any (.all (fuel := 3) [3, 7] kr (by decide) sl ?_))
                    intro i hi
                    simp only [List.mem_cons, List.not_mem_nil, or_false] at hi
                    rcases hi with rfl | rfl
                    ·
                      refine ⟨_, rfl, ?_⟩
                      refine OT.chunk0 ?_
                      refine OT.append hT el57 rfl rfl rfl rfl pl Own.nil (by first | exact hv_78 | exact hv_78.there | exact hv_78.there.there | exact hv_78.there.there.there | exact hv_78.there.there.there.there | exact hv_78.there.there.there.there.there | exact hv_78.there.there.there.there.there.there | exact hv_78.there.there.there.there.there.there.there | exact hv_78.there.there.there.there.there.there.there.there) (ones_S _) (by simp only [List.length_nil, List.length_drop, List.length_take]; omega) rfl (fun v_79 H_79 ho_79 => ?_)
                      refine OT.nil (.any (.op (fuel := 2) 7 kr rfl sl (.reg 82 rfl (v := .int .i64 ((j + 1 : Nat) : Int)) (int_eq (by rw [wrap_i64 (by omega) (by omega)]; omega)) (.slice (j + 1) (names L).length hT rfl rfl rfl rfl rfl (by first | exact hW.row | exact hW.row.there | exact hW.row.there.there | exact hW.row.there.there.there | exact hW.row.there.there.there.there | exact hW.row.there.there.there.there.there | exact hW.row.there.there.there.there.there.there | exact hW.row.there.there.there.there.there.there.there | exact hW.row.there.there.there.there.there.there.there.there) (.inr ⟨_, rfl⟩) (.inl ⟨rfl, rfl⟩) (by omega) (by omega) rfl (fun v_83 hv_83 => ?_)))))
                      refine OT.nil (.any (.op (fuel := 1) 8 kr rfl sl ?_))
                      refine OT.append hT el57 rfl rfl rfl rfl pl ho_79 (by first | exact hv_83 | exact hv_83.there | exact hv_83.there.there | exact hv_83.there.there.there | exact hv_83.there.there.there.there | exact hv_83.there.there.there.there.there | exact hv_83.there.there.there.there.there.there | exact hv_83.there.there.there.there.there.there.there | exact hv_83.there.there.there.there.there.there.there.there) (ones_S _) (by simp only [List.length_append, List.length_nil, List.length_drop, List.length_take]; omega) rfl (fun v_84 H_84 ho_84 => ?_)
                      refine OT.nil (.any (.takes (fuel := 0) hT [9] kr kr rfl (.done kr sl (.seq (.seq (.seq (.draw ([(b_13, blk [.int .i64 (nx : Nat), .slice a56 L.length ca56] 24 (0, 0))] :: H_56 :: K :: hs) mixed (.takes (fuel := 6) hT [0, 1, 2, 3] kr kr rfl (.split 88 rfl (fun g88 => ?_) (fun g88 => ?_))))))))))
                      ·
                        exact absurd g88 (by decide)
                      ·
                        refine AT.take (fuel := 5) hT 6 rfl rfl kr kr kr rfl (.load rfl (Ld.struct_all hT rfl hz rfl)) rfl ?_
                        refine AT.op (fuel := 4) 4 kr rfl sl (.load rfl rfl (Ld.struct_all hT rfl hz rfl) rfl ?_)
                        refine OT.nil (.any (.op (fuel := 3) 5 kr rfl sl (.call Try.call25 rfl rfl rfl rfl (law20_Back) ?_)))
                        rintro v_90 hs_90 ⟨rfl, rfl⟩
                        refine OT.nil (.any (.op (fuel := 2) 7 kr rfl sl (.call Try.call24 rfl rfl rfl rfl (ref_EqCat (by first | exact hO.row | exact hO.row.there | exact hO.row.there.there | exact hO.row.there.there.there | exact hO.row.there.there.there.there | exact hO.row.there.there.there.there.there | exact hO.row.there.there.there.there.there.there | exact hO.row.there.there.there.there.there.there.there | exact hO.row.there.there.there.there.there.there.there.there) (by first | exact ho_56.row | exact ho_56.row.there | exact ho_56.row.there.there | exact ho_56.row.there.there.there | exact ho_56.row.there.there.there.there | exact ho_56.row.there.there.there.there.there | exact ho_56.row.there.there.there.there.there.there | exact ho_56.row.there.there.there.there.there.there.there | exact ho_56.row.there.there.there.there.there.there.there.there) (by omega)) ?_)))
                        rintro v_92 hs_92 ⟨rfl, rfl⟩
                        rw [eqCat_refl]
                        refine OT.nil (.any (.takes (fuel := 0) hT [8, 9] kr kr rfl (.done kr sl (.seq (.cond rfl (fun c94 => ?_) (fun c94 => ?_))))))
                        ·
                          exact absurd c94 (by decide)
                        ·
                          refine TT.skip (.seq (.seq (.region (.pures hT 2 rfl (.nil (.seq (.cond rfl (fun c96 => ?_) (fun c96 => ?_))))))))
                          ·
                            refine TT.region (.load rfl rfl (Ld.struct_all hT rfl hz rfl) rfl ?_)
                            refine OT.store_all hT rfl rfl rfl rfl pl rfl rfl rfl (.inl (Nat.le_refl _)) ?_
                            refine OT.nil ?_
                            rw [List.nil_append, List.drop_zero, List.take_length, names_cut] at ho_84
                            obtain ⟨a84, ca84, hv84⟩ := (ho_84.row (hs := hs)).len
                            subst hv84
                            refine KT.cut (a71, ca71, L.take j ++ L.drop (j + 1), H71, a84, ca84, H_84, nx) ?_ (SubR.cons rfl (SubR.cons rfl (SubR.cons rfl (SubR.cons rfl (SubR.cons rfl (SubR.cons rfl (SubR.nil _))))))) sl
                            · dsimp only
                              exact ⟨by omega, by omega, shot_drop hS j, ho71, ho_84⟩
                          ·
                            exact absurd c96 (by decide)
                    ·
                      refine ⟨_, rfl, ?_⟩
                      refine OT.reg 82 rfl (v := .int .i64 ((j + 1 : Nat) : Int)) (int_eq (by rw [wrap_i64 (by omega) (by omega)]; omega)) (.slice (j + 1) (names L).length hT rfl rfl rfl rfl rfl (by first | exact hW.row | exact hW.row.there | exact hW.row.there.there | exact hW.row.there.there.there | exact hW.row.there.there.there.there | exact hW.row.there.there.there.there.there | exact hW.row.there.there.there.there.there.there | exact hW.row.there.there.there.there.there.there.there | exact hW.row.there.there.there.there.there.there.there.there) (.inr ⟨_, rfl⟩) (.inl ⟨rfl, rfl⟩) (by omega) (by omega) rfl (fun v_83 hv_83 => ?_))
                      refine OT.nil (.any (.op (fuel := 2) 3 kr rfl sl (.chunk0 ?_)))
                      refine OT.append hT el57 rfl rfl rfl rfl pl Own.nil (by first | exact hv_78 | exact hv_78.there | exact hv_78.there.there | exact hv_78.there.there.there | exact hv_78.there.there.there.there | exact hv_78.there.there.there.there.there | exact hv_78.there.there.there.there.there.there | exact hv_78.there.there.there.there.there.there.there | exact hv_78.there.there.there.there.there.there.there.there) (ones_S _) (by simp only [List.length_nil, List.length_drop, List.length_take]; omega) rfl (fun v_79 H_79 ho_79 => ?_)
                      refine OT.nil (.any (.op (fuel := 1) 8 kr rfl sl ?_))
                      refine OT.append hT el57 rfl rfl rfl rfl pl ho_79 (by first | exact hv_83 | exact hv_83.there | exact hv_83.there.there | exact hv_83.there.there.there | exact hv_83.there.there.there.there | exact hv_83.there.there.there.there.there | exact hv_83.there.there.there.there.there.there | exact hv_83.there.there.there.there.there.there.there | exact hv_83.there.there.there.there.there.there.there.there) (ones_S _) (by simp only [List.length_append, List.length_nil, List.length_drop, List.length_take]; omega) rfl (fun v_84 H_84 ho_84 => ?_)
                      refine OT.nil (.any (.takes (fuel := 0) hT [9] kr kr rfl (.done kr sl (.seq (.seq (.seq (.draw ([(b_13, blk [.int .i64 (nx : Nat), .slice a56 L.length ca56] 24 (0, 0))] :: H_56 :: K :: hs) mixed (.takes (fuel := 6) hT [0, 1, 2, 3] kr kr rfl (.split 88 rfl (fun g88 => ?_) (fun g88 => ?_))))))))))
                      ·
                        exact absurd g88 (by decide)
                      ·
                        refine AT.take (fuel := 5) hT 6 rfl rfl kr kr kr rfl (.load rfl (Ld.struct_all hT rfl hz rfl)) rfl ?_
                        refine AT.op (fuel := 4) 4 kr rfl sl (.load rfl rfl (Ld.struct_all hT rfl hz rfl) rfl ?_)
                        refine OT.nil (.any (.op (fuel := 3) 5 kr rfl sl (.call Try.call25 rfl rfl rfl rfl (law20_Back) ?_)))
                        rintro v_90 hs_90 ⟨rfl, rfl⟩
                        refine OT.nil (.any (.op (fuel := 2) 7 kr rfl sl (.call Try.call24 rfl rfl rfl rfl (ref_EqCat (by first | exact hO.row | exact hO.row.there | exact hO.row.there.there | exact hO.row.there.there.there | exact hO.row.there.there.there.there | exact hO.row.there.there.there.there.there | exact hO.row.there.there.there.there.there.there | exact hO.row.there.there.there.there.there.there.there | exact hO.row.there.there.there.there.there.there.there.there) (by first | exact ho_56.row | exact ho_56.row.there | exact ho_56.row.there.there | exact ho_56.row.there.there.there | exact ho_56.row.there.there.there.there | exact ho_56.row.there.there.there.there.there | exact ho_56.row.there.there.there.there.there.there | exact ho_56.row.there.there.there.there.there.there.there | exact ho_56.row.there.there.there.there.there.there.there.there) (by omega)) ?_)))
                        rintro v_92 hs_92 ⟨rfl, rfl⟩
                        rw [eqCat_refl]
                        refine OT.nil (.any (.takes (fuel := 0) hT [8, 9] kr kr rfl (.done kr sl (.seq (.cond rfl (fun c94 => ?_) (fun c94 => ?_))))))
                        ·
                          exact absurd c94 (by decide)
                        ·
                          refine TT.skip (.seq (.seq (.region (.pures hT 2 rfl (.nil (.seq (.cond rfl (fun c96 => ?_) (fun c96 => ?_))))))))
                          ·
                            refine TT.region (.load rfl rfl (Ld.struct_all hT rfl hz rfl) rfl ?_)
                            refine OT.store_all hT rfl rfl rfl rfl pl rfl rfl rfl (.inl (Nat.le_refl _)) ?_
                            refine OT.nil ?_
                            rw [List.nil_append, List.drop_zero, List.take_length, names_cut] at ho_84
                            obtain ⟨a84, ca84, hv84⟩ := (ho_84.row (hs := hs)).len
                            subst hv84
                            refine KT.cut (a71, ca71, L.take j ++ L.drop (j + 1), H71, a84, ca84, H_84, nx) ?_ (SubR.cons rfl (SubR.cons rfl (SubR.cons rfl (SubR.cons rfl (SubR.cons rfl (SubR.cons rfl (SubR.nil _))))))) sl
                            · dsimp only
                              exact ⟨by omega, by omega, shot_drop hS j, ho71, ho_84⟩
                          ·
                            exact absurd c96 (by decide)
                  ·
                    refine ⟨_, rfl, ?_⟩
                    refine OT.reg 82 rfl (v := .int .i64 ((j + 1 : Nat) : Int)) (int_eq (by rw [wrap_i64 (by omega) (by omega)]; omega)) (.slice (j + 1) (names L).length hT rfl rfl rfl rfl rfl (by first | exact hW.row | exact hW.row.there | exact hW.row.there.there | exact hW.row.there.there.there | exact hW.row.there.there.there.there | exact hW.row.there.there.there.there.there | exact hW.row.there.there.there.there.there.there | exact hW.row.there.there.there.there.there.there.there | exact hW.row.there.there.there.there.there.there.there.there) (.inr ⟨_, rfl⟩) (.inl ⟨rfl, rfl⟩) (by omega) (by omega) rfl (fun v_83 hv_83 => ?_))
                    refine OT.nil (.any (.op (fuel := 3) 2 kr rfl sl (.slice 0 j hT rfl rfl rfl rfl rfl (by first | exact hW.row | exact hW.row.there | exact hW.row.there.there | exact hW.row.there.there.there | exact hW.row.there.there.there.there | exact hW.row.there.there.there.there.there | exact hW.row.there.there.there.there.there.there | exact hW.row.there.there.there.there.there.there.there | exact hW.row.there.there.there.there.there.there.there.there) (.inl ⟨rfl, rfl⟩) (.inr ⟨_, rfl⟩) (by omega) (by omega) rfl (fun v_78 hv_78 => ?_))))
                    refine OT.nil (.any (.op (fuel := 2) 3 kr rfl sl (.chunk0 ?_)))
                    refine OT.append hT el57 rfl rfl rfl rfl pl Own.nil (by first | exact hv_78 | exact hv_78.there | exact hv_78.there.there | exact hv_78.there.there.there | exact hv_78.there.there.there.there | exact hv_78.there.there.there.there.there | exact hv_78.there.there.there.there.there.there | exact hv_78.there.there.there.there.there.there.there | exact hv_78.there.there.there.there.there.there.there.there) (ones_S _) (by simp only [List.length_nil, List.length_drop, List.length_take]; omega) rfl (fun v_79 H_79 ho_79 => ?_)
                    refine OT.nil (.any (.op (fuel := 1) 8 kr rfl sl ?_))
                    refine OT.append hT el57 rfl rfl rfl rfl pl ho_79 (by first | exact hv_83 | exact hv_83.there | exact hv_83.there.there | exact hv_83.there.there.there | exact hv_83.there.there.there.there | exact hv_83.there.there.there.there.there | exact hv_83.there.there.there.there.there.there | exact hv_83.there.there.there.there.there.there.there | exact hv_83.there.there.there.there.there.there.there.there) (ones_S _) (by simp only [List.length_append, List.length_nil, List.length_drop, List.length_take]; omega) rfl (fun v_84 H_84 ho_84 => ?_)
                    refine OT.nil (.any (.takes (fuel := 0) hT [9] kr kr rfl (.done kr sl (.seq (.seq (.seq (.draw ([(b_13, blk [.int .i64 (nx : Nat), .slice a56 L.length ca56] 24 (0, 0))] :: H_56 :: K :: hs) mixed (.takes (fuel := 6) hT [0, 1, 2, 3] kr kr rfl (.split 88 rfl (fun g88 => ?_) (fun g88 => ?_))))))))))
                    ·
                      exact absurd g88 (by decide)
                    ·
                      refine AT.take (fuel := 5) hT 6 rfl rfl kr kr kr rfl (.load rfl (Ld.struct_all hT rfl hz rfl)) rfl ?_
                      refine AT.op (fuel := 4) 4 kr rfl sl (.load rfl rfl (Ld.struct_all hT rfl hz rfl) rfl ?_)
                      refine OT.nil (.any (.op (fuel := 3) 5 kr rfl sl (.call Try.call25 rfl rfl rfl rfl (law20_Back) ?_)))
                      rintro v_90 hs_90 ⟨rfl, rfl⟩
                      refine OT.nil (.any (.op (fuel := 2) 7 kr rfl sl (.call Try.call24 rfl rfl rfl rfl (ref_EqCat (by first | exact hO.row | exact hO.row.there | exact hO.row.there.there | exact hO.row.there.there.there | exact hO.row.there.there.there.there | exact hO.row.there.there.there.there.there | exact hO.row.there.there.there.there.there.there | exact hO.row.there.there.there.there.there.there.there | exact hO.row.there.there.there.there.there.there.there.there) (by first | exact ho_56.row | exact ho_56.row.there | exact ho_56.row.there.there | exact ho_56.row.there.there.there | exact ho_56.row.there.there.there.there | exact ho_56.row.there.there.there.there.there | exact ho_56.row.there.there.there.there.there.there | exact ho_56.row.there.there.there.there.there.there.there | exact ho_56.row.there.there.there.there.there.there.there.there) (by omega)) ?_)))
                      rintro v_92 hs_92 ⟨rfl, rfl⟩
                      rw [eqCat_refl]
                      refine OT.nil (.any (.takes (fuel := 0) hT [8, 9] kr kr rfl (.done kr sl (.seq (.cond rfl (fun c94 => ?_) (fun c94 => ?_))))))
                      ·
                        exact absurd c94 (by decide)
                      ·
                        refine TT.skip (.seq (.seq (.region (.pures hT 2 rfl (.nil (.seq (.cond rfl (fun c96 => ?_) (fun c96 => ?_))))))))
                        ·
                          refine TT.region (.load rfl rfl (Ld.struct_all hT rfl hz rfl) rfl ?_)
                          refine OT.store_all hT rfl rfl rfl rfl pl rfl rfl rfl (.inl (Nat.le_refl _)) ?_
                          refine OT.nil ?_
                          rw [List.nil_append, List.drop_zero, List.take_length, names_cut] at ho_84
                          obtain ⟨a84, ca84, hv84⟩ := (ho_84.row (hs := hs)).len
                          subst hv84
                          refine KT.cut (a71, ca71, L.take j ++ L.drop (j + 1), H71, a84, ca84, H_84, nx) ?_ (SubR.cons rfl (SubR.cons rfl (SubR.cons rfl (SubR.cons rfl (SubR.cons rfl (SubR.cons rfl (SubR.nil _))))))) sl
                          · dsimp only
                            exact ⟨by omega, by omega, shot_drop hS j, ho71, ho_84⟩
                        ·
                          exact absurd c96 (by decide)
                ·
                  have c75 := of_decide_eq_false c75
                  have hdr : dropC (nx : Int) L nm = ((0, []), 6) := by unfold dropC; rw [if_pos (by omega)]
                  rw [hdr] at ho71 ⊢
                  dsimp only at ho71 ⊢
                  refine TT.skip (.seq (.seq (.seq (.draw ([(b_13, blk [.int .i64 (nx : Nat), .slice a56 L.length ca56] 24 (0, 0))] :: H_56 :: K :: hs) mixed (.takes (fuel := 6) hT [0, 1, 2, 3] kr kr rfl (.split 88 rfl (fun g88 => ?_) (fun g88 => ?_)))))))
                  ·
                    exact absurd g88 (by decide)
                  ·
                    refine AT.take (fuel := 5) hT 6 rfl rfl kr kr kr rfl (.load rfl (Ld.struct_all hT rfl hz rfl)) rfl ?_
                    refine AT.op (fuel := 4) 4 kr rfl sl (.load rfl rfl (Ld.struct_all hT rfl hz rfl) rfl ?_)
                    refine OT.nil (.any (.op (fuel := 3) 5 kr rfl sl (.call Try.call25 rfl rfl rfl rfl (law20_Back) ?_)))
                    rintro v_90 hs_90 ⟨rfl, rfl⟩
                    refine OT.nil (.any (.op (fuel := 2) 7 kr rfl sl (.call Try.call24 rfl rfl rfl rfl (ref_EqCat (by first | exact hO.row | exact hO.row.there | exact hO.row.there.there | exact hO.row.there.there.there | exact hO.row.there.there.there.there | exact hO.row.there.there.there.there.there | exact hO.row.there.there.there.there.there.there | exact hO.row.there.there.there.there.there.there.there | exact hO.row.there.there.there.there.there.there.there.there) (by first | exact ho_56.row | exact ho_56.row.there | exact ho_56.row.there.there | exact ho_56.row.there.there.there | exact ho_56.row.there.there.there.there | exact ho_56.row.there.there.there.there.there | exact ho_56.row.there.there.there.there.there.there | exact ho_56.row.there.there.there.there.there.there.there | exact ho_56.row.there.there.there.there.there.there.there.there) (by omega)) ?_)))
                    rintro v_92 hs_92 ⟨rfl, rfl⟩
                    rw [eqCat_refl]
                    refine OT.nil (.any (.takes (fuel := 0) hT [8, 9] kr kr rfl (.done kr sl (.seq (.cond rfl (fun c94 => ?_) (fun c94 => ?_))))))
                    ·
                      exact absurd c94 (by decide)
                    ·
                      refine TT.skip (.seq (.seq (.region (.pures hT 2 rfl (.nil (.seq (.cond rfl (fun c96 => ?_) (fun c96 => ?_))))))))
                      ·
                        exact absurd c96 (by decide)
                      ·
                        refine TT.skip (.cut (a, c, L, K, aw, cw, W, nx) ?_ (SubR.cons rfl (SubR.cons rfl (SubR.cons rfl (SubR.cons rfl (SubR.cons rfl (SubR.cons rfl (SubR.nil _))))))) sl)
                        · dsimp only
                          exact ⟨by omega, hL4, hS, hO, hW⟩
              ·
                refine TT.seq (.region (.load rfl rfl (Ld.struct_all hT rfl hz rfl) rfl ?_))
                refine OT.pures hT 1 rfl (.call Try.call31 rfl rfl rfl rfl (cat_Add (by first | exact hO.row | exact hO.row.there | exact hO.row.there.there | exact hO.row.there.there.there | exact hO.row.there.there.there.there | exact hO.row.there.there.there.there.there | exact hO.row.there.there.there.there.there.there | exact hO.row.there.there.there.there.there.there.there | exact hO.row.there.there.there.there.there.there.there.there) (by omega) (by omega)) ?_)
                rintro v_101 hs_101 ⟨w101, H101, rfl, rfl, ho101⟩
                obtain ⟨a101, ca101, hv101⟩ := (ho101.row (hs := hs)).len
                subst hv101
                refine OT.pures hT 3 rfl (.alloc Try.zeroValue33 rfl rfl (fun b_17 => ?_))
                refine OT.store_all hT rfl rfl rfl rfl pl rfl rfl rfl (.inl (Nat.le_refl _)) ?_
                refine OT.pures hT 1 rfl (.nil (.seq (.seq (.region (.pures hT 1 rfl (.nil (.seq (.seq (.block (.seq (.region (.pures hT 1 rfl (.call Try.call18 rfl rfl rfl rfl (ref_Name) ?_)))))))))))))
                rintro v_106 hs_106 ⟨rfl, rfl⟩
                refine OT.pures hT 2 rfl (.nil (.seq (.cond rfl (fun c104 => ?_) (fun c104 => ?_))))
                ·
                  have c104 : nameB nm = false := by simpa using c104
                  have hadd : addC (nx : Int) L nm = ((0, []), 1) := by unfold addC; rw [if_pos c104]
                  rw [hadd] at ho101 ⊢
                  dsimp only at ho101 ⊢
                  clear hadd
                  refine TT.region (.pures hT 1 rfl (.nil (.blk (.seq (.seq (.seq (.draw ([(b_13, blk [.int .i64 (nx : Nat), .slice a56 L.length ca56] 24 (0, 0))] :: H_56 :: K :: hs) mixed (.takes (fuel := 6) hT [0, 1, 2, 3] kr kr rfl (.split 118 rfl (fun g118 => ?_) (fun g118 => ?_))))))))))
                  ·
                    exact absurd g118 (by decide)
                  ·
                    refine AT.take (fuel := 5) hT 6 rfl rfl kr kr kr rfl (.load rfl (Ld.struct_all hT rfl hz rfl)) rfl ?_
                    refine AT.op (fuel := 4) 4 kr rfl sl (.load rfl rfl (Ld.struct_all hT rfl hz rfl) rfl ?_)
                    refine OT.nil (.any (.op (fuel := 3) 5 kr rfl sl (.call Try.call25 rfl rfl rfl rfl (law20_Back) ?_)))
                    rintro v_120 hs_120 ⟨rfl, rfl⟩
                    refine OT.nil (.any (.op (fuel := 2) 7 kr rfl sl (.call Try.call24 rfl rfl rfl rfl (ref_EqCat (by first | exact hO.row | exact hO.row.there | exact hO.row.there.there | exact hO.row.there.there.there | exact hO.row.there.there.there.there | exact hO.row.there.there.there.there.there | exact hO.row.there.there.there.there.there.there | exact hO.row.there.there.there.there.there.there.there | exact hO.row.there.there.there.there.there.there.there.there) (by first | exact ho_56.row | exact ho_56.row.there | exact ho_56.row.there.there | exact ho_56.row.there.there.there | exact ho_56.row.there.there.there.there | exact ho_56.row.there.there.there.there.there | exact ho_56.row.there.there.there.there.there.there | exact ho_56.row.there.there.there.there.there.there.there | exact ho_56.row.there.there.there.there.there.there.there.there) (by omega)) ?_)))
                    rintro v_122 hs_122 ⟨rfl, rfl⟩
                    rw [eqCat_refl]
                    refine OT.nil (.any (.takes (fuel := 0) hT [8, 9] kr kr rfl (.done kr sl (.seq (.cond rfl (fun c124 => ?_) (fun c124 => ?_))))))
                    ·
                      exact absurd c124 (by decide)
                    ·
                      refine TT.skip (.seq (.seq (.region (.pures hT 2 rfl (.nil (.seq (.cond rfl (fun c126 => ?_) (fun c126 => ?_))))))))
                      ·
                        exact absurd c126 (by decide)
                      ·
                        refine TT.skip (.cut (a, c, L, K, aw, cw, W, nx) ?_ (SubR.cons rfl (SubR.cons rfl (SubR.cons rfl (SubR.cons rfl (SubR.cons rfl (SubR.cons rfl (SubR.nil _))))))) sl)
                        · dsimp only
                          exact ⟨by omega, hL4, hS, hO, hW⟩
                ·
                  have c104 : nameB nm = true := by simpa using c104
                  have c104' : ¬ nameB nm = false := by rw [c104]; decide
                  refine TT.seq (.region (.pures hT 3 rfl (.nil (.seq (.cond rfl (fun c108 => ?_) (fun c108 => ?_))))))
                  ·
                    have c108 := of_decide_eq_true c108
                    have hadd : addC (nx : Int) L nm = ((0, []), 7) := by unfold addC; rw [if_neg c104', if_pos c108]
                    rw [hadd] at ho101 ⊢
                    dsimp only at ho101 ⊢
                    clear hadd
                    refine TT.region (.pures hT 1 rfl (.nil (.blk (.seq (.seq (.seq (.draw ([(b_13, blk [.int .i64 (nx : Nat), .slice a56 L.length ca56] 24 (0, 0))] :: H_56 :: K :: hs) mixed (.takes (fuel := 6) hT [0, 1, 2, 3] kr kr rfl (.split 118 rfl (fun g118 => ?_) (fun g118 => ?_))))))))))
                    ·
                      exact absurd g118 (by decide)
                    ·
                      refine AT.take (fuel := 5) hT 6 rfl rfl kr kr kr rfl (.load rfl (Ld.struct_all hT rfl hz rfl)) rfl ?_
                      refine AT.op (fuel := 4) 4 kr rfl sl (.load rfl rfl (Ld.struct_all hT rfl hz rfl) rfl ?_)
                      refine OT.nil (.any (.op (fuel := 3) 5 kr rfl sl (.call Try.call25 rfl rfl rfl rfl (law20_Back) ?_)))
                      rintro v_120 hs_120 ⟨rfl, rfl⟩
                      refine OT.nil (.any (.op (fuel := 2) 7 kr rfl sl (.call Try.call24 rfl rfl rfl rfl (ref_EqCat (by first | exact hO.row | exact hO.row.there | exact hO.row.there.there | exact hO.row.there.there.there | exact hO.row.there.there.there.there | exact hO.row.there.there.there.there.there | exact hO.row.there.there.there.there.there.there | exact hO.row.there.there.there.there.there.there.there | exact hO.row.there.there.there.there.there.there.there.there) (by first | exact ho_56.row | exact ho_56.row.there | exact ho_56.row.there.there | exact ho_56.row.there.there.there | exact ho_56.row.there.there.there.there | exact ho_56.row.there.there.there.there.there | exact ho_56.row.there.there.there.there.there.there | exact ho_56.row.there.there.there.there.there.there.there | exact ho_56.row.there.there.there.there.there.there.there.there) (by omega)) ?_)))
                      rintro v_122 hs_122 ⟨rfl, rfl⟩
                      rw [eqCat_refl]
                      refine OT.nil (.any (.takes (fuel := 0) hT [8, 9] kr kr rfl (.done kr sl (.seq (.cond rfl (fun c124 => ?_) (fun c124 => ?_))))))
                      ·
                        exact absurd c124 (by decide)
                      ·
                        refine TT.skip (.seq (.seq (.region (.pures hT 2 rfl (.nil (.seq (.cond rfl (fun c126 => ?_) (fun c126 => ?_))))))))
                        ·
                          exact absurd c126 (by decide)
                        ·
                          refine TT.skip (.cut (a, c, L, K, aw, cw, W, nx) ?_ (SubR.cons rfl (SubR.cons rfl (SubR.cons rfl (SubR.cons rfl (SubR.cons rfl (SubR.cons rfl (SubR.nil _))))))) sl)
                          · dsimp only
                            exact ⟨by omega, hL4, hS, hO, hW⟩
                  ·
                    have c108 := of_decide_eq_false c108
                    refine TT.seq (.region (.pures hT 4 rfl (.nil (.seq (.cond rfl (fun c111 => ?_) (fun c111 => ?_))))))
                    ·
                      have c111 := of_decide_eq_true c111
                      have hadd : addC (nx : Int) L nm = ((0, []), 4) := by unfold addC; rw [if_neg c104', if_neg c108, if_pos (.inl (by omega))]
                      rw [hadd] at ho101 ⊢
                      dsimp only at ho101 ⊢
                      clear hadd
                      refine TT.region (.pures hT 1 rfl (.nil (.blk (.seq (.seq (.seq (.draw ([(b_13, blk [.int .i64 (nx : Nat), .slice a56 L.length ca56] 24 (0, 0))] :: H_56 :: K :: hs) mixed (.takes (fuel := 6) hT [0, 1, 2, 3] kr kr rfl (.split 118 rfl (fun g118 => ?_) (fun g118 => ?_))))))))))
                      ·
                        exact absurd g118 (by decide)
                      ·
                        refine AT.take (fuel := 5) hT 6 rfl rfl kr kr kr rfl (.load rfl (Ld.struct_all hT rfl hz rfl)) rfl ?_
                        refine AT.op (fuel := 4) 4 kr rfl sl (.load rfl rfl (Ld.struct_all hT rfl hz rfl) rfl ?_)
                        refine OT.nil (.any (.op (fuel := 3) 5 kr rfl sl (.call Try.call25 rfl rfl rfl rfl (law20_Back) ?_)))
                        rintro v_120 hs_120 ⟨rfl, rfl⟩
                        refine OT.nil (.any (.op (fuel := 2) 7 kr rfl sl (.call Try.call24 rfl rfl rfl rfl (ref_EqCat (by first | exact hO.row | exact hO.row.there | exact hO.row.there.there | exact hO.row.there.there.there | exact hO.row.there.there.there.there | exact hO.row.there.there.there.there.there | exact hO.row.there.there.there.there.there.there | exact hO.row.there.there.there.there.there.there.there | exact hO.row.there.there.there.there.there.there.there.there) (by first | exact ho_56.row | exact ho_56.row.there | exact ho_56.row.there.there | exact ho_56.row.there.there.there | exact ho_56.row.there.there.there.there | exact ho_56.row.there.there.there.there.there | exact ho_56.row.there.there.there.there.there.there | exact ho_56.row.there.there.there.there.there.there.there | exact ho_56.row.there.there.there.there.there.there.there.there) (by omega)) ?_)))
                        rintro v_122 hs_122 ⟨rfl, rfl⟩
                        rw [eqCat_refl]
                        refine OT.nil (.any (.takes (fuel := 0) hT [8, 9] kr kr rfl (.done kr sl (.seq (.cond rfl (fun c124 => ?_) (fun c124 => ?_))))))
                        ·
                          exact absurd c124 (by decide)
                        ·
                          refine TT.skip (.seq (.seq (.region (.pures hT 2 rfl (.nil (.seq (.cond rfl (fun c126 => ?_) (fun c126 => ?_))))))))
                          ·
                            exact absurd c126 (by decide)
                          ·
                            refine TT.skip (.cut (a, c, L, K, aw, cw, W, nx) ?_ (SubR.cons rfl (SubR.cons rfl (SubR.cons rfl (SubR.cons rfl (SubR.cons rfl (SubR.cons rfl (SubR.nil _))))))) sl)
                            · dsimp only
                              exact ⟨by omega, hL4, hS, hO, hW⟩
                    ·
                      have c111 := of_decide_eq_false c111
                      have hadd : addC (nx : Int) L nm = ((((nx + 1 : Nat) : Int), L ++ [newSnap nm ((nx + 1 : Nat) : Int)]), 0) := by unfold addC; rw [if_neg c104', if_neg c108, if_neg (by omega)]; rfl
                      have hS3 : Shot ((nx + 1 : Nat) : Int) (L ++ [newSnap nm ((nx + 1 : Nat) : Int)]) := shot_add hS (by omega) c104 c108
                      rw [hadd] at ho101 ⊢
                      dsimp only at ho101 ⊢
                      clear hadd
                      refine TT.skip (.blk (.seq (.seq (.seq (.draw ([(b_13, blk [.int .i64 (nx : Nat), .slice a56 L.length ca56] 24 (0, 0))] :: H_56 :: K :: hs) mixed (.takes (fuel := 6) hT [0, 1, 2, 3] kr kr rfl (.split 118 rfl (fun g118 => ?_) (fun g118 => ?_))))))))
                      ·
                        exact absurd g118 (by decide)
                      ·
                        refine AT.take (fuel := 5) hT 6 rfl rfl kr kr kr rfl (.load rfl (Ld.struct_all hT rfl hz rfl)) rfl ?_
                        refine AT.op (fuel := 4) 4 kr rfl sl (.load rfl rfl (Ld.struct_all hT rfl hz rfl) rfl ?_)
                        refine OT.nil (.any (.op (fuel := 3) 5 kr rfl sl (.call Try.call25 rfl rfl rfl rfl (law20_Back) ?_)))
                        rintro v_120 hs_120 ⟨rfl, rfl⟩
                        refine OT.nil (.any (.op (fuel := 2) 7 kr rfl sl (.call Try.call24 rfl rfl rfl rfl (ref_EqCat (by first | exact hO.row | exact hO.row.there | exact hO.row.there.there | exact hO.row.there.there.there | exact hO.row.there.there.there.there | exact hO.row.there.there.there.there.there | exact hO.row.there.there.there.there.there.there | exact hO.row.there.there.there.there.there.there.there | exact hO.row.there.there.there.there.there.there.there.there) (by first | exact ho_56.row | exact ho_56.row.there | exact ho_56.row.there.there | exact ho_56.row.there.there.there | exact ho_56.row.there.there.there.there | exact ho_56.row.there.there.there.there.there | exact ho_56.row.there.there.there.there.there.there | exact ho_56.row.there.there.there.there.there.there.there | exact ho_56.row.there.there.there.there.there.there.there.there) (by omega)) ?_)))
                        rintro v_122 hs_122 ⟨rfl, rfl⟩
                        rw [eqCat_refl]
                        refine OT.nil (.any (.takes (fuel := 0) hT [8, 9] kr kr rfl (.done kr sl (.seq (.cond rfl (fun c124 => ?_) (fun c124 => ?_))))))
                        ·
                          exact absurd c124 (by decide)
                        ·
                          refine TT.skip (.seq (.seq (.region (.pures hT 2 rfl (.nil (.seq (.cond rfl (fun c126 => ?_) (fun c126 => ?_))))))))
                          ·
                            refine TT.seq (.region (.pures hT 3 rfl (.nil (.seq (.seq (.region (.pures hT 2 rfl ?_)))))))
                            refine OT.buildSlice (enc := Go.Sx.encS) (xs := [nm]) (xos := [.tmp 130]) el57 rfl rfl rfl rfl rfl (by simp [Value.cells]) (fun _ _ => rfl) rfl (by decide) rfl (fun v_131 H_131 ho_131 => ?_)
                            refine OT.append hT el57 rfl rfl rfl rfl pl hW ho_131.row (ones_S _) (by simp only [List.length_cons, List.length_nil]; omega) rfl (fun v_132 H_132 ho_132 => ?_)
                            rw [names_snoc L nm ((nx + 1 : Nat) : Int)] at ho_132
                            obtain ⟨a132, ca132, hv132⟩ := (ho_132.row (hs := hs)).len
                            subst hv132
                            refine OT.pures hT 1 rfl (.nil (.seq (.region (.load rfl rfl (Ld.struct_all hT rfl hz rfl) rfl ?_))))
                            refine OT.store_all hT rfl rfl rfl rfl pl rfl rfl rfl (.inl (Nat.le_refl _)) ?_
                            refine OT.nil (.cut (a101, ca101, L ++ [newSnap nm ((nx + 1 : Nat) : Int)], H101, a132, ca132, H_132, nx + 1) ?_ (SubR.cons rfl (SubR.cons rfl (SubR.cons rfl (SubR.cons rfl (SubR.cons' rfl (by (try dsimp only); exact (int_eq (by rw [wrap_i64 (by omega) (by omega)]; omega))) (SubR.cons rfl (SubR.nil _))))))) sl)
                            · dsimp only
                              exact ⟨by omega, by simp only [List.length_append, List.length_cons, List.length_nil]; omega, hS3, ho101, ho_132⟩
                          ·
                            exact absurd c126 (by decide)
            ·
              have g62 := of_decide_eq_false g62
              refine OT.pures hT 5 rfl (.nil (.seq (.cond_false rfl (.seq (.region (.load rfl rfl (Ld.struct_all hT rfl hz rfl) rfl ?_))))))
              refine OT.pures hT 1 rfl (.call Try.call31 rfl rfl rfl rfl (cat_Add (by first | exact hO.row | exact hO.row.there | exact hO.row.there.there | exact hO.row.there.there.there | exact hO.row.there.there.there.there | exact hO.row.there.there.there.there.there | exact hO.row.there.there.there.there.there.there | exact hO.row.there.there.there.there.there.there.there | exact hO.row.there.there.there.there.there.there.there.there) (by omega) (by omega)) ?_)
              rintro v_101 hs_101 ⟨w101, H101, rfl, rfl, ho101⟩
              obtain ⟨a101, ca101, hv101⟩ := (ho101.row (hs := hs)).len
              subst hv101
              refine OT.pures hT 3 rfl (.alloc Try.zeroValue33 rfl rfl (fun b_17 => ?_))
              refine OT.store_all hT rfl rfl rfl rfl pl rfl rfl rfl (.inl (Nat.le_refl _)) ?_
              refine OT.pures hT 1 rfl (.nil (.seq (.seq (.region (.pures hT 1 rfl (.nil (.seq (.seq (.block (.seq (.region (.pures hT 1 rfl (.call Try.call18 rfl rfl rfl rfl (ref_Name) ?_)))))))))))))
              rintro v_106 hs_106 ⟨rfl, rfl⟩
              refine OT.pures hT 2 rfl (.nil (.seq (.cond rfl (fun c104 => ?_) (fun c104 => ?_))))
              ·
                have c104 : nameB nm = false := by simpa using c104
                have hadd : addC (nx : Int) L nm = ((0, []), 1) := by unfold addC; rw [if_pos c104]
                rw [hadd] at ho101 ⊢
                dsimp only at ho101 ⊢
                clear hadd
                refine TT.region (.pures hT 1 rfl (.nil (.blk (.seq (.seq (.seq (.draw ([(b_13, blk [.int .i64 (nx : Nat), .slice a56 L.length ca56] 24 (0, 0))] :: H_56 :: K :: hs) mixed (.takes (fuel := 6) hT [0, 1, 2, 3] kr kr rfl (.split 118 rfl (fun g118 => ?_) (fun g118 => ?_))))))))))
                ·
                  exact absurd g118 (by decide)
                ·
                  refine AT.take (fuel := 5) hT 6 rfl rfl kr kr kr rfl (.load rfl (Ld.struct_all hT rfl hz rfl)) rfl ?_
                  refine AT.op (fuel := 4) 4 kr rfl sl (.load rfl rfl (Ld.struct_all hT rfl hz rfl) rfl ?_)
                  refine OT.nil (.any (.op (fuel := 3) 5 kr rfl sl (.call Try.call25 rfl rfl rfl rfl (law20_Back) ?_)))
                  rintro v_120 hs_120 ⟨rfl, rfl⟩
                  refine OT.nil (.any (.op (fuel := 2) 7 kr rfl sl (.call Try.call24 rfl rfl rfl rfl (ref_EqCat (by first | exact hO.row | exact hO.row.there | exact hO.row.there.there | exact hO.row.there.there.there | exact hO.row.there.there.there.there | exact hO.row.there.there.there.there.there | exact hO.row.there.there.there.there.there.there | exact hO.row.there.there.there.there.there.there.there | exact hO.row.there.there.there.there.there.there.there.there) (by first | exact ho_56.row | exact ho_56.row.there | exact ho_56.row.there.there | exact ho_56.row.there.there.there | exact ho_56.row.there.there.there.there | exact ho_56.row.there.there.there.there.there | exact ho_56.row.there.there.there.there.there.there | exact ho_56.row.there.there.there.there.there.there.there | exact ho_56.row.there.there.there.there.there.there.there.there) (by omega)) ?_)))
                  rintro v_122 hs_122 ⟨rfl, rfl⟩
                  rw [eqCat_refl]
                  refine OT.nil (.any (.takes (fuel := 0) hT [8, 9] kr kr rfl (.done kr sl (.seq (.cond rfl (fun c124 => ?_) (fun c124 => ?_))))))
                  ·
                    exact absurd c124 (by decide)
                  ·
                    refine TT.skip (.seq (.seq (.region (.pures hT 2 rfl (.nil (.seq (.cond rfl (fun c126 => ?_) (fun c126 => ?_))))))))
                    ·
                      exact absurd c126 (by decide)
                    ·
                      refine TT.skip (.cut (a, c, L, K, aw, cw, W, nx) ?_ (SubR.cons rfl (SubR.cons rfl (SubR.cons rfl (SubR.cons rfl (SubR.cons rfl (SubR.cons rfl (SubR.nil _))))))) sl)
                      · dsimp only
                        exact ⟨by omega, hL4, hS, hO, hW⟩
              ·
                have c104 : nameB nm = true := by simpa using c104
                have c104' : ¬ nameB nm = false := by rw [c104]; decide
                refine TT.seq (.region (.pures hT 3 rfl (.nil (.seq (.cond rfl (fun c108 => ?_) (fun c108 => ?_))))))
                ·
                  have c108 := of_decide_eq_true c108
                  have hadd : addC (nx : Int) L nm = ((0, []), 7) := by unfold addC; rw [if_neg c104', if_pos c108]
                  rw [hadd] at ho101 ⊢
                  dsimp only at ho101 ⊢
                  clear hadd
                  refine TT.region (.pures hT 1 rfl (.nil (.blk (.seq (.seq (.seq (.draw ([(b_13, blk [.int .i64 (nx : Nat), .slice a56 L.length ca56] 24 (0, 0))] :: H_56 :: K :: hs) mixed (.takes (fuel := 6) hT [0, 1, 2, 3] kr kr rfl (.split 118 rfl (fun g118 => ?_) (fun g118 => ?_))))))))))
                  ·
                    exact absurd g118 (by decide)
                  ·
                    refine AT.take (fuel := 5) hT 6 rfl rfl kr kr kr rfl (.load rfl (Ld.struct_all hT rfl hz rfl)) rfl ?_
                    refine AT.op (fuel := 4) 4 kr rfl sl (.load rfl rfl (Ld.struct_all hT rfl hz rfl) rfl ?_)
                    refine OT.nil (.any (.op (fuel := 3) 5 kr rfl sl (.call Try.call25 rfl rfl rfl rfl (law20_Back) ?_)))
                    rintro v_120 hs_120 ⟨rfl, rfl⟩
                    refine OT.nil (.any (.op (fuel := 2) 7 kr rfl sl (.call Try.call24 rfl rfl rfl rfl (ref_EqCat (by first | exact hO.row | exact hO.row.there | exact hO.row.there.there | exact hO.row.there.there.there | exact hO.row.there.there.there.there | exact hO.row.there.there.there.there.there | exact hO.row.there.there.there.there.there.there | exact hO.row.there.there.there.there.there.there.there | exact hO.row.there.there.there.there.there.there.there.there) (by first | exact ho_56.row | exact ho_56.row.there | exact ho_56.row.there.there | exact ho_56.row.there.there.there | exact ho_56.row.there.there.there.there | exact ho_56.row.there.there.there.there.there | exact ho_56.row.there.there.there.there.there.there | exact ho_56.row.there.there.there.there.there.there.there | exact ho_56.row.there.there.there.there.there.there.there.there) (by omega)) ?_)))
                    rintro v_122 hs_122 ⟨rfl, rfl⟩
                    rw [eqCat_refl]
                    refine OT.nil (.any (.takes (fuel := 0) hT [8, 9] kr kr rfl (.done kr sl (.seq (.cond rfl (fun c124 => ?_) (fun c124 => ?_))))))
                    ·
                      exact absurd c124 (by decide)
                    ·
                      refine TT.skip (.seq (.seq (.region (.pures hT 2 rfl (.nil (.seq (.cond rfl (fun c126 => ?_) (fun c126 => ?_))))))))
                      ·
                        exact absurd c126 (by decide)
                      ·
                        refine TT.skip (.cut (a, c, L, K, aw, cw, W, nx) ?_ (SubR.cons rfl (SubR.cons rfl (SubR.cons rfl (SubR.cons rfl (SubR.cons rfl (SubR.cons rfl (SubR.nil _))))))) sl)
                        · dsimp only
                          exact ⟨by omega, hL4, hS, hO, hW⟩
                ·
                  have c108 := of_decide_eq_false c108
                  refine TT.seq (.region (.pures hT 4 rfl (.nil (.seq (.cond rfl (fun c111 => ?_) (fun c111 => ?_))))))
                  ·
                    have c111 := of_decide_eq_true c111
                    have hadd : addC (nx : Int) L nm = ((0, []), 4) := by unfold addC; rw [if_neg c104', if_neg c108, if_pos (.inl (by omega))]
                    rw [hadd] at ho101 ⊢
                    dsimp only at ho101 ⊢
                    clear hadd
                    refine TT.region (.pures hT 1 rfl (.nil (.blk (.seq (.seq (.seq (.draw ([(b_13, blk [.int .i64 (nx : Nat), .slice a56 L.length ca56] 24 (0, 0))] :: H_56 :: K :: hs) mixed (.takes (fuel := 6) hT [0, 1, 2, 3] kr kr rfl (.split 118 rfl (fun g118 => ?_) (fun g118 => ?_))))))))))
                    ·
                      exact absurd g118 (by decide)
                    ·
                      refine AT.take (fuel := 5) hT 6 rfl rfl kr kr kr rfl (.load rfl (Ld.struct_all hT rfl hz rfl)) rfl ?_
                      refine AT.op (fuel := 4) 4 kr rfl sl (.load rfl rfl (Ld.struct_all hT rfl hz rfl) rfl ?_)
                      refine OT.nil (.any (.op (fuel := 3) 5 kr rfl sl (.call Try.call25 rfl rfl rfl rfl (law20_Back) ?_)))
                      rintro v_120 hs_120 ⟨rfl, rfl⟩
                      refine OT.nil (.any (.op (fuel := 2) 7 kr rfl sl (.call Try.call24 rfl rfl rfl rfl (ref_EqCat (by first | exact hO.row | exact hO.row.there | exact hO.row.there.there | exact hO.row.there.there.there | exact hO.row.there.there.there.there | exact hO.row.there.there.there.there.there | exact hO.row.there.there.there.there.there.there | exact hO.row.there.there.there.there.there.there.there | exact hO.row.there.there.there.there.there.there.there.there) (by first | exact ho_56.row | exact ho_56.row.there | exact ho_56.row.there.there | exact ho_56.row.there.there.there | exact ho_56.row.there.there.there.there | exact ho_56.row.there.there.there.there.there | exact ho_56.row.there.there.there.there.there.there | exact ho_56.row.there.there.there.there.there.there.there | exact ho_56.row.there.there.there.there.there.there.there.there) (by omega)) ?_)))
                      rintro v_122 hs_122 ⟨rfl, rfl⟩
                      rw [eqCat_refl]
                      refine OT.nil (.any (.takes (fuel := 0) hT [8, 9] kr kr rfl (.done kr sl (.seq (.cond rfl (fun c124 => ?_) (fun c124 => ?_))))))
                      ·
                        exact absurd c124 (by decide)
                      ·
                        refine TT.skip (.seq (.seq (.region (.pures hT 2 rfl (.nil (.seq (.cond rfl (fun c126 => ?_) (fun c126 => ?_))))))))
                        ·
                          exact absurd c126 (by decide)
                        ·
                          refine TT.skip (.cut (a, c, L, K, aw, cw, W, nx) ?_ (SubR.cons rfl (SubR.cons rfl (SubR.cons rfl (SubR.cons rfl (SubR.cons rfl (SubR.cons rfl (SubR.nil _))))))) sl)
                          · dsimp only
                            exact ⟨by omega, hL4, hS, hO, hW⟩
                  ·
                    have c111 := of_decide_eq_false c111
                    have hadd : addC (nx : Int) L nm = ((((nx + 1 : Nat) : Int), L ++ [newSnap nm ((nx + 1 : Nat) : Int)]), 0) := by unfold addC; rw [if_neg c104', if_neg c108, if_neg (by omega)]; rfl
                    have hS3 : Shot ((nx + 1 : Nat) : Int) (L ++ [newSnap nm ((nx + 1 : Nat) : Int)]) := shot_add hS (by omega) c104 c108
                    rw [hadd] at ho101 ⊢
                    dsimp only at ho101 ⊢
                    clear hadd
                    refine TT.skip (.blk (.seq (.seq (.seq (.draw ([(b_13, blk [.int .i64 (nx : Nat), .slice a56 L.length ca56] 24 (0, 0))] :: H_56 :: K :: hs) mixed (.takes (fuel := 6) hT [0, 1, 2, 3] kr kr rfl (.split 118 rfl (fun g118 => ?_) (fun g118 => ?_))))))))
                    ·
                      exact absurd g118 (by decide)
                    ·
                      refine AT.take (fuel := 5) hT 6 rfl rfl kr kr kr rfl (.load rfl (Ld.struct_all hT rfl hz rfl)) rfl ?_
                      refine AT.op (fuel := 4) 4 kr rfl sl (.load rfl rfl (Ld.struct_all hT rfl hz rfl) rfl ?_)
                      refine OT.nil (.any (.op (fuel := 3) 5 kr rfl sl (.call Try.call25 rfl rfl rfl rfl (law20_Back) ?_)))
                      rintro v_120 hs_120 ⟨rfl, rfl⟩
                      refine OT.nil (.any (.op (fuel := 2) 7 kr rfl sl (.call Try.call24 rfl rfl rfl rfl (ref_EqCat (by first | exact hO.row | exact hO.row.there | exact hO.row.there.there | exact hO.row.there.there.there | exact hO.row.there.there.there.there | exact hO.row.there.there.there.there.there | exact hO.row.there.there.there.there.there.there | exact hO.row.there.there.there.there.there.there.there | exact hO.row.there.there.there.there.there.there.there.there) (by first | exact ho_56.row | exact ho_56.row.there | exact ho_56.row.there.there | exact ho_56.row.there.there.there | exact ho_56.row.there.there.there.there | exact ho_56.row.there.there.there.there.there | exact ho_56.row.there.there.there.there.there.there | exact ho_56.row.there.there.there.there.there.there.there | exact ho_56.row.there.there.there.there.there.there.there.there) (by omega)) ?_)))
                      rintro v_122 hs_122 ⟨rfl, rfl⟩
                      rw [eqCat_refl]
                      refine OT.nil (.any (.takes (fuel := 0) hT [8, 9] kr kr rfl (.done kr sl (.seq (.cond rfl (fun c124 => ?_) (fun c124 => ?_))))))
                      ·
                        exact absurd c124 (by decide)
                      ·
                        refine TT.skip (.seq (.seq (.region (.pures hT 2 rfl (.nil (.seq (.cond rfl (fun c126 => ?_) (fun c126 => ?_))))))))
                        ·
                          refine TT.seq (.region (.pures hT 3 rfl (.nil (.seq (.seq (.region (.pures hT 2 rfl ?_)))))))
                          refine OT.buildSlice (enc := Go.Sx.encS) (xs := [nm]) (xos := [.tmp 130]) el57 rfl rfl rfl rfl rfl (by simp [Value.cells]) (fun _ _ => rfl) rfl (by decide) rfl (fun v_131 H_131 ho_131 => ?_)
                          refine OT.append hT el57 rfl rfl rfl rfl pl hW ho_131.row (ones_S _) (by simp only [List.length_cons, List.length_nil]; omega) rfl (fun v_132 H_132 ho_132 => ?_)
                          rw [names_snoc L nm ((nx + 1 : Nat) : Int)] at ho_132
                          obtain ⟨a132, ca132, hv132⟩ := (ho_132.row (hs := hs)).len
                          subst hv132
                          refine OT.pures hT 1 rfl (.nil (.seq (.region (.load rfl rfl (Ld.struct_all hT rfl hz rfl) rfl ?_))))
                          refine OT.store_all hT rfl rfl rfl rfl pl rfl rfl rfl (.inl (Nat.le_refl _)) ?_
                          refine OT.nil (.cut (a101, ca101, L ++ [newSnap nm ((nx + 1 : Nat) : Int)], H101, a132, ca132, H_132, nx + 1) ?_ (SubR.cons rfl (SubR.cons rfl (SubR.cons rfl (SubR.cons rfl (SubR.cons' rfl (by (try dsimp only); exact (int_eq (by rw [wrap_i64 (by omega) (by omega)]; omega))) (SubR.cons rfl (SubR.nil _))))))) sl)
                          · dsimp only
                            exact ⟨by omega, by simp only [List.length_append, List.length_cons, List.length_nil]; omega, hS3, ho101, ho_132⟩
                        ·
                          exact absurd c126 (by decide)
          ·
            rintro ⟨a2, c2, L2, K2, aw2, cw2, W2, nx2⟩ hI
            dsimp only at hI
            obtain ⟨hnx2, hL42, hS2, hO2, hW2⟩ := hI
            show TT _ _ _ [(0, .slice a0 us.length c0), (1, .slice a1 bs.length c1), (6, .pointer (some ⟨b_6, 0, none⟩)), (7, .slice aw2 (names L2).length cw2), (8, .int .i64 (nx2 : Nat)), (9, .int .i64 (i : Nat))] ([(b_6, blk [.int .i64 (nx2 : Nat), .slice a2 L2.length c2] 33 (0, 0))] :: W2 :: K2 :: hs)
            have hnl2 := names_length L2
            refine TT.seq (.seq (.region (.pures hT 1 rfl (.load rfl rfl (Ld.one hT rfl hz rfl) rfl ?_))))
            refine OT.pures hT 3 rfl (.split 138 rfl (fun g138 => ?_) (fun g138 => ?_))
            ·
              exact absurd g138 (by simp)
            ·
              refine OT.pures hT 1 rfl (.load rfl rfl (Ld.slc hT rfl hz rfl) rfl ?_)
              refine OT.pures hT 6 rfl (.split 146 rfl (fun g146 => ?_) (fun g146 => ?_))
              ·
                exact absurd g146 (by rw [hnl2]; simp)
              ·
                refine OT.load rfl rfl (Ld.struct_all hT rfl hz rfl) rfl ?_
                refine OT.call Try.call15 rfl rfl rfl rfl (cat_May (by first | exact hO2.row | exact hO2.row.there | exact hO2.row.there.there | exact hO2.row.there.there.there | exact hO2.row.there.there.there.there | exact hO2.row.there.there.there.there.there | exact hO2.row.there.there.there.there.there.there | exact hO2.row.there.there.there.there.there.there.there | exact hO2.row.there.there.there.there.there.there.there.there) (by omega)) ?_
                rintro v_148 hs_148 ⟨rfl, rfl⟩
                rw [shot_may hS2 (by omega) (by omega) hL42]
                refine OT.pures hT 2 rfl (.nil (.seq (.cond rfl (fun c150 => ?_) (fun c150 => ?_))))
                ·
                  exact absurd c150 (by decide)
                ·
                  refine TT.skip (.seq (.seq (.region (.pures hT 1 rfl (.nil (.seq (.block (.loop (ι := Nat) (fun j => (j) ≤ L2.length) (fun j => L2.length - (j)) (fun j => [(0, .slice a0 us.length c0), (1, .slice a1 bs.length c1), (6, .pointer (some ⟨b_6, 0, none⟩)), (7, .slice aw2 (names L2).length cw2), (8, .int .i64 (nx2 : Nat)), (9, .int .i64 (i : Nat)), (20, .int .i64 ((j) : Nat))]) (fun j => [(b_6, blk [.int .i64 (nx2 : Nat), .slice a2 L2.length c2] 33 (0, 0))] :: W2 :: K2 :: hs) (0) ?_ (SubR.cons rfl (SubR.cons rfl (SubR.cons rfl (SubR.cons rfl (SubR.cons rfl (SubR.cons rfl (SubR.cons rfl (SubR.nil _)))))))) sl ?_))))))))
                  · omega
                  rintro q hq
                  show TT _ _ _ [(0, .slice a0 us.length c0), (1, .slice a1 bs.length c1), (6, .pointer (some ⟨b_6, 0, none⟩)), (7, .slice aw2 (names L2).length cw2), (8, .int .i64 (nx2 : Nat)), (9, .int .i64 (i : Nat)), (20, .int .i64 (q : Nat))] ([(b_6, blk [.int .i64 (nx2 : Nat), .slice a2 L2.length c2] 33 (0, 0))] :: W2 :: K2 :: hs)
                  refine TT.seq (.seq (.region (.pures hT 4 rfl (.nil (.seq (.cond rfl (fun c154 => ?_) (fun c154 => ?_)))))))
                  ·
                    have c154 := of_decide_eq_true c154
                    obtain ⟨s, hsq⟩ := nth (l := L2) (i := q) (by omega)
                    have hnq := names_at hsq
                    refine TT.skip (.seq (.seq (.block (.seq (.draw ([(b_6, blk [.int .i64 (nx2 : Nat), .slice a2 L2.length c2] 33 (0, 0))] :: W2 :: K2 :: hs) mixed (.takes (fuel := 17) hT [0, 2, 6, 7] kr kr rfl (.take (fuel := 16) hT 1 rfl rfl kr kr kr rfl (.load rfl (Ld.slc hT rfl hz rfl)) rfl ?_)))))))
                    refine AT.index (fuel := 15) hT 3 rfl kr kr kr rfl rfl rfl rfl (by first | exact hO2.row | exact hO2.row.there | exact hO2.row.there.there | exact hO2.row.there.there.there | exact hO2.row.there.there.there.there | exact hO2.row.there.there.there.there.there | exact hO2.row.there.there.there.there.there.there | exact hO2.row.there.there.there.there.there.there.there | exact hO2.row.there.there.there.there.there.there.there.there) (by omega) hsq rfl (fun ad_160 hel_160 => ?_)
                    obtain ⟨eb_160, eo_160, rfl, hfld_160⟩ := hel_160.at (P := Try.prog)
                    refine AT.takes (fuel := 14) hT [4] kr kr rfl (.take (fuel := 13) hT 5 rfl rfl kr kr kr rfl (.load rfl (hfld_160 hT rfl rfl)) rfl (.index (fuel := 12) hT 8 rfl kr kr kr rfl rfl rfl rfl (by first | exact hW2.row | exact hW2.row.there | exact hW2.row.there.there | exact hW2.row.there.there.there | exact hW2.row.there.there.there.there | exact hW2.row.there.there.there.there.there | exact hW2.row.there.there.there.there.there.there | exact hW2.row.there.there.there.there.there.there.there | exact hW2.row.there.there.there.there.there.there.there.there) (by omega) hnq rfl (fun ad_165 hel_165 => ?_)))
                    refine AT.take (fuel := 11) hT 9 rfl rfl kr kr kr rfl (.load rfl (hel_165.ld_one hT rfl rfl)) rfl (.takes (fuel := 9) hT [10, 11] kr kr rfl (.split 168 rfl (fun g168 => ?_) (fun g168 => ?_)))
                    ·
                      exact absurd g168 (by simp)
                    ·
                      refine AT.takes (fuel := 6) hT [13, 14, 18] kr kr rfl (.take (fuel := 5) hT 12 rfl rfl kr kr kr rfl (.load rfl (Ld.struct_all hT rfl hz rfl)) rfl ?_)
                      refine AT.index (fuel := 4) hT 15 rfl kr kr kr rfl rfl rfl rfl (by first | exact hW2.row | exact hW2.row.there | exact hW2.row.there.there | exact hW2.row.there.there.there | exact hW2.row.there.there.there.there | exact hW2.row.there.there.there.there.there | exact hW2.row.there.there.there.there.there.there | exact hW2.row.there.there.there.there.there.there.there | exact hW2.row.there.there.there.there.there.there.there.there) (by omega) hnq rfl (fun ad_172 hel_172 => ?_)
                      refine AT.take (fuel := 3) hT 16 rfl rfl kr kr kr rfl (.load rfl (hel_172.ld_one hT rfl rfl)) rfl (.op (fuel := 2) 17 kr rfl sl (.call Try.call26 rfl rfl rfl rfl (cat_Find (by first | exact hO2.row | exact hO2.row.there | exact hO2.row.there.there | exact hO2.row.there.there.there | exact hO2.row.there.there.there.there | exact hO2.row.there.there.there.there.there | exact hO2.row.there.there.there.there.there.there | exact hO2.row.there.there.there.there.there.there.there | exact hO2.row.there.there.there.there.there.there.there.there) (by omega)) ?_))
                      rintro v_174 hs_174 ⟨rfl, rfl⟩
                      rw [shot_self hS2 (by omega) (by omega) hL42 hsq]
                      refine OT.nil (.any (.takes (fuel := 0) hT [19, 20] kr kr rfl (.done kr sl (.seq (.cond rfl (fun c177 => ?_) (fun c177 => ?_))))))
                      ·
                        exact absurd c177 (by simp)
                      ·
                        refine TT.skip (.blk (.seq (.region (.pures hT 3 rfl (.nil (.loop (q + 1) ?_ ?_ (SubR.cons rfl (SubR.cons rfl (SubR.cons rfl (SubR.cons rfl (SubR.cons rfl (SubR.cons rfl (SubR.cons' rfl (by (try dsimp only); exact (int_eq (by rw [wrap_i64 (by omega) (by omega)]; omega))) (SubR.nil _)))))))) sl))))))
                        · omega
                        · omega
                  ·
                    refine TT.exit (.seq (.loop (.here (.blk (.seq (.region (.pures hT 3 rfl (.nil (.loop (i + 1, a2, c2, L2, K2, aw2, cw2, W2, nx2) ?_ ?_ (SubR.cons rfl (SubR.cons rfl (SubR.cons rfl (SubR.cons rfl (SubR.cons rfl (SubR.cons' rfl (by (try dsimp only); exact (int_eq (by rw [wrap_i64 (by omega) (by omega)]; omega))) (SubR.nil _))))))) sl)))))))))
                    · dsimp only
                      exact ⟨by omega, by omega, hnx2, hL42, hS2, hO2, hW2⟩
                    · dsimp only
                      omega
      ·
        have c31 := of_decide_eq_false c31
        refine TT.exit (.seq (.loop (.here (.seq (.seq (.region (.pures hT 1 rfl (.nil (.seq (.ret (.of (rs := [.tmp 4]) [_] hs rfl (.tmp rfl .nil) sl ?_)))))))))))
        dsimp only [one]
        exact ⟨rfl, rfl⟩
    ·
      have g28 := of_decide_eq_false g28
      refine OT.pures hT 3 rfl (.nil (.seq (.cond_false rfl (.exit (.seq (.loop (.here (.seq (.seq (.region (.pures hT 1 rfl (.nil (.seq (.ret (.of (rs := [.tmp 4]) [_] hs rfl (.tmp rfl .nil) sl ?_)))))))))))))))
      dsimp only [one]
      exact ⟨rfl, rfl⟩

end Go.Proofs.Ytpijialhhdpobaa.Sx
