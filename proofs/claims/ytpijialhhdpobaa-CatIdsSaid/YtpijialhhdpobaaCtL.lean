/- CatIds: it answers true. Printed by a program of ours off the loaded program and our notes; Lean checks it. -/
import Derived.Test.YtpijialhhdpobaaPlK
import Derived.Test.YtpijialhhdpobaaSxT
import Derived.Test.YtpijialhhdpobaaSxK
import Derived.Test.YtpijialhhdpobaaCtJ
namespace Go.Proofs.Ytpijialhhdpobaa.Sx
open Go Go.Sx Go.Pl
variable [Outer]

set_option maxHeartbeats 8000000 in
set_option maxRecDepth 100000 in
theorem law_CatIds {n : Int} {vy : Value} {ys : List Int} {hs : List Chunk} (hy : Row Go.Sx.encI 1 hs vy ys) (hyl : ys.length ≤ 9223372036854775807) : Fun Try.prog 6 [.int .i64 n, vy] hs (fun v' hs' => v' = .bool true ∧ hs = hs') := by
  refine Fun.enter 134 Try.func6 rfl Try.ntmps6 rfl ?_
  obtain ⟨ay, cy, hvy⟩ := hy.len
  subst hvy
  refine TT.seq ?_
  refine TT.region ?_
  refine OT.pures hT 1 rfl ?_
  refine OT.nil ?_
  refine KT.seq ?_
  refine TT.seq ?_
  refine TT.region ?_
  refine OT.call Try.call9 rfl rfl rfl rfl (law20_begun) ?_
  rintro v_14 hs_14 ⟨rfl, rfl⟩
  refine OT.pures hT 1 rfl ?_
  refine OT.nil ?_
  refine KT.seq ?_
  refine TT.seq ?_
  refine TT.seq ?_
  refine TT.region ?_
  refine OT.pures hT 2 rfl ?_
  refine OT.nil ?_
  refine KT.seq ?_
  refine TT.cond rfl (fun c16 => ?_) (fun c16 => ?_)
  ·
    exact absurd c16 (by decide)
  ·
    refine TT.skip ?_
    refine KT.seq ?_
    refine TT.seq ?_
    refine TT.seq ?_
    refine TT.region ?_
    refine OT.pures hT 3 rfl ?_
    refine OT.split 19 rfl (fun g19 => ?_) (fun g19 => ?_)
    ·
      have g19 := of_decide_eq_true g19
      refine OT.pures hT 3 rfl ?_
      refine OT.nil ?_
      refine KT.seq ?_
      refine TT.cond_true rfl ?_
      refine TT.seq ?_
      refine TT.region ?_
      refine OT.pures hT 1 rfl ?_
      refine OT.nil ?_
      refine KT.seq ?_
      refine TT.ret ?_
      refine RT.of (rs := [.tmp 4]) [_] hs rfl (.tmp rfl .nil) (by repeat (first | exact Sel.refl _ | refine Sel.empty ?_ | refine Sel.pull (by repeat (first | exact Pull.head | apply Pull.tail)) ?_ | refine Sel.drop ?_)) ?_
      dsimp only [one]
      exact ⟨rfl, rfl⟩
    ·
      have g19 := of_decide_eq_false g19
      refine OT.pures hT 3 rfl ?_
      refine OT.nil ?_
      refine KT.seq ?_
      refine TT.cond rfl (fun c22 => ?_) (fun c22 => ?_)
      ·
        have c22 := of_decide_eq_true c22
        refine TT.seq ?_
        refine TT.region ?_
        refine OT.pures hT 1 rfl ?_
        refine OT.nil ?_
        refine KT.seq ?_
        refine TT.ret ?_
        refine RT.of (rs := [.tmp 4]) [_] hs rfl (.tmp rfl .nil) (by repeat (first | exact Sel.refl _ | refine Sel.empty ?_ | refine Sel.pull (by repeat (first | exact Pull.head | apply Pull.tail)) ?_ | refine Sel.drop ?_)) ?_
        dsimp only [one]
        exact ⟨rfl, rfl⟩
      ·
        have c22 := of_decide_eq_false c22
        refine TT.skip ?_
        refine KT.seq ?_
        refine TT.seq ?_
        refine TT.region ?_
        refine OT.alloc Try.zeroValue33 rfl rfl (fun b_6 => ?_)
        refine OT.nil ?_
        refine KT.seq ?_
        refine TT.seq ?_
        refine TT.region ?_
        refine OT.pures hT 1 rfl ?_
        refine OT.nil ?_
        refine KT.seq ?_
        refine TT.seq ?_
        refine TT.seq ?_
        refine TT.region ?_
        refine OT.pures hT 1 rfl ?_
        refine OT.nil ?_
        refine KT.seq ?_
        refine TT.block ?_
        refine TT.chunk0 ?_
        refine TT.loop (ι := Nat × (Option Addr) × Nat × Nat × (List Snap) × Chunk) (fun j => ((j.1) : Int) ≤ n ∧ (j.2.2.1) = (j.2.2.2.2.1).length ∧ (j.2.2.2.2.1).length = min (j.1) 4 ∧ IdsUp (j.1) (j.2.2.2.2.1) ∧ Own encSnap 35 42 (.slice (j.2.1) (j.2.2.1) (j.2.2.2.1)) (j.2.2.2.2.1) (j.2.2.2.2.2)) (fun j => (n - (j.1)).toNat) (fun j => [(0, .int .i64 n), (1, .slice ay ys.length cy), (6, .pointer (some ⟨b_6, 0, none⟩)), (7, .int .i64 ((j.1) : Nat)), (8, .int .i64 ((j.1) : Nat))]) (fun j => [(b_6, blk [.int .i64 ((j.1) : Nat), .slice (j.2.1) (j.2.2.1) (j.2.2.2.1)] 33 (0, 0))] :: (j.2.2.2.2.2) :: hs) (0, none, 0, 0, [], []) ?_ (SubR.cons rfl (SubR.cons rfl (SubR.cons rfl (SubR.cons rfl (SubR.cons rfl (SubR.nil _)))))) (by repeat (first | exact Sel.refl _ | refine Sel.empty ?_ | refine Sel.pull (by repeat (first | exact Pull.head | apply Pull.tail)) ?_ | refine Sel.drop ?_)) ?_
        · dsimp only
          exact ⟨by omega, rfl, rfl, good_nil, Own.nil⟩
        rintro ⟨i, a, l, c, L, K⟩ hI
        dsimp only at hI
        obtain ⟨hi, hlL, hL4, hG, hO⟩ := hI
        show TT _ _ _ [(0, .int .i64 n), (1, .slice ay ys.length cy), (6, .pointer (some ⟨b_6, 0, none⟩)), (7, .int .i64 (i : Nat)), (8, .int .i64 (i : Nat))] ([(b_6, blk [.int .i64 (i : Nat), .slice a l c] 33 (0, 0))] :: K :: hs)
        subst hlL
        refine TT.seq ?_
        refine TT.seq ?_
        refine TT.region ?_
        refine OT.pures hT 3 rfl ?_
        refine OT.nil ?_
        refine KT.seq ?_
        refine TT.cond rfl (fun c25 => ?_) (fun c25 => ?_)
        ·
          have c25 := of_decide_eq_true c25
          refine TT.skip ?_
          refine KT.seq ?_
          refine TT.seq ?_
          refine TT.block ?_
          refine TT.cut (ι := (Option Addr) × Nat × Nat × (List Snap) × Chunk) (fun j => (j.2.1) = (j.2.2.2.1).length ∧ (j.2.2.2.1).length + 1 = min (i + 1) 4 ∧ IdsUp i (j.2.2.2.1) ∧ Own encSnap 35 42 (.slice (j.1) (j.2.1) (j.2.2.1)) (j.2.2.2.1) (j.2.2.2.2)) (fun j => [(0, .int .i64 n), (1, .slice ay ys.length cy), (6, .pointer (some ⟨b_6, 0, none⟩)), (7, .int .i64 (i : Nat)), (8, .int .i64 (i : Nat))]) (fun j => [(b_6, blk [.int .i64 (i : Nat), .slice (j.1) (j.2.1) (j.2.2.1)] 33 (0, 0))] :: (j.2.2.2.2) :: hs) ?_ ?_
          ·
            refine TT.seq ?_
            refine TT.region ?_
            refine OT.pures hT 1 rfl ?_
            refine OT.load rfl rfl (Ld.slc hT rfl (by repeat (first | exact Has.one | apply Has.there)) rfl) rfl ?_
            refine OT.pures hT 2 rfl ?_
            refine OT.nil ?_
            refine KT.seq ?_
            refine TT.cond rfl (fun c31 => ?_) (fun c31 => ?_)
            ·
              have c31 : L.length = 4 := by
                have h4 : (L.length : Int) = 4 := by simpa using c31
                omega
              refine TT.seq ?_
              refine TT.region ?_
              refine OT.pures hT 1 rfl ?_
              refine OT.nil ?_
              refine KT.seq ?_
              refine TT.cut (ι := Nat) (fun j => (j) < 4) (fun j => [(0, .int .i64 n), (1, .slice ay ys.length cy), (6, .pointer (some ⟨b_6, 0, none⟩)), (7, .int .i64 (i : Nat)), (8, .int .i64 (i : Nat)), (9, .int .i64 ((j) : Nat))]) (fun j => [(b_6, blk [.int .i64 (i : Nat), .slice a L.length c] 33 (0, 0))] :: K :: hs) ?_ ?_
              ·
                refine TT.seq ?_
                refine TT.region ?_
                refine OT.pures hT 4 rfl ?_
                refine OT.nil ?_
                refine KT.seq ?_
                refine TT.cond rfl (fun c35 => ?_) (fun c35 => ?_)
                ·
                  have c35 := of_decide_eq_true c35
                  obtain ⟨y, hyi⟩ := nth (l := ys) (i := i) (by omega)
                  have hmr := mod4_range y
                  refine TT.region ?_
                  refine OT.pures hT 2 rfl ?_
                  refine OT.index hT rfl rfl rfl rfl (by first | exact hy | exact hy.there | exact hy.there.there | exact hy.there.there.there | exact hy.there.there.there.there | exact hy.there.there.there.there.there | exact hy.there.there.there.there.there.there | exact hy.there.there.there.there.there.there.there) (by omega) hyi rfl (fun ad_38 hel_38 => ?_)
                  refine OT.load rfl rfl (hel_38.ld_one hT rfl rfl) rfl ?_
                  refine OT.pures hT 4 rfl ?_
                  refine OT.nil ?_
                  refine KT.cut (((IntKind.i64.wrap (y.tmod 4 + 4)).tmod 4).toNat) ?_ (SubR.cons rfl (SubR.cons rfl (SubR.cons rfl (SubR.cons rfl (SubR.cons rfl (SubR.cons' rfl (by (try dsimp only); exact (int_eq (by omega))) (SubR.nil _))))))) (by repeat (first | exact Sel.refl _ | refine Sel.empty ?_ | refine Sel.pull (by repeat (first | exact Pull.head | apply Pull.tail)) ?_ | refine Sel.drop ?_))
                  · omega
                ·
                  refine TT.skip ?_
                  refine KT.cut (0) ?_ (SubR.cons rfl (SubR.cons rfl (SubR.cons rfl (SubR.cons rfl (SubR.cons rfl (SubR.cons rfl (SubR.nil _))))))) (by repeat (first | exact Sel.refl _ | refine Sel.empty ?_ | refine Sel.pull (by repeat (first | exact Pull.head | apply Pull.tail)) ?_ | refine Sel.drop ?_))
                  · omega
              ·
                rintro k hk
                show TT _ _ _ [(0, .int .i64 n), (1, .slice ay ys.length cy), (6, .pointer (some ⟨b_6, 0, none⟩)), (7, .int .i64 (i : Nat)), (8, .int .i64 (i : Nat)), (9, .int .i64 (k : Nat))] ([(b_6, blk [.int .i64 (i : Nat), .slice a L.length c] 33 (0, 0))] :: K :: hs)
                obtain ⟨s, hsk⟩ := nth (l := L) (i := k) (by omega)
                obtain ⟨jd, hjd, hdrop⟩ := drop_some (n := (i : Int)) (List.mem_of_getElem? hsk)
                refine TT.draw (K :: hs) mixed ?_
                refine AT.takes (fuel := 10) hT [1, 3] (by kernel_rfl) (by kernel_rfl) rfl ?_
                refine AT.all (fuel := 9) [0, 2] (by kernel_rfl) (by decide) (by repeat (first | exact Sel.refl _ | refine Sel.empty ?_ | refine Sel.pull (by repeat (first | exact Pull.head | apply Pull.tail)) ?_ | refine Sel.drop ?_)) ?_
                intro i hi
                simp only [List.mem_cons, List.not_mem_nil, or_false] at hi
                rcases hi with rfl | rfl
                ·
                  refine ⟨_, rfl, ?_⟩
                  refine OT.load rfl rfl (Ld.struct_all hT rfl (by repeat (first | exact Has.one | apply Has.there)) rfl) rfl ?_
                  refine OT.nil ?_
                  refine KT.any ?_
                  refine AT.op (fuel := 8) 2 (by kernel_rfl) rfl (by repeat (first | exact Sel.refl _ | refine Sel.empty ?_ | refine Sel.pull (by repeat (first | exact Pull.head | apply Pull.tail)) ?_ | refine Sel.drop ?_)) ?_
                  refine OT.load rfl rfl (Ld.slc hT rfl (by repeat (first | exact Has.one | apply Has.there)) rfl) rfl ?_
                  refine OT.nil ?_
                  refine KT.any ?_
                  refine AT.index (fuel := 7) hT 4 rfl (by kernel_rfl) (by kernel_rfl) (by kernel_rfl) rfl rfl rfl rfl (by first | exact hO.row | exact hO.row.there | exact hO.row.there.there | exact hO.row.there.there.there | exact hO.row.there.there.there.there | exact hO.row.there.there.there.there.there | exact hO.row.there.there.there.there.there.there | exact hO.row.there.there.there.there.there.there.there) (by omega) hsk rfl (fun ad_48 hel_48 => ?_)
                  obtain ⟨eb_48, eo_48, rfl, hfld_48⟩ := hel_48.at (P := Try.prog)
                  refine AT.takes (fuel := 6) hT [5] (by kernel_rfl) (by kernel_rfl) rfl ?_
                  refine AT.take (fuel := 5) hT 6 rfl rfl (by kernel_rfl) (by kernel_rfl) (by kernel_rfl) rfl (.load rfl (hfld_48 hT rfl rfl)) rfl ?_
                  refine AT.op (fuel := 4) 7 (by kernel_rfl) rfl (by repeat (first | exact Sel.refl _ | refine Sel.empty ?_ | refine Sel.pull (by repeat (first | exact Pull.head | apply Pull.tail)) ?_ | refine Sel.drop ?_)) ?_
                  refine OT.call Try.call30 rfl rfl rfl rfl (cat_Drop (by first | exact hO.row | exact hO.row.there | exact hO.row.there.there | exact hO.row.there.there.there | exact hO.row.there.there.there.there | exact hO.row.there.there.there.there.there | exact hO.row.there.there.there.there.there.there | exact hO.row.there.there.there.there.there.there.there) (by omega)) ?_
                  rintro v_51 hs_51 ⟨w51, H51, rfl, rfl, ho51⟩
                  rw [hdrop] at ho51 ⊢
                  dsimp only at ho51 ⊢
                  obtain ⟨a51, c51, hv51⟩ := (ho51.row (hs := hs)).len
                  subst hv51
                  have hdl := drop_length hjd
                  refine OT.nil ?_
                  refine KT.any ?_
                  refine AT.takes (fuel := 1) hT [8, 9, 10] (by kernel_rfl) (by kernel_rfl) rfl ?_
                  refine AT.op (fuel := 0) 11 (by kernel_rfl) rfl (by repeat (first | exact Sel.refl _ | refine Sel.empty ?_ | refine Sel.pull (by repeat (first | exact Pull.head | apply Pull.tail)) ?_ | refine Sel.drop ?_)) ?_
                  refine OT.store_all hT rfl rfl rfl rfl (by repeat (first | exact Pull.head | apply Pull.tail)) rfl rfl rfl (.inl (Nat.le_refl _)) ?_
                  refine OT.nil ?_
                  refine KT.any ?_
                  refine AT.done (by kernel_rfl) (by repeat (first | exact Sel.refl _ | refine Sel.empty ?_ | refine Sel.pull (by repeat (first | exact Pull.head | apply Pull.tail)) ?_ | refine Sel.drop ?_)) ?_
                  refine KT.cut (a51, (L.take jd ++ L.drop (jd + 1)).length, c51, L.take jd ++ L.drop (jd + 1), H51) ?_ (SubR.cons rfl (SubR.cons rfl (SubR.cons rfl (SubR.cons rfl (SubR.cons rfl (SubR.nil _)))))) (by repeat (first | exact Sel.refl _ | refine Sel.empty ?_ | refine Sel.pull (by repeat (first | exact Pull.head | apply Pull.tail)) ?_ | refine Sel.drop ?_))
                  · dsimp only
                    exact ⟨rfl, by omega, good_drop hG jd, ho51⟩
                ·
                  refine ⟨_, rfl, ?_⟩
                  refine OT.load rfl rfl (Ld.slc hT rfl (by repeat (first | exact Has.one | apply Has.there)) rfl) rfl ?_
                  refine OT.nil ?_
                  refine KT.any ?_
                  refine AT.index (fuel := 8) hT 4 rfl (by kernel_rfl) (by kernel_rfl) (by kernel_rfl) rfl rfl rfl rfl (by first | exact hO.row | exact hO.row.there | exact hO.row.there.there | exact hO.row.there.there.there | exact hO.row.there.there.there.there | exact hO.row.there.there.there.there.there | exact hO.row.there.there.there.there.there.there | exact hO.row.there.there.there.there.there.there.there) (by omega) hsk rfl (fun ad_48 hel_48 => ?_)
                  obtain ⟨eb_48, eo_48, rfl, hfld_48⟩ := hel_48.at (P := Try.prog)
                  refine AT.takes (fuel := 7) hT [5] (by kernel_rfl) (by kernel_rfl) rfl ?_
                  refine AT.take (fuel := 6) hT 6 rfl rfl (by kernel_rfl) (by kernel_rfl) (by kernel_rfl) rfl (.load rfl (hfld_48 hT rfl rfl)) rfl ?_
                  refine AT.op (fuel := 5) 0 (by kernel_rfl) rfl (by repeat (first | exact Sel.refl _ | refine Sel.empty ?_ | refine Sel.pull (by repeat (first | exact Pull.head | apply Pull.tail)) ?_ | refine Sel.drop ?_)) ?_
                  refine OT.load rfl rfl (Ld.struct_all hT rfl (by repeat (first | exact Has.one | apply Has.there)) rfl) rfl ?_
                  refine OT.nil ?_
                  refine KT.any ?_
                  refine AT.op (fuel := 4) 7 (by kernel_rfl) rfl (by repeat (first | exact Sel.refl _ | refine Sel.empty ?_ | refine Sel.pull (by repeat (first | exact Pull.head | apply Pull.tail)) ?_ | refine Sel.drop ?_)) ?_
                  refine OT.call Try.call30 rfl rfl rfl rfl (cat_Drop (by first | exact hO.row | exact hO.row.there | exact hO.row.there.there | exact hO.row.there.there.there | exact hO.row.there.there.there.there | exact hO.row.there.there.there.there.there | exact hO.row.there.there.there.there.there.there | exact hO.row.there.there.there.there.there.there.there) (by omega)) ?_
                  rintro v_51 hs_51 ⟨w51, H51, rfl, rfl, ho51⟩
                  rw [hdrop] at ho51 ⊢
                  dsimp only at ho51 ⊢
                  obtain ⟨a51, c51, hv51⟩ := (ho51.row (hs := hs)).len
                  subst hv51
                  have hdl := drop_length hjd
                  refine OT.nil ?_
                  refine KT.any ?_
                  refine AT.takes (fuel := 1) hT [8, 9, 10] (by kernel_rfl) (by kernel_rfl) rfl ?_
                  refine AT.op (fuel := 0) 11 (by kernel_rfl) rfl (by repeat (first | exact Sel.refl _ | refine Sel.empty ?_ | refine Sel.pull (by repeat (first | exact Pull.head | apply Pull.tail)) ?_ | refine Sel.drop ?_)) ?_
                  refine OT.store_all hT rfl rfl rfl rfl (by repeat (first | exact Pull.head | apply Pull.tail)) rfl rfl rfl (.inl (Nat.le_refl _)) ?_
                  refine OT.nil ?_
                  refine KT.any ?_
                  refine AT.done (by kernel_rfl) (by repeat (first | exact Sel.refl _ | refine Sel.empty ?_ | refine Sel.pull (by repeat (first | exact Pull.head | apply Pull.tail)) ?_ | refine Sel.drop ?_)) ?_
                  refine KT.cut (a51, (L.take jd ++ L.drop (jd + 1)).length, c51, L.take jd ++ L.drop (jd + 1), H51) ?_ (SubR.cons rfl (SubR.cons rfl (SubR.cons rfl (SubR.cons rfl (SubR.cons rfl (SubR.nil _)))))) (by repeat (first | exact Sel.refl _ | refine Sel.empty ?_ | refine Sel.pull (by repeat (first | exact Pull.head | apply Pull.tail)) ?_ | refine Sel.drop ?_))
                  · dsimp only
                    exact ⟨rfl, by omega, good_drop hG jd, ho51⟩
            ·
              have c31 : ¬ L.length = 4 := by
                have h4 : ¬ (L.length : Int) = 4 := by simpa using c31
                omega
              refine TT.skip ?_
              refine KT.cut (a, L.length, c, L, K) ?_ (SubR.cons rfl (SubR.cons rfl (SubR.cons rfl (SubR.cons rfl (SubR.cons rfl (SubR.nil _)))))) (by repeat (first | exact Sel.refl _ | refine Sel.empty ?_ | refine Sel.pull (by repeat (first | exact Pull.head | apply Pull.tail)) ?_ | refine Sel.drop ?_))
              · dsimp only
                exact ⟨rfl, by omega, hG, hO⟩
          ·
            rintro ⟨a2, l2, c2, L2, K2⟩ hI
            dsimp only at hI
            obtain ⟨hl2, hL24, hG2, hO2⟩ := hI
            show TT _ _ _ [(0, .int .i64 n), (1, .slice ay ys.length cy), (6, .pointer (some ⟨b_6, 0, none⟩)), (7, .int .i64 (i : Nat)), (8, .int .i64 (i : Nat))] ([(b_6, blk [.int .i64 (i : Nat), .slice a2 l2 c2] 33 (0, 0))] :: K2 :: hs)
            subst hl2
            obtain ⟨hadd, hG3⟩ := add_good hG2 (by omega) (by omega)
            refine TT.seq ?_
            refine TT.region ?_
            refine OT.load rfl rfl (Ld.struct_all hT rfl (by repeat (first | exact Has.one | apply Has.there)) rfl) rfl ?_
            refine OT.pures hT 8 rfl ?_
            refine OT.buildSlice (enc := Go.Sx.encB) (xs := [b8 (97 + ((i % 26 : Nat) : Int)), b8 (97 + ((i / 26 : Nat) : Int))]) (xos := [.tmp 59, .tmp 63]) el29 rfl rfl rfl rfl (by rw [show (i : Int).tmod 26 = ((i % 26 : Nat) : Int) by rw [Int.tmod_eq_emod_of_nonneg (by omega)]; omega, show (i : Int).tdiv 26 = ((i / 26 : Nat) : Int) by rw [Int.tdiv_eq_ediv_of_nonneg (by omega)]; omega]; rw [wrap_i64 (n := ((i / 26 : Nat) : Int)) (by omega) (by omega), wrap_i64 (n := 97 + ((i / 26 : Nat) : Int)) (by omega) (by omega), wrap_i64 (n := 97 + ((i % 26 : Nat) : Int)) (by omega) (by omega), b8_wrap, b8_wrap]; rfl) (by simp [Value.cells]) (fun _ _ => rfl) rfl (by decide) rfl (fun v_64 H_64 ho_64 => ?_)
            refine OT.conv_bs (fun _ => rfl) hT rfl rfl rfl rfl rfl ho_64.row rfl ?_
            refine OT.call Try.call31 rfl rfl rfl rfl (cat_Add (next := (i : Int)) (xs := L2) (nm := nmAt i) (by first | exact hO2.row | exact hO2.row.there | exact hO2.row.there.there | exact hO2.row.there.there.there | exact hO2.row.there.there.there.there | exact hO2.row.there.there.there.there.there | exact hO2.row.there.there.there.there.there.there | exact hO2.row.there.there.there.there.there.there.there) (by omega) (by omega)) ?_
            rintro v_66 hs_66 ⟨w66, H66, rfl, rfl, ho66⟩
            rw [hadd] at ho66 ⊢
            dsimp only at ho66 ⊢
            obtain ⟨a66, c66, hv66⟩ := (ho66.row (hs := hs)).len
            subst hv66
            have hl66 : (L2 ++ [newSnap (nmAt i) ((i + 1 : Nat) : Int)]).length = L2.length + 1 := by simp
            refine OT.pures hT 3 rfl ?_
            refine OT.store_all hT rfl rfl rfl rfl (by repeat (first | exact Pull.head | apply Pull.tail)) rfl rfl rfl (.inl (Nat.le_refl _)) ?_
            refine OT.nil ?_
            refine KT.seq ?_
            refine TT.seq ?_
            refine TT.region ?_
            refine OT.pures hT 1 rfl ?_
            refine OT.load rfl rfl (Ld.slc hT rfl (by repeat (first | exact Has.one | apply Has.there)) rfl) rfl ?_
            refine OT.pures hT 2 rfl ?_
            refine OT.nil ?_
            refine KT.seq ?_
            refine TT.seq ?_
            refine TT.seq ?_
            refine TT.region ?_
            refine OT.pures hT 3 rfl ?_
            refine OT.split 74 rfl (fun g74 => ?_) (fun g74 => ?_)
            ·
              exfalso; have g74 : ((L2 ++ [newSnap (nmAt i) ((i + 1 : Nat) : Int)]).length : Int) = 0 := by simpa using g74
              omega
            ·
              refine OT.pures hT 1 rfl ?_
              refine OT.load rfl rfl (Ld.slc hT rfl (by repeat (first | exact Has.one | apply Has.there)) rfl) rfl ?_
              refine OT.pures hT 2 rfl ?_
              refine OT.index hT rfl rfl rfl rfl (by first | exact ho66.row | exact ho66.row.there | exact ho66.row.there.there | exact ho66.row.there.there.there | exact ho66.row.there.there.there.there | exact ho66.row.there.there.there.there.there | exact ho66.row.there.there.there.there.there.there | exact ho66.row.there.there.there.there.there.there.there) (by rw [hl66, wrap_i64 (by omega) (by omega)]; omega) (by rw [hl66, wrap_i64 (by omega) (by omega), show (((L2.length + 1 : Nat) : Int) - 1).toNat = L2.length by omega]; exact last_at) rfl (fun ad_79 hel_79 => ?_)
              obtain ⟨eb_79, eo_79, rfl, hfld_79⟩ := hel_79.at (P := Try.prog)
              refine OT.pures hT 1 rfl ?_
              refine OT.load rfl rfl (hfld_79 hT rfl (j := 1) rfl) rfl ?_
              refine OT.pures hT 5 rfl ?_
              refine OT.split 86 rfl (fun g86 => ?_) (fun g86 => ?_)
              ·
                exfalso; rw [wrap_i64 (by omega) (by omega)] at g86; exact absurd g86 (by simp [newSnap])
              ·
                refine OT.pures hT 1 rfl ?_
                refine OT.load rfl rfl (Ld.one hT rfl (by repeat (first | exact Has.one | apply Has.there)) rfl) rfl ?_
                refine OT.pures hT 4 rfl ?_
                refine OT.nil ?_
                refine KT.seq ?_
                refine TT.cond rfl (fun c92 => ?_) (fun c92 => ?_)
                ·
                  exfalso; rw [wrap_i64 (by omega) (by omega)] at c92; exact absurd c92 (by simp)
                ·
                  refine TT.skip ?_
                  refine KT.seq ?_
                  refine TT.seq ?_
                  refine TT.region ?_
                  refine OT.pures hT 3 rfl ?_
                  refine OT.nil ?_
                  refine KT.seq ?_
                  refine TT.seq ?_
                  refine TT.region ?_
                  refine OT.pures hT 1 rfl ?_
                  refine OT.nil ?_
                  refine KT.seq ?_
                  refine TT.block ?_
                  refine TT.loop (ι := Nat) (fun j => 1 ≤ (j) ∧ (j) ≤ L2.length + 1) (fun j => L2.length + 1 - (j)) (fun j => [(0, .int .i64 n), (1, .slice ay ys.length cy), (6, .pointer (some ⟨b_6, 0, none⟩)), (7, .int .i64 ((i + 1 : Nat) : Int)), (8, .int .i64 (i : Nat)), (10, .int .i64 (L2 ++ [newSnap (nmAt i) ((i + 1 : Nat) : Int)]).length), (11, .int .i64 ((j) : Nat))]) (fun j => [(b_6, blk [.int .i64 ((i + 1 : Nat) : Int), .slice a66 (L2 ++ [newSnap (nmAt i) ((i + 1 : Nat) : Int)]).length c66] 33 (0, 0))] :: H66 :: hs) (1) ?_ (SubR.cons rfl (SubR.cons rfl (SubR.cons rfl (SubR.cons' rfl (by (try dsimp only); exact (int_eq (by rw [wrap_i64 (by omega) (by omega)]; omega))) (SubR.cons rfl (SubR.cons rfl (SubR.cons rfl (SubR.nil _)))))))) (by repeat (first | exact Sel.refl _ | refine Sel.empty ?_ | refine Sel.pull (by repeat (first | exact Pull.head | apply Pull.tail)) ?_ | refine Sel.drop ?_)) ?_
                  · omega
                  rintro q ⟨hq1, hq2⟩
                  show TT _ _ _ [(0, .int .i64 n), (1, .slice ay ys.length cy), (6, .pointer (some ⟨b_6, 0, none⟩)), (7, .int .i64 ((i + 1 : Nat) : Int)), (8, .int .i64 (i : Nat)), (10, .int .i64 (L2 ++ [newSnap (nmAt i) ((i + 1 : Nat) : Int)]).length), (11, .int .i64 (q : Nat))] ([(b_6, blk [.int .i64 ((i + 1 : Nat) : Int), .slice a66 (L2 ++ [newSnap (nmAt i) ((i + 1 : Nat) : Int)]).length c66] 33 (0, 0))] :: H66 :: hs)
                  refine TT.seq ?_
                  refine TT.seq ?_
                  refine TT.region ?_
                  refine OT.pures hT 3 rfl ?_
                  refine OT.nil ?_
                  refine KT.seq ?_
                  refine TT.cond rfl (fun c97 => ?_) (fun c97 => ?_)
                  ·
                    have c97 := of_decide_eq_true c97
                    obtain ⟨sa, hsa⟩ := nth (l := L2 ++ [newSnap (nmAt i) ((i + 1 : Nat) : Int)]) (i := q - 1) (by omega)
                    obtain ⟨sb, hsb⟩ := nth (l := L2 ++ [newSnap (nmAt i) ((i + 1 : Nat) : Int)]) (i := q) (by omega)
                    have hasc := good_asc hG3 hsa (by rw [show q - 1 + 1 = q by omega]; exact hsb)
                    refine TT.skip ?_
                    refine KT.seq ?_
                    refine TT.seq ?_
                    refine TT.block ?_
                    refine TT.seq ?_
                    refine TT.draw ([(b_6, blk [.int .i64 ((i + 1 : Nat) : Int), .slice a66 (L2 ++ [newSnap (nmAt i) ((i + 1 : Nat) : Int)]).length c66] 33 (0, 0))] :: H66 :: hs) mixed ?_
                    refine AT.takes (fuel := 9) hT [0, 2, 6, 8, 9] (by kernel_rfl) (by kernel_rfl) rfl ?_
                    refine AT.take (fuel := 8) hT 1 rfl rfl (by kernel_rfl) (by kernel_rfl) (by kernel_rfl) rfl (.load rfl (Ld.slc hT rfl (by repeat (first | exact Has.one | apply Has.there)) rfl)) rfl ?_
                    refine AT.take (fuel := 7) hT 7 rfl rfl (by kernel_rfl) (by kernel_rfl) (by kernel_rfl) rfl (.load rfl (Ld.slc hT rfl (by repeat (first | exact Has.one | apply Has.there)) rfl)) rfl ?_
                    refine AT.index (fuel := 6) hT 3 rfl (by kernel_rfl) (by kernel_rfl) (by kernel_rfl) rfl rfl rfl rfl (by first | exact ho66.row | exact ho66.row.there | exact ho66.row.there.there | exact ho66.row.there.there.there | exact ho66.row.there.there.there.there | exact ho66.row.there.there.there.there.there | exact ho66.row.there.there.there.there.there.there | exact ho66.row.there.there.there.there.there.there.there) (by omega) hsb rfl (fun ad_103 hel_103 => ?_)
                    obtain ⟨eb_103, eo_103, rfl, hfld_103⟩ := hel_103.at (P := Try.prog)
                    refine AT.takes (fuel := 5) hT [4] (by kernel_rfl) (by kernel_rfl) rfl ?_
                    refine AT.take (fuel := 4) hT 5 rfl rfl (by kernel_rfl) (by kernel_rfl) (by kernel_rfl) rfl (.load rfl (hfld_103 hT rfl rfl)) rfl ?_
                    refine AT.index (fuel := 3) hT 10 rfl (by kernel_rfl) (by kernel_rfl) (by kernel_rfl) rfl rfl rfl rfl (by first | exact ho66.row | exact ho66.row.there | exact ho66.row.there.there | exact ho66.row.there.there.there | exact ho66.row.there.there.there.there | exact ho66.row.there.there.there.there.there | exact ho66.row.there.there.there.there.there.there | exact ho66.row.there.there.there.there.there.there.there) (by rw [wrap_i64 (by omega) (by omega)]; omega) (by rw [wrap_i64 (by omega) (by omega), show ((q : Int) - 1).toNat = q - 1 by omega]; exact hsa) rfl (fun ad_110 hel_110 => ?_)
                    obtain ⟨eb_110, eo_110, rfl, hfld_110⟩ := hel_110.at (P := Try.prog)
                    refine AT.takes (fuel := 2) hT [11] (by kernel_rfl) (by kernel_rfl) rfl ?_
                    refine AT.take (fuel := 1) hT 12 rfl rfl (by kernel_rfl) (by kernel_rfl) (by kernel_rfl) rfl (.load rfl (hfld_110 hT rfl rfl)) rfl ?_
                    refine AT.takes (fuel := 0) hT [13] (by kernel_rfl) (by kernel_rfl) rfl ?_
                    refine AT.done (by kernel_rfl) (by repeat (first | exact Sel.refl _ | refine Sel.empty ?_ | refine Sel.pull (by repeat (first | exact Pull.head | apply Pull.tail)) ?_ | refine Sel.drop ?_)) ?_
                    refine KT.seq ?_
                    refine TT.cond rfl (fun c113 => ?_) (fun c113 => ?_)
                    ·
                      exact absurd (of_decide_eq_true c113) hasc
                    ·
                      refine TT.skip ?_
                      refine KT.blk ?_
                      refine KT.seq ?_
                      refine TT.region ?_
                      refine OT.pures hT 3 rfl ?_
                      refine OT.nil ?_
                      refine KT.loop (q + 1) ?_ ?_ (SubR.cons rfl (SubR.cons rfl (SubR.cons rfl (SubR.cons rfl (SubR.cons rfl (SubR.cons rfl (SubR.cons' rfl (by (try dsimp only); exact (int_eq (by rw [wrap_i64 (by omega) (by omega)]; omega))) (SubR.nil _)))))))) (by repeat (first | exact Sel.refl _ | refine Sel.empty ?_ | refine Sel.pull (by repeat (first | exact Pull.head | apply Pull.tail)) ?_ | refine Sel.drop ?_))
                      · omega
                      · omega
                  ·
                    have c97 := of_decide_eq_false c97
                    refine TT.exit ?_
                    refine XT.seq ?_
                    refine XT.loop ?_
                    refine XT.here ?_
                    refine KT.blk ?_
                    refine KT.seq ?_
                    refine TT.region ?_
                    refine OT.pures hT 3 rfl ?_
                    refine OT.nil ?_
                    refine KT.loop (i + 1, a66, (L2 ++ [newSnap (nmAt i) ((i + 1 : Nat) : Int)]).length, c66, L2 ++ [newSnap (nmAt i) ((i + 1 : Nat) : Int)], H66) ?_ ?_ (SubR.cons rfl (SubR.cons rfl (SubR.cons rfl (SubR.cons rfl (SubR.cons' rfl (by (try dsimp only); exact (int_eq (by rw [wrap_i64 (by omega) (by omega)]; omega))) (SubR.nil _)))))) (by repeat (first | exact Sel.refl _ | refine Sel.empty ?_ | refine Sel.pull (by repeat (first | exact Pull.head | apply Pull.tail)) ?_ | refine Sel.drop ?_))
                    · dsimp only
                      exact ⟨by omega, rfl, by rw [List.length_append]; simp only [List.length_cons, List.length_nil]; omega, hG3, ho66⟩
                    · dsimp only
                      omega
        ·
          have c25 := of_decide_eq_false c25
          refine TT.exit ?_
          refine XT.seq ?_
          refine XT.loop ?_
          refine XT.here ?_
          refine KT.seq ?_
          refine TT.seq ?_
          refine TT.region ?_
          refine OT.load rfl rfl (Ld.struct_all hT rfl (by repeat (first | exact Has.one | apply Has.there)) rfl) rfl ?_
          refine OT.call Try.call13 rfl rfl rfl rfl (cat_Encode (by first | exact hO.row | exact hO.row.there | exact hO.row.there.there | exact hO.row.there.there.there | exact hO.row.there.there.there.there | exact hO.row.there.there.there.there.there | exact hO.row.there.there.there.there.there.there | exact hO.row.there.there.there.there.there.there.there) (by omega)) ?_
          rintro v_116 hs_116 ⟨w116, H116, rfl, rfl, ho116⟩
          refine OT.pures hT 5 rfl ?_
          refine OT.nil ?_
          refine KT.seq ?_
          refine TT.seq ?_
          refine TT.draw ([(b_6, blk [.int .i64 (i : Nat), .slice a L.length c] 33 (0, 0))] :: H116 :: K :: hs) mixed ?_
          refine AT.takes (fuel := 13) hT [0, 3, 4] (by kernel_rfl) (by kernel_rfl) rfl ?_
          refine AT.take (fuel := 12) hT 1 rfl rfl (by kernel_rfl) (by kernel_rfl) (by kernel_rfl) rfl (.load rfl (Ld.slc hT rfl (by repeat (first | exact Has.one | apply Has.there)) rfl)) rfl ?_
          refine AT.takes (fuel := 9) hT [2, 5, 6] (by kernel_rfl) (by kernel_rfl) rfl ?_
          refine AT.split 125 rfl (fun g125 => ?_) (fun g125 => ?_)
          ·
            refine AT.takes (fuel := 8) hT [7] (by kernel_rfl) (by kernel_rfl) rfl ?_
            refine AT.take (fuel := 7) hT 9 rfl rfl (by kernel_rfl) (by kernel_rfl) (by kernel_rfl) rfl (.load rfl (Ld.struct_all hT rfl (by repeat (first | exact Has.one | apply Has.there)) rfl)) rfl ?_
            refine AT.all (fuel := 6) [8, 10] (by kernel_rfl) (by decide) (by repeat (first | exact Sel.refl _ | refine Sel.empty ?_ | refine Sel.pull (by repeat (first | exact Pull.head | apply Pull.tail)) ?_ | refine Sel.drop ?_)) ?_
            intro i hi
            simp only [List.mem_cons, List.not_mem_nil, or_false] at hi
            rcases hi with rfl | rfl
            ·
              refine ⟨_, rfl, ?_⟩
              refine OT.conv_bs (fun _ => rfl) hT rfl rfl rfl rfl rfl (by first | exact ho116.row | exact ho116.row.there | exact ho116.row.there.there | exact ho116.row.there.there.there | exact ho116.row.there.there.there.there | exact ho116.row.there.there.there.there.there | exact ho116.row.there.there.there.there.there.there | exact ho116.row.there.there.there.there.there.there.there) rfl ?_
              refine OT.nil ?_
              refine KT.any ?_
              refine AT.op (fuel := 5) 10 (by kernel_rfl) rfl (by repeat (first | exact Sel.refl _ | refine Sel.empty ?_ | refine Sel.pull (by repeat (first | exact Pull.head | apply Pull.tail)) ?_ | refine Sel.drop ?_)) ?_
              refine OT.call Try.call25 rfl rfl rfl rfl (law20_Back) ?_
              rintro v_129 hs_129 ⟨rfl, rfl⟩
              refine OT.nil ?_
              refine KT.any ?_
              refine AT.op (fuel := 4) 11 (by kernel_rfl) rfl (by repeat (first | exact Sel.refl _ | refine Sel.empty ?_ | refine Sel.pull (by repeat (first | exact Pull.head | apply Pull.tail)) ?_ | refine Sel.drop ?_)) ?_
              refine OT.call Try.call16 rfl rfl rfl rfl (ref_CatBytes (by first | exact hO.row | exact hO.row.there | exact hO.row.there.there | exact hO.row.there.there.there | exact hO.row.there.there.there.there | exact hO.row.there.there.there.there.there | exact hO.row.there.there.there.there.there.there | exact hO.row.there.there.there.there.there.there.there) (by omega)) ?_
              rintro v_130 hs_130 ⟨H130, rfl, ho130⟩
              refine OT.nil ?_
              refine KT.any ?_
              refine AT.op (fuel := 3) 12 (by kernel_rfl) rfl (by repeat (first | exact Sel.refl _ | refine Sel.empty ?_ | refine Sel.pull (by repeat (first | exact Pull.head | apply Pull.tail)) ?_ | refine Sel.drop ?_)) ?_
              refine OT.conv_bs (fun _ => rfl) hT rfl rfl rfl rfl rfl (by first | exact ho130.row | exact ho130.row.there | exact ho130.row.there.there | exact ho130.row.there.there.there | exact ho130.row.there.there.there.there | exact ho130.row.there.there.there.there.there | exact ho130.row.there.there.there.there.there.there | exact ho130.row.there.there.there.there.there.there.there) rfl ?_
              rw [bytes_eq (fun s hs => (hG.each s hs).2.2.2)]
              refine OT.nil ?_
              refine KT.any ?_
              refine AT.takes (fuel := 0) hT [13, 14, 15] (by kernel_rfl) (by kernel_rfl) rfl ?_
              refine AT.done (by kernel_rfl) (by repeat (first | exact Sel.refl _ | refine Sel.empty ?_ | refine Sel.pull (by repeat (first | exact Pull.head | apply Pull.tail)) ?_ | refine Sel.drop ?_)) ?_
              refine KT.seq ?_
              refine TT.ret ?_
              refine RT.of (rs := [.tmp 4]) [_] hs rfl (.tmp rfl .nil) (by repeat (first | exact Sel.refl _ | refine Sel.empty ?_ | refine Sel.pull (by repeat (first | exact Pull.head | apply Pull.tail)) ?_ | refine Sel.drop ?_)) ?_
              dsimp only [one]
              exact ⟨by simp; rfl, rfl⟩
            ·
              refine ⟨_, rfl, ?_⟩
              refine OT.call Try.call25 rfl rfl rfl rfl (law20_Back) ?_
              rintro v_129 hs_129 ⟨rfl, rfl⟩
              refine OT.nil ?_
              refine KT.any ?_
              refine AT.all (fuel := 5) [8, 11] (by kernel_rfl) (by decide) (by repeat (first | exact Sel.refl _ | refine Sel.empty ?_ | refine Sel.pull (by repeat (first | exact Pull.head | apply Pull.tail)) ?_ | refine Sel.drop ?_)) ?_
              intro i hi
              simp only [List.mem_cons, List.not_mem_nil, or_false] at hi
              rcases hi with rfl | rfl
              ·
                refine ⟨_, rfl, ?_⟩
                refine OT.conv_bs (fun _ => rfl) hT rfl rfl rfl rfl rfl (by first | exact ho116.row | exact ho116.row.there | exact ho116.row.there.there | exact ho116.row.there.there.there | exact ho116.row.there.there.there.there | exact ho116.row.there.there.there.there.there | exact ho116.row.there.there.there.there.there.there | exact ho116.row.there.there.there.there.there.there.there) rfl ?_
                refine OT.nil ?_
                refine KT.any ?_
                refine AT.op (fuel := 4) 11 (by kernel_rfl) rfl (by repeat (first | exact Sel.refl _ | refine Sel.empty ?_ | refine Sel.pull (by repeat (first | exact Pull.head | apply Pull.tail)) ?_ | refine Sel.drop ?_)) ?_
                refine OT.call Try.call16 rfl rfl rfl rfl (ref_CatBytes (by first | exact hO.row | exact hO.row.there | exact hO.row.there.there | exact hO.row.there.there.there | exact hO.row.there.there.there.there | exact hO.row.there.there.there.there.there | exact hO.row.there.there.there.there.there.there | exact hO.row.there.there.there.there.there.there.there) (by omega)) ?_
                rintro v_130 hs_130 ⟨H130, rfl, ho130⟩
                refine OT.nil ?_
                refine KT.any ?_
                refine AT.op (fuel := 3) 12 (by kernel_rfl) rfl (by repeat (first | exact Sel.refl _ | refine Sel.empty ?_ | refine Sel.pull (by repeat (first | exact Pull.head | apply Pull.tail)) ?_ | refine Sel.drop ?_)) ?_
                refine OT.conv_bs (fun _ => rfl) hT rfl rfl rfl rfl rfl (by first | exact ho130.row | exact ho130.row.there | exact ho130.row.there.there | exact ho130.row.there.there.there | exact ho130.row.there.there.there.there | exact ho130.row.there.there.there.there.there | exact ho130.row.there.there.there.there.there.there | exact ho130.row.there.there.there.there.there.there.there) rfl ?_
                rw [bytes_eq (fun s hs => (hG.each s hs).2.2.2)]
                refine OT.nil ?_
                refine KT.any ?_
                refine AT.takes (fuel := 0) hT [13, 14, 15] (by kernel_rfl) (by kernel_rfl) rfl ?_
                refine AT.done (by kernel_rfl) (by repeat (first | exact Sel.refl _ | refine Sel.empty ?_ | refine Sel.pull (by repeat (first | exact Pull.head | apply Pull.tail)) ?_ | refine Sel.drop ?_)) ?_
                refine KT.seq ?_
                refine TT.ret ?_
                refine RT.of (rs := [.tmp 4]) [_] hs rfl (.tmp rfl .nil) (by repeat (first | exact Sel.refl _ | refine Sel.empty ?_ | refine Sel.pull (by repeat (first | exact Pull.head | apply Pull.tail)) ?_ | refine Sel.drop ?_)) ?_
                dsimp only [one]
                exact ⟨by simp; rfl, rfl⟩
              ·
                refine ⟨_, rfl, ?_⟩
                refine OT.call Try.call16 rfl rfl rfl rfl (ref_CatBytes (by first | exact hO.row | exact hO.row.there | exact hO.row.there.there | exact hO.row.there.there.there | exact hO.row.there.there.there.there | exact hO.row.there.there.there.there.there | exact hO.row.there.there.there.there.there.there | exact hO.row.there.there.there.there.there.there.there) (by omega)) ?_
                rintro v_130 hs_130 ⟨H130, rfl, ho130⟩
                refine OT.nil ?_
                refine KT.any ?_
                refine AT.all (fuel := 4) [8, 12] (by kernel_rfl) (by decide) (by repeat (first | exact Sel.refl _ | refine Sel.empty ?_ | refine Sel.pull (by repeat (first | exact Pull.head | apply Pull.tail)) ?_ | refine Sel.drop ?_)) ?_
                intro i hi
                simp only [List.mem_cons, List.not_mem_nil, or_false] at hi
                rcases hi with rfl | rfl
                ·
                  refine ⟨_, rfl, ?_⟩
                  refine OT.conv_bs (fun _ => rfl) hT rfl rfl rfl rfl rfl (by first | exact ho116.row | exact ho116.row.there | exact ho116.row.there.there | exact ho116.row.there.there.there | exact ho116.row.there.there.there.there | exact ho116.row.there.there.there.there.there | exact ho116.row.there.there.there.there.there.there | exact ho116.row.there.there.there.there.there.there.there) rfl ?_
                  refine OT.nil ?_
                  refine KT.any ?_
                  refine AT.op (fuel := 3) 12 (by kernel_rfl) rfl (by repeat (first | exact Sel.refl _ | refine Sel.empty ?_ | refine Sel.pull (by repeat (first | exact Pull.head | apply Pull.tail)) ?_ | refine Sel.drop ?_)) ?_
                  refine OT.conv_bs (fun _ => rfl) hT rfl rfl rfl rfl rfl (by first | exact ho130.row | exact ho130.row.there | exact ho130.row.there.there | exact ho130.row.there.there.there | exact ho130.row.there.there.there.there | exact ho130.row.there.there.there.there.there | exact ho130.row.there.there.there.there.there.there | exact ho130.row.there.there.there.there.there.there.there) rfl ?_
                  rw [bytes_eq (fun s hs => (hG.each s hs).2.2.2)]
                  refine OT.nil ?_
                  refine KT.any ?_
                  refine AT.takes (fuel := 0) hT [13, 14, 15] (by kernel_rfl) (by kernel_rfl) rfl ?_
                  refine AT.done (by kernel_rfl) (by repeat (first | exact Sel.refl _ | refine Sel.empty ?_ | refine Sel.pull (by repeat (first | exact Pull.head | apply Pull.tail)) ?_ | refine Sel.drop ?_)) ?_
                  refine KT.seq ?_
                  refine TT.ret ?_
                  refine RT.of (rs := [.tmp 4]) [_] hs rfl (.tmp rfl .nil) (by repeat (first | exact Sel.refl _ | refine Sel.empty ?_ | refine Sel.pull (by repeat (first | exact Pull.head | apply Pull.tail)) ?_ | refine Sel.drop ?_)) ?_
                  dsimp only [one]
                  exact ⟨by simp; rfl, rfl⟩
                ·
                  refine ⟨_, rfl, ?_⟩
                  refine OT.conv_bs (fun _ => rfl) hT rfl rfl rfl rfl rfl (by first | exact ho130.row | exact ho130.row.there | exact ho130.row.there.there | exact ho130.row.there.there.there | exact ho130.row.there.there.there.there | exact ho130.row.there.there.there.there.there | exact ho130.row.there.there.there.there.there.there | exact ho130.row.there.there.there.there.there.there.there) rfl ?_
                  rw [bytes_eq (fun s hs => (hG.each s hs).2.2.2)]
                  refine OT.nil ?_
                  refine KT.any ?_
                  refine AT.op (fuel := 3) 8 (by kernel_rfl) rfl (by repeat (first | exact Sel.refl _ | refine Sel.empty ?_ | refine Sel.pull (by repeat (first | exact Pull.head | apply Pull.tail)) ?_ | refine Sel.drop ?_)) ?_
                  refine OT.conv_bs (fun _ => rfl) hT rfl rfl rfl rfl rfl (by first | exact ho116.row | exact ho116.row.there | exact ho116.row.there.there | exact ho116.row.there.there.there | exact ho116.row.there.there.there.there | exact ho116.row.there.there.there.there.there | exact ho116.row.there.there.there.there.there.there | exact ho116.row.there.there.there.there.there.there.there) rfl ?_
                  refine OT.nil ?_
                  refine KT.any ?_
                  refine AT.takes (fuel := 0) hT [13, 14, 15] (by kernel_rfl) (by kernel_rfl) rfl ?_
                  refine AT.done (by kernel_rfl) (by repeat (first | exact Sel.refl _ | refine Sel.empty ?_ | refine Sel.pull (by repeat (first | exact Pull.head | apply Pull.tail)) ?_ | refine Sel.drop ?_)) ?_
                  refine KT.seq ?_
                  refine TT.ret ?_
                  refine RT.of (rs := [.tmp 4]) [_] hs rfl (.tmp rfl .nil) (by repeat (first | exact Sel.refl _ | refine Sel.empty ?_ | refine Sel.pull (by repeat (first | exact Pull.head | apply Pull.tail)) ?_ | refine Sel.drop ?_)) ?_
                  dsimp only [one]
                  exact ⟨by simp; rfl, rfl⟩
          ·
            exfalso; have e : (L.length : Int) = min n 4 := by omega
            rw [e] at g125; exact absurd g125 (by simp)

end Go.Proofs.Ytpijialhhdpobaa.Sx
