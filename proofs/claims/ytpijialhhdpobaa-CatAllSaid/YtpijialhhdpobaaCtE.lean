/- What the document's MayCat and CatBytes compute. Printed by a program of ours off the loaded program and our notes; Lean checks it. -/
import Derived.Test.YtpijialhhdpobaaPlC
import Derived.Test.YtpijialhhdpobaaSxT
import Derived.Test.YtpijialhhdpobaaCtC
namespace Go.Proofs.Ytpijialhhdpobaa.Sx
open Go Go.Sx Go.Pl
variable [Outer]

omit [Outer] in
theorem z65 : ∀ w, (zeroValue 65).run Try.prog w = .ok (.agg ⟨Lb (List.replicate 96 false)⟩) w := by
  intro w
  have e : Try.zeroCells65 = ⟨Lb (List.replicate 96 false)⟩ := by kernel_rfl
  rw [← e]
  exact Try.zeroValue65 w

set_option maxHeartbeats 4000000 in
set_option maxRecDepth 100000 in
theorem ref_MayCat {next : Int} {v : Value} {xs : List Snap} {hs : List Chunk} (hr : Row encSnap 35 hs v xs) (hl : xs.length ≤ 1073741824) : Fun Try.prog 12 [.agg ⟨[.int .i64 next, v]⟩] hs (fun v' hs' => v' = .bool (refMay next xs) ∧ hs = hs') := by
  refine Fun.enter 114 Try.func12 rfl Try.ntmps12 rfl ?_
  obtain ⟨a0, c0, hv⟩ := hr.len
  subst hv
  refine TT.seq ?_
  refine TT.region ?_
  refine OT.box rfl rfl rfl (fun b_1 => ?_)
  refine OT.pures hT 1 rfl ?_
  refine OT.nil ?_
  refine KT.seq ?_
  refine TT.seq ?_
  refine TT.seq ?_
  refine TT.region ?_
  refine OT.pures hT 1 rfl ?_
  refine OT.load rfl rfl (Ld.one hT rfl (by repeat (first | exact Has.one | apply Has.there)) rfl) rfl ?_
  refine OT.pures hT 2 rfl ?_
  refine OT.split 12 rfl (fun g12 => ?_) (fun g12 => ?_)
  ·
    have g12 := of_decide_eq_true g12
    refine OT.pures hT 10 rfl ?_
    refine OT.nil ?_
    refine KT.seq ?_
    refine TT.cond_true rfl ?_
    refine TT.seq ?_
    refine TT.region ?_
    refine OT.pures hT 1 rfl ?_
    refine OT.nil ?_
    refine KT.seq ?_
    refine TT.ret ?_
    refine RT.of (rs := [.tmp 2]) [_] hs rfl (.tmp rfl .nil) (by repeat (first | exact Sel.refl _ | refine Sel.empty ?_ | refine Sel.pull (by repeat (first | exact Pull.head | apply Pull.tail)) ?_ | refine Sel.drop ?_)) ?_
    dsimp only [one]
    exact ⟨by unfold refMay; rw [if_pos (by omega)], rfl⟩
  ·
    have g12 := of_decide_eq_false g12
    refine OT.pures hT 1 rfl ?_
    refine OT.load rfl rfl (Ld.one hT rfl (by repeat (first | exact Has.one | apply Has.there)) rfl) rfl ?_
    refine OT.pures hT 3 rfl ?_
    refine OT.split 17 rfl (fun g17 => ?_) (fun g17 => ?_)
    ·
      have g17 := of_decide_eq_true g17
      refine OT.pures hT 5 rfl ?_
      refine OT.nil ?_
      refine KT.seq ?_
      refine TT.cond_true rfl ?_
      refine TT.seq ?_
      refine TT.region ?_
      refine OT.pures hT 1 rfl ?_
      refine OT.nil ?_
      refine KT.seq ?_
      refine TT.ret ?_
      refine RT.of (rs := [.tmp 2]) [_] hs rfl (.tmp rfl .nil) (by repeat (first | exact Sel.refl _ | refine Sel.empty ?_ | refine Sel.pull (by repeat (first | exact Pull.head | apply Pull.tail)) ?_ | refine Sel.drop ?_)) ?_
      dsimp only [one]
      exact ⟨by unfold refMay; rw [if_pos (by omega)], rfl⟩
    ·
      have g17 := of_decide_eq_false g17
      refine OT.pures hT 1 rfl ?_
      refine OT.load rfl rfl (Ld.slc hT rfl (by repeat (first | exact Has.one | apply Has.there)) rfl) rfl ?_
      refine OT.pures hT 3 rfl ?_
      refine OT.nil ?_
      refine KT.seq ?_
      refine TT.cond rfl (fun c22 => ?_) (fun c22 => ?_)
      ·
        have c22 := of_decide_eq_true c22
        refine TT.seq ?_
        refine TT.region ?_
        refine OT.pures hT 1 rfl ?_
        refine OT.nil ?_
        refine KT.seq ?_
        refine TT.ret ?_
        refine RT.of (rs := [.tmp 2]) [_] hs rfl (.tmp rfl .nil) (by repeat (first | exact Sel.refl _ | refine Sel.empty ?_ | refine Sel.pull (by repeat (first | exact Pull.head | apply Pull.tail)) ?_ | refine Sel.drop ?_)) ?_
        dsimp only [one]
        exact ⟨by unfold refMay; rw [if_pos (by omega)], rfl⟩
      ·
        have c22 := of_decide_eq_false c22
        have hp : refOut next xs 0 (List.replicate 96 false) xs = refMay next xs := by unfold refMay; rw [if_neg (by omega)]
        refine TT.skip ?_
        refine KT.seq ?_
        refine TT.seq ?_
        refine TT.region ?_
        refine OT.alloc z65 rfl rfl (fun b_3 => ?_)
        refine OT.nil ?_
        refine KT.seq ?_
        refine TT.seq ?_
        refine TT.seq ?_
        refine TT.region ?_
        refine OT.pures hT 1 rfl ?_
        refine OT.nil ?_
        refine KT.seq ?_
        refine TT.block ?_
        refine TT.loop (ι := Nat × (List Bool)) (fun j => (j.1) ≤ xs.length ∧ (j.2).length = 96 ∧ refOut next xs (j.1) (j.2) (xs.drop (j.1)) = refMay next xs) (fun j => xs.length - (j.1)) (fun j => [(1, .pointer (some ⟨b_1, 0, none⟩)), (3, .pointer (some ⟨b_3, 0, none⟩)), (4, .int .i64 ((j.1) : Nat))]) (fun j => [(b_3, blk (Lb (j.2)) 65 (0, 0))] :: [(b_1, blk [.int .i64 next, .slice a0 xs.length c0] 24 (0, 0))] :: hs) (0, List.replicate 96 false) ?_ (SubR.cons rfl (SubR.cons rfl (SubR.cons rfl (SubR.nil _)))) (by repeat (first | exact Sel.refl _ | refine Sel.empty ?_ | refine Sel.pull (by repeat (first | exact Pull.head | apply Pull.tail)) ?_ | refine Sel.drop ?_)) ?_
        · dsimp only
          exact ⟨by omega, by simp, hp⟩
        rintro ⟨i, L⟩ hI
        dsimp only at hI
        obtain ⟨hi, hL, hp⟩ := hI
        show TT _ _ _ [(1, .pointer (some ⟨b_1, 0, none⟩)), (3, .pointer (some ⟨b_3, 0, none⟩)), (4, .int .i64 (i : Nat))] ([(b_3, blk (Lb L) 65 (0, 0))] :: [(b_1, blk [.int .i64 next, .slice a0 xs.length c0] 24 (0, 0))] :: hs)
        refine TT.seq ?_
        refine TT.seq ?_
        refine TT.region ?_
        refine OT.pures hT 2 rfl ?_
        refine OT.load rfl rfl (Ld.slc hT rfl (by repeat (first | exact Has.one | apply Has.there)) rfl) rfl ?_
        refine OT.pures hT 2 rfl ?_
        refine OT.nil ?_
        refine KT.seq ?_
        refine TT.cond rfl (fun c27 => ?_) (fun c27 => ?_)
        ·
          have c27 := of_decide_eq_true c27
          obtain ⟨s, hy⟩ := nth (l := xs) (i := i) (by omega)
          rw [drop_cons hy, refOut] at hp
          have h35 := hr.1 s (List.mem_of_getElem? hy)
          have h32 := map32 h35
          obtain ⟨m0, hm0⟩ := nth (l := s.map) (i := 0) (by omega)
          have hh0 : s.map.head? = some m0 := by rw [List.head?_eq_getElem?]; exact hm0
          refine TT.skip ?_
          refine KT.seq ?_
          refine TT.seq ?_
          refine TT.block ?_
          refine TT.seq ?_
          refine TT.region ?_
          refine OT.pures hT 1 rfl ?_
          refine OT.load rfl rfl (Ld.slc hT rfl (by repeat (first | exact Has.one | apply Has.there)) rfl) rfl ?_
          refine OT.pures hT 1 rfl ?_
          refine OT.index hT rfl rfl rfl rfl hr.there.there (by omega) hy rfl (fun ad_33 hel_33 => ?_)
          refine OT.load rfl rfl (hel_33.ld_struct hT rfl) rfl ?_
          refine OT.alloc Try.zeroValue42 rfl rfl (fun b_5 => ?_)
          refine OT.store_all hT rfl rfl rfl rfl (by repeat (first | exact Pull.head | apply Pull.tail)) (by exact h35) rfl (ones_snap s) (.inl (Nat.le_refl _)) ?_
          refine OT.nil ?_
          refine KT.seq ?_
          refine TT.seq ?_
          refine TT.seq ?_
          refine TT.draw ([(b_5, blk (encSnap s) 42 (0, 0))] :: [(b_3, blk (Lb L) 65 (0, 0))] :: [(b_1, blk [.int .i64 next, .slice a0 xs.length c0] 24 (0, 0))] :: hs) mixed ?_
          refine AT.takes (fuel := 37) hT [0] (by kernel_rfl) (by kernel_rfl) rfl ?_
          refine AT.take (fuel := 36) hT 1 rfl rfl (by kernel_rfl) (by kernel_rfl) (by kernel_rfl) rfl (.load rfl (Ld.one hT rfl (by repeat (first | exact Has.one | apply Has.there)) rfl)) rfl ?_
          refine AT.op (fuel := 35) 2 (by kernel_rfl) rfl (by repeat (first | exact Sel.refl _ | refine Sel.empty ?_ | refine Sel.pull (by repeat (first | exact Pull.head | apply Pull.tail)) ?_ | refine Sel.drop ?_)) ?_
          refine OT.call Try.call18 rfl rfl rfl rfl (ref_Name) ?_
          rintro v_37 hs_37 ⟨rfl, rfl⟩
          refine OT.nil ?_
          refine KT.any ?_
          refine AT.takes (fuel := 33) hT [3, 4] (by kernel_rfl) (by kernel_rfl) rfl ?_
          refine AT.split 39 rfl (fun g39 => ?_) (fun g39 => ?_)
          ·
            have g39 : nameB s.name = false := by simpa using g39
            refine AT.takes (fuel := 0) hT [5, 6, 7, 8, 9, 10, 11, 12, 13, 14, 15, 16, 17, 18, 19, 20, 21, 22, 23, 24, 25, 26, 27, 28, 29, 30, 31, 32, 33, 34, 35, 36, 37] (by kernel_rfl) (by kernel_rfl) rfl ?_
            refine AT.done (by kernel_rfl) (by repeat (first | exact Sel.refl _ | refine Sel.empty ?_ | refine Sel.pull (by repeat (first | exact Pull.head | apply Pull.tail)) ?_ | refine Sel.drop ?_)) ?_
            refine KT.seq ?_
            refine TT.cond_true rfl ?_
            refine TT.seq ?_
            refine TT.region ?_
            refine OT.pures hT 1 rfl ?_
            refine OT.nil ?_
            refine KT.seq ?_
            refine TT.ret ?_
            refine RT.of (rs := [.tmp 2]) [_] hs rfl (.tmp rfl .nil) (by repeat (first | exact Sel.refl _ | refine Sel.empty ?_ | refine Sel.pull (by repeat (first | exact Pull.head | apply Pull.tail)) ?_ | refine Sel.drop ?_)) ?_
            dsimp only [one]
            rw [if_pos (.inl g39)] at hp
            exact ⟨by rw [← hp], rfl⟩
          ·
            have g39 : nameB s.name = true := by simpa using g39
            refine AT.takes (fuel := 32) hT [5] (by kernel_rfl) (by kernel_rfl) rfl ?_
            refine AT.take (fuel := 31) hT 6 rfl rfl (by kernel_rfl) (by kernel_rfl) (by kernel_rfl) rfl (.load rfl (Ld.one hT rfl (by repeat (first | exact Has.one | apply Has.there)) rfl)) rfl ?_
            refine AT.takes (fuel := 28) hT [7, 8, 9] (by kernel_rfl) (by kernel_rfl) rfl ?_
            refine AT.split 44 rfl (fun g44 => ?_) (fun g44 => ?_)
            ·
              have g44 := of_decide_eq_true g44
              refine AT.takes (fuel := 0) hT [10, 11, 12, 13, 14, 15, 16, 17, 18, 19, 20, 21, 22, 23, 24, 25, 26, 27, 28, 29, 30, 31, 32, 33, 34, 35, 36, 37] (by kernel_rfl) (by kernel_rfl) rfl ?_
              refine AT.done (by kernel_rfl) (by repeat (first | exact Sel.refl _ | refine Sel.empty ?_ | refine Sel.pull (by repeat (first | exact Pull.head | apply Pull.tail)) ?_ | refine Sel.drop ?_)) ?_
              refine KT.seq ?_
              refine TT.cond_true rfl ?_
              refine TT.seq ?_
              refine TT.region ?_
              refine OT.pures hT 1 rfl ?_
              refine OT.nil ?_
              refine KT.seq ?_
              refine TT.ret ?_
              refine RT.of (rs := [.tmp 2]) [_] hs rfl (.tmp rfl .nil) (by repeat (first | exact Sel.refl _ | refine Sel.empty ?_ | refine Sel.pull (by repeat (first | exact Pull.head | apply Pull.tail)) ?_ | refine Sel.drop ?_)) ?_
              dsimp only [one]
              rw [if_pos (.inr (.inl g44))] at hp
              exact ⟨by rw [← hp], rfl⟩
            ·
              have g44 := of_decide_eq_false g44
              refine AT.takes (fuel := 26) hT [10, 12] (by kernel_rfl) (by kernel_rfl) rfl ?_
              refine AT.take (fuel := 25) hT 11 rfl rfl (by kernel_rfl) (by kernel_rfl) (by kernel_rfl) rfl (.load rfl (Ld.one hT rfl (by repeat (first | exact Has.one | apply Has.there)) rfl)) rfl ?_
              refine AT.take (fuel := 24) hT 13 rfl rfl (by kernel_rfl) (by kernel_rfl) (by kernel_rfl) rfl (.load rfl (Ld.one hT rfl (by repeat (first | exact Has.one | apply Has.there)) rfl)) rfl ?_
              refine AT.takes (fuel := 21) hT [14, 15, 16] (by kernel_rfl) (by kernel_rfl) rfl ?_
              refine AT.split 51 rfl (fun g51 => ?_) (fun g51 => ?_)
              ·
                have g51 := of_decide_eq_true g51
                refine AT.takes (fuel := 0) hT [17, 18, 19, 20, 21, 22, 23, 24, 25, 26, 27, 28, 29, 30, 31, 32, 33, 34, 35, 36, 37] (by kernel_rfl) (by kernel_rfl) rfl ?_
                refine AT.done (by kernel_rfl) (by repeat (first | exact Sel.refl _ | refine Sel.empty ?_ | refine Sel.pull (by repeat (first | exact Pull.head | apply Pull.tail)) ?_ | refine Sel.drop ?_)) ?_
                refine KT.seq ?_
                refine TT.cond_true rfl ?_
                refine TT.seq ?_
                refine TT.region ?_
                refine OT.pures hT 1 rfl ?_
                refine OT.nil ?_
                refine KT.seq ?_
                refine TT.ret ?_
                refine RT.of (rs := [.tmp 2]) [_] hs rfl (.tmp rfl .nil) (by repeat (first | exact Sel.refl _ | refine Sel.empty ?_ | refine Sel.pull (by repeat (first | exact Pull.head | apply Pull.tail)) ?_ | refine Sel.drop ?_)) ?_
                dsimp only [one]
                rw [if_pos (.inr (.inr (.inl g51)))] at hp
                exact ⟨by rw [← hp], rfl⟩
              ·
                have g51 := of_decide_eq_false g51
                refine AT.takes (fuel := 18) hT [17, 18, 19] (by kernel_rfl) (by kernel_rfl) rfl ?_
                refine AT.split 54 rfl (fun g54 => ?_) (fun g54 => ?_)
                ·
                  have g54 := of_decide_eq_true g54
                  obtain ⟨p, hpp⟩ := nth (l := xs) (i := i - 1) (by omega)
                  refine AT.takes (fuel := 14) hT [20, 22, 24, 25] (by kernel_rfl) (by kernel_rfl) rfl ?_
                  refine AT.take (fuel := 13) hT 21 rfl rfl (by kernel_rfl) (by kernel_rfl) (by kernel_rfl) rfl (.load rfl (Ld.one hT rfl (by repeat (first | exact Has.one | apply Has.there)) rfl)) rfl ?_
                  refine AT.take (fuel := 12) hT 23 rfl rfl (by kernel_rfl) (by kernel_rfl) (by kernel_rfl) rfl (.load rfl (Ld.slc hT rfl (by repeat (first | exact Has.one | apply Has.there)) rfl)) rfl ?_
                  refine AT.index (fuel := 11) hT 26 rfl (by kernel_rfl) (by kernel_rfl) (by kernel_rfl) rfl rfl rfl rfl hr.there.there.there (by rw [wrap_i64 (by omega) (by omega)]; omega) (by rw [wrap_i64 (by omega) (by omega), show ((i : Int) - 1).toNat = i - 1 by omega]; exact hpp) rfl (fun ad_61 hel_61 => ?_)
                  obtain ⟨eb_61, eo_61, rfl, hfld_61⟩ := hel_61.at (P := Try.prog)
                  refine AT.takes (fuel := 10) hT [27] (by kernel_rfl) (by kernel_rfl) rfl ?_
                  refine AT.take (fuel := 9) hT 28 rfl rfl (by kernel_rfl) (by kernel_rfl) (by kernel_rfl) rfl (.load rfl (hfld_61 hT rfl rfl)) rfl ?_
                  refine AT.takes (fuel := 5) hT [29, 30, 31, 32] (by kernel_rfl) (by kernel_rfl) rfl ?_
                  refine AT.split 67 rfl (fun g67 => ?_) (fun g67 => ?_)
                  ·
                    have g67 := of_decide_eq_true g67
                    refine AT.takes (fuel := 0) hT [33, 34, 35, 36, 37] (by kernel_rfl) (by kernel_rfl) rfl ?_
                    refine AT.done (by kernel_rfl) (by repeat (first | exact Sel.refl _ | refine Sel.empty ?_ | refine Sel.pull (by repeat (first | exact Pull.head | apply Pull.tail)) ?_ | refine Sel.drop ?_)) ?_
                    refine KT.seq ?_
                    refine TT.cond_true rfl ?_
                    refine TT.seq ?_
                    refine TT.region ?_
                    refine OT.pures hT 1 rfl ?_
                    refine OT.nil ?_
                    refine KT.seq ?_
                    refine TT.ret ?_
                    refine RT.of (rs := [.tmp 2]) [_] hs rfl (.tmp rfl .nil) (by repeat (first | exact Sel.refl _ | refine Sel.empty ?_ | refine Sel.pull (by repeat (first | exact Pull.head | apply Pull.tail)) ?_ | refine Sel.drop ?_)) ?_
                    dsimp only [one]
                    rw [if_pos (.inr (.inr (.inr (.inl ⟨by omega, p, hpp, g67⟩))))] at hp
                    exact ⟨by rw [← hp], rfl⟩
                  ·
                    have g67 := of_decide_eq_false g67
                    refine AT.takes (fuel := 4) hT [33] (by kernel_rfl) (by kernel_rfl) rfl ?_
                    refine AT.index_at (fuel := 3) hT 34 rfl (by kernel_rfl) (by kernel_rfl) (by kernel_rfl) rfl rfl rfl rfl (by decide) (by decide) rfl ?_
                    refine AT.take (fuel := 2) hT 35 rfl rfl (by kernel_rfl) (by kernel_rfl) (by kernel_rfl) rfl (.load rfl (Ld.one hT rfl Has.one (snap_at (i := 0) hm0))) rfl ?_
                    refine AT.takes (fuel := 0) hT [36, 37] (by kernel_rfl) (by kernel_rfl) rfl ?_
                    refine AT.done (by kernel_rfl) (by repeat (first | exact Sel.refl _ | refine Sel.empty ?_ | refine Sel.pull (by repeat (first | exact Pull.head | apply Pull.tail)) ?_ | refine Sel.drop ?_)) ?_
                    refine KT.seq ?_
                    refine TT.cond rfl (fun c72 => ?_) (fun c72 => ?_)
                    ·
                      have c72 : ¬ m0 = 0 := by simpa using c72
                      refine TT.seq ?_
                      refine TT.region ?_
                      refine OT.pures hT 1 rfl ?_
                      refine OT.nil ?_
                      refine KT.seq ?_
                      refine TT.ret ?_
                      refine RT.of (rs := [.tmp 2]) [_] hs rfl (.tmp rfl .nil) (by repeat (first | exact Sel.refl _ | refine Sel.empty ?_ | refine Sel.pull (by repeat (first | exact Pull.head | apply Pull.tail)) ?_ | refine Sel.drop ?_)) ?_
                      dsimp only [one]
                      rw [if_pos (.inr (.inr (.inr (.inr (by rw [hh0]; intro h; exact c72 (Option.some.inj h))))))] at hp
                      exact ⟨by rw [← hp], rfl⟩
                    ·
                      have c72 : m0 = 0 := by simpa using c72
                      refine TT.skip ?_
                      refine KT.seq ?_
                      refine TT.seq ?_
                      refine TT.seq ?_
                      refine TT.region ?_
                      refine OT.pures hT 1 rfl ?_
                      have hno : ¬ (nameB s.name = false ∨ s.id < 1 ∨ next < s.id ∨ (0 < i ∧ ∃ p, xs[i - 1]? = some p ∧ s.id ≤ p.id) ∨ s.map.head? ≠ some 0) := by
                        rintro (h | h | h | ⟨h, q, hq, hq2⟩ | h)
                        · rw [g39] at h; cases h
                        · omega
                        · omega
                        · first | omega | (rw [hpp] at hq; obtain rfl := Option.some.inj hq; omega)
                        · rw [hh0, c72] at h; exact h rfl
                      rw [if_neg hno] at hp
                      refine OT.nil ?_
                      refine KT.seq ?_
                      refine TT.block ?_
                      refine TT.loop (ι := Nat) (fun j => (j) ≤ i ∧ (xs.take (j)).any (named s.name) = false) (fun j => i - (j)) (fun j => [(1, .pointer (some ⟨b_1, 0, none⟩)), (3, .pointer (some ⟨b_3, 0, none⟩)), (4, .int .i64 (i : Nat)), (5, .pointer (some ⟨b_5, 0, none⟩)), (6, .int .i64 ((j) : Nat))]) (fun j => [(b_5, blk (encSnap s) 42 (0, 0))] :: [(b_3, blk (Lb L) 65 (0, 0))] :: [(b_1, blk [.int .i64 next, .slice a0 xs.length c0] 24 (0, 0))] :: hs) (0) ?_ (SubR.cons rfl (SubR.cons rfl (SubR.cons rfl (SubR.cons rfl (SubR.cons rfl (SubR.nil _)))))) (by repeat (first | exact Sel.refl _ | refine Sel.empty ?_ | refine Sel.pull (by repeat (first | exact Pull.head | apply Pull.tail)) ?_ | refine Sel.drop ?_)) ?_
                      · exact ⟨by omega, by simp⟩
                      rintro k ⟨hk, hany⟩
                      show TT _ _ _ [(1, .pointer (some ⟨b_1, 0, none⟩)), (3, .pointer (some ⟨b_3, 0, none⟩)), (4, .int .i64 (i : Nat)), (5, .pointer (some ⟨b_5, 0, none⟩)), (6, .int .i64 (k : Nat))] ([(b_5, blk (encSnap s) 42 (0, 0))] :: [(b_3, blk (Lb L) 65 (0, 0))] :: [(b_1, blk [.int .i64 next, .slice a0 xs.length c0] 24 (0, 0))] :: hs)
                      refine TT.seq ?_
                      refine TT.seq ?_
                      refine TT.region ?_
                      refine OT.pures hT 3 rfl ?_
                      refine OT.nil ?_
                      refine KT.seq ?_
                      refine TT.cond rfl (fun c75 => ?_) (fun c75 => ?_)
                      ·
                        have c75 := of_decide_eq_true c75
                        obtain ⟨q, hq⟩ := nth (l := xs) (i := k) (by omega)
                        refine TT.skip ?_
                        refine KT.seq ?_
                        refine TT.seq ?_
                        refine TT.block ?_
                        refine TT.seq ?_
                        refine TT.draw ([(b_5, blk (encSnap s) 42 (0, 0))] :: [(b_3, blk (Lb L) 65 (0, 0))] :: [(b_1, blk [.int .i64 next, .slice a0 xs.length c0] 24 (0, 0))] :: hs) mixed ?_
                        refine AT.takes (fuel := 6) hT [0, 2, 6] (by kernel_rfl) (by kernel_rfl) rfl ?_
                        refine AT.take (fuel := 5) hT 1 rfl rfl (by kernel_rfl) (by kernel_rfl) (by kernel_rfl) rfl (.load rfl (Ld.slc hT rfl (by repeat (first | exact Has.one | apply Has.there)) rfl)) rfl ?_
                        refine AT.take (fuel := 4) hT 7 rfl rfl (by kernel_rfl) (by kernel_rfl) (by kernel_rfl) rfl (.load rfl (Ld.one hT rfl (by repeat (first | exact Has.one | apply Has.there)) rfl)) rfl ?_
                        refine AT.index (fuel := 3) hT 3 rfl (by kernel_rfl) (by kernel_rfl) (by kernel_rfl) rfl rfl rfl rfl hr.there.there.there (by omega) hq rfl (fun ad_81 hel_81 => ?_)
                        obtain ⟨eb_81, eo_81, rfl, hfld_81⟩ := hel_81.at (P := Try.prog)
                        refine AT.takes (fuel := 2) hT [4] (by kernel_rfl) (by kernel_rfl) rfl ?_
                        refine AT.take (fuel := 1) hT 5 rfl rfl (by kernel_rfl) (by kernel_rfl) (by kernel_rfl) rfl (.load rfl (hfld_81 hT rfl rfl)) rfl ?_
                        refine AT.takes (fuel := 0) hT [8] (by kernel_rfl) (by kernel_rfl) rfl ?_
                        refine AT.done (by kernel_rfl) (by repeat (first | exact Sel.refl _ | refine Sel.empty ?_ | refine Sel.pull (by repeat (first | exact Pull.head | apply Pull.tail)) ?_ | refine Sel.drop ?_)) ?_
                        refine KT.seq ?_
                        refine TT.cond rfl (fun c86 => ?_) (fun c86 => ?_)
                        ·
                          have c86 : named s.name q = true := c86
                          refine TT.seq ?_
                          refine TT.region ?_
                          refine OT.pures hT 1 rfl ?_
                          refine OT.nil ?_
                          refine KT.seq ?_
                          refine TT.ret ?_
                          refine RT.of (rs := [.tmp 2]) [_] hs rfl (.tmp rfl .nil) (by repeat (first | exact Sel.refl _ | refine Sel.empty ?_ | refine Sel.pull (by repeat (first | exact Pull.head | apply Pull.tail)) ?_ | refine Sel.drop ?_)) ?_
                          dsimp only [one]
                          have hany2 : (xs.take i).any (named s.name) = true := List.any_eq_true.2 ⟨q, List.mem_of_getElem? (i := k) (by rw [List.getElem?_take, if_pos (by omega)]; exact hq), c86⟩
                          rw [if_pos hany2] at hp
                          exact ⟨by rw [← hp], rfl⟩
                        ·
                          have c86 : named s.name q = false := c86
                          refine TT.skip ?_
                          refine KT.blk ?_
                          refine KT.seq ?_
                          refine TT.region ?_
                          refine OT.pures hT 3 rfl ?_
                          refine OT.nil ?_
                          refine KT.loop (k + 1) ?_ ?_ (SubR.cons rfl (SubR.cons rfl (SubR.cons rfl (SubR.cons rfl (SubR.cons' rfl (by (try dsimp only); exact (int_eq (by rw [wrap_i64 (by omega) (by omega)]; omega))) (SubR.nil _)))))) (by repeat (first | exact Sel.refl _ | refine Sel.empty ?_ | refine Sel.pull (by repeat (first | exact Pull.head | apply Pull.tail)) ?_ | refine Sel.drop ?_))
                          · refine ⟨by omega, ?_⟩
                            rw [take_succ hq, List.any_append, hany, Bool.false_or]
                            simpa using c86
                          · omega
                      ·
                        have c75 := of_decide_eq_false c75
                        have hki : k = i := by omega
                        subst hki
                        rw [if_neg (by rw [hany]; decide)] at hp
                        refine TT.exit ?_
                        refine XT.seq ?_
                        refine XT.loop ?_
                        refine XT.here ?_
                        refine KT.seq ?_
                        refine TT.seq ?_
                        refine TT.region ?_
                        refine OT.pures hT 1 rfl ?_
                        refine OT.nil ?_
                        refine KT.seq ?_
                        refine TT.block ?_
                        refine TT.loop (ι := Nat × (List Bool)) (fun j => 1 ≤ (j.1) ∧ (j.1) ≤ 32 ∧ (j.2).length = 96 ∧ (match refIn s.inv (s.map.drop (j.1)) (j.2) with | none => false | some seen' => refOut next xs (k + 1) seen' (xs.drop (k + 1))) = refMay next xs) (fun j => 32 - (j.1)) (fun j => [(1, .pointer (some ⟨b_1, 0, none⟩)), (3, .pointer (some ⟨b_3, 0, none⟩)), (4, .int .i64 (k : Nat)), (5, .pointer (some ⟨b_5, 0, none⟩)), (7, .int .i64 ((j.1) : Nat))]) (fun j => [(b_3, blk (Lb (j.2)) 65 (0, 0))] :: [(b_5, blk (encSnap s) 42 (0, 0))] :: [(b_1, blk [.int .i64 next, .slice a0 xs.length c0] 24 (0, 0))] :: hs) (1, L) ?_ (SubR.cons rfl (SubR.cons rfl (SubR.cons rfl (SubR.cons rfl (SubR.cons rfl (SubR.nil _)))))) (by repeat (first | exact Sel.refl _ | refine Sel.empty ?_ | refine Sel.pull (by repeat (first | exact Pull.head | apply Pull.tail)) ?_ | refine Sel.drop ?_)) ?_
                        · dsimp only
                          exact ⟨by omega, by omega, hL, hp⟩
                        rintro ⟨k2, L2⟩ hI
                        dsimp only at hI
                        obtain ⟨hk1, hk2, hL2, hp⟩ := hI
                        show TT _ _ _ [(1, .pointer (some ⟨b_1, 0, none⟩)), (3, .pointer (some ⟨b_3, 0, none⟩)), (4, .int .i64 (k : Nat)), (5, .pointer (some ⟨b_5, 0, none⟩)), (7, .int .i64 (k2 : Nat))] ([(b_3, blk (Lb L2) 65 (0, 0))] :: [(b_5, blk (encSnap s) 42 (0, 0))] :: [(b_1, blk [.int .i64 next, .slice a0 xs.length c0] 24 (0, 0))] :: hs)
                        refine TT.seq ?_
                        refine TT.seq ?_
                        refine TT.region ?_
                        refine OT.pures hT 2 rfl ?_
                        refine OT.nil ?_
                        refine KT.seq ?_
                        refine TT.cond rfl (fun c88 => ?_) (fun c88 => ?_)
                        ·
                          have c88 := of_decide_eq_true c88
                          obtain ⟨n, hn⟩ := nth (l := s.map) (i := k2) (by omega)
                          rw [drop_cons hn, refIn] at hp
                          refine TT.skip ?_
                          refine KT.seq ?_
                          refine TT.seq ?_
                          refine TT.block ?_
                          refine TT.seq ?_
                          refine TT.region ?_
                          refine OT.pures hT 2 rfl ?_
                          refine OT.index_at hT rfl rfl rfl rfl (by omega) (by omega) rfl ?_
                          refine OT.load rfl rfl (Ld.one hT rfl Has.one.there (snap_at hn)) rfl ?_
                          refine OT.pures hT 1 rfl ?_
                          refine OT.nil ?_
                          refine KT.seq ?_
                          refine TT.seq ?_
                          refine TT.seq ?_
                          refine TT.region ?_
                          refine OT.pures hT 2 rfl ?_
                          refine OT.nil ?_
                          refine KT.seq ?_
                          refine TT.cond rfl (fun c96 => ?_) (fun c96 => ?_)
                          ·
                            have c96 : n = 0 := by simpa using c96
                            rw [if_pos c96] at hp
                            refine TT.exit ?_
                            refine XT.seq ?_
                            refine XT.here ?_
                            refine KT.seq ?_
                            refine TT.region ?_
                            refine OT.pures hT 3 rfl ?_
                            refine OT.nil ?_
                            refine KT.loop (k2 + 1, L2) ?_ ?_ (SubR.cons rfl (SubR.cons rfl (SubR.cons rfl (SubR.cons rfl (SubR.cons' rfl (by (try dsimp only); exact (int_eq (by rw [wrap_i64 (by omega) (by omega)]; omega))) (SubR.nil _)))))) (by repeat (first | exact Sel.refl _ | refine Sel.empty ?_ | refine Sel.pull (by repeat (first | exact Pull.head | apply Pull.tail)) ?_ | refine Sel.drop ?_))
                            · dsimp only
                              exact ⟨by omega, by omega, hL2, hp⟩
                            · dsimp only
                              omega
                          ·
                            have c96 : ¬ n = 0 := by simpa using c96
                            rw [if_neg c96] at hp
                            refine TT.skip ?_
                            refine KT.seq ?_
                            refine TT.seq ?_
                            refine TT.seq ?_
                            refine TT.region ?_
                            refine OT.pures hT 3 rfl ?_
                            refine OT.split 99 rfl (fun g99 => ?_) (fun g99 => ?_)
                            ·
                              have g99 := of_decide_eq_true g99
                              refine OT.pures hT 12 rfl ?_
                              refine OT.nil ?_
                              refine KT.seq ?_
                              refine TT.cond_true rfl ?_
                              refine TT.seq ?_
                              refine TT.region ?_
                              refine OT.pures hT 1 rfl ?_
                              refine OT.nil ?_
                              refine KT.seq ?_
                              refine TT.ret ?_
                              refine RT.of (rs := [.tmp 2]) [_] hs rfl (.tmp rfl .nil) (by repeat (first | exact Sel.refl _ | refine Sel.empty ?_ | refine Sel.pull (by repeat (first | exact Pull.head | apply Pull.tail)) ?_ | refine Sel.drop ?_)) ?_
                              dsimp only [one]
                              rw [if_pos (.inl g99)] at hp
                              exact ⟨by rw [← hp], rfl⟩
                            ·
                              have g99 := of_decide_eq_false g99
                              refine OT.pures hT 4 rfl ?_
                              refine OT.split 103 rfl (fun g103 => ?_) (fun g103 => ?_)
                              ·
                                have g103 := of_decide_eq_true g103
                                refine OT.pures hT 8 rfl ?_
                                refine OT.nil ?_
                                refine KT.seq ?_
                                refine TT.cond_true rfl ?_
                                refine TT.seq ?_
                                refine TT.region ?_
                                refine OT.pures hT 1 rfl ?_
                                refine OT.nil ?_
                                refine KT.seq ?_
                                refine TT.ret ?_
                                refine RT.of (rs := [.tmp 2]) [_] hs rfl (.tmp rfl .nil) (by repeat (first | exact Sel.refl _ | refine Sel.empty ?_ | refine Sel.pull (by repeat (first | exact Pull.head | apply Pull.tail)) ?_ | refine Sel.drop ?_)) ?_
                                dsimp only [one]
                                rw [if_pos (.inr (.inl g103))] at hp
                                exact ⟨by rw [← hp], rfl⟩
                              ·
                                have g103 := of_decide_eq_false g103
                                obtain ⟨bb, hbb⟩ := nth (l := L2) (i := n.toNat) (by omega)
                                refine OT.pures hT 1 rfl ?_
                                refine OT.index_at hT rfl rfl rfl rfl (by omega) (by omega) rfl ?_
                                refine OT.load rfl rfl (Ld.one hT rfl Has.one (Lb_at hbb)) rfl ?_
                                refine OT.pures hT 2 rfl ?_
                                refine OT.split 108 rfl (fun g108 => ?_) (fun g108 => ?_)
                                ·
                                  refine OT.pures hT 3 rfl ?_
                                  refine OT.nil ?_
                                  refine KT.seq ?_
                                  refine TT.cond_true rfl ?_
                                  refine TT.seq ?_
                                  refine TT.region ?_
                                  refine OT.pures hT 1 rfl ?_
                                  refine OT.nil ?_
                                  refine KT.seq ?_
                                  refine TT.ret ?_
                                  refine RT.of (rs := [.tmp 2]) [_] hs rfl (.tmp rfl .nil) (by repeat (first | exact Sel.refl _ | refine Sel.empty ?_ | refine Sel.pull (by repeat (first | exact Pull.head | apply Pull.tail)) ?_ | refine Sel.drop ?_)) ?_
                                  dsimp only [one]
                                  rw [if_pos (.inr (.inr (.inl (by rw [hbb, g108]))))] at hp
                                  exact ⟨by rw [← hp], rfl⟩
                                ·
                                  refine OT.pures hT 1 rfl ?_
                                  refine OT.load rfl rfl (Ld.one hT rfl (by repeat (first | exact Has.one | apply Has.there)) rfl) rfl ?_
                                  refine OT.pures hT 1 rfl ?_
                                  refine OT.nil ?_
                                  refine KT.seq ?_
                                  refine TT.cond rfl (fun c111 => ?_) (fun c111 => ?_)
                                  ·
                                    refine TT.seq ?_
                                    refine TT.region ?_
                                    refine OT.pures hT 1 rfl ?_
                                    refine OT.nil ?_
                                    refine KT.seq ?_
                                    refine TT.ret ?_
                                    refine RT.of (rs := [.tmp 2]) [_] hs rfl (.tmp rfl .nil) (by repeat (first | exact Sel.refl _ | refine Sel.empty ?_ | refine Sel.pull (by repeat (first | exact Pull.head | apply Pull.tail)) ?_ | refine Sel.drop ?_)) ?_
                                    dsimp only [one]
                                    rw [if_pos (.inr (.inr (.inr c111)))] at hp
                                    exact ⟨by rw [← hp], rfl⟩
                                  ·
                                    refine TT.skip ?_
                                    refine KT.seq ?_
                                    refine TT.region ?_
                                    refine OT.pures hT 1 rfl ?_
                                    rw [if_neg (by rw [hbb, g108, c111]; simp only [Option.some.injEq, Bool.false_eq_true, or_false]; omega)] at hp
                                    refine OT.index_at hT rfl rfl rfl rfl (by omega) (by omega) rfl ?_
                                    refine OT.store hT rfl rfl rfl rfl (by repeat (first | exact Pull.head | apply Pull.tail)) rfl (by rw [Lb_length, hL2]; show 0 + n.toNat * 1 + 1 ≤ 96; omega) rfl (.inl (Nat.le_refl _)) (Lb_set (by omega)) ?_
                                    refine OT.nil ?_
                                    refine KT.blk ?_
                                    refine KT.seq ?_
                                    refine TT.region ?_
                                    refine OT.pures hT 3 rfl ?_
                                    refine OT.nil ?_
                                    refine KT.loop (k2 + 1, L2.set n.toNat true) ?_ ?_ (SubR.cons rfl (SubR.cons rfl (SubR.cons rfl (SubR.cons rfl (SubR.cons' rfl (by (try dsimp only); exact (int_eq (by rw [wrap_i64 (by omega) (by omega)]; omega))) (SubR.nil _)))))) (by repeat (first | exact Sel.refl _ | refine Sel.empty ?_ | refine Sel.pull (by repeat (first | exact Pull.head | apply Pull.tail)) ?_ | refine Sel.drop ?_))
                                    · dsimp only
                                      exact ⟨by omega, by omega, by rw [List.length_set]; exact hL2, hp⟩
                                    · dsimp only
                                      omega
                        ·
                          have c88 := of_decide_eq_false c88
                          rw [List.drop_eq_nil_of_le (show s.map.length ≤ k2 by omega), refIn] at hp
                          dsimp only at hp
                          refine TT.exit ?_
                          refine XT.seq ?_
                          refine XT.loop ?_
                          refine XT.here ?_
                          refine KT.blk ?_
                          refine KT.seq ?_
                          refine TT.region ?_
                          refine OT.pures hT 3 rfl ?_
                          refine OT.nil ?_
                          refine KT.loop (k + 1, L2) ?_ ?_ (SubR.cons rfl (SubR.cons rfl (SubR.cons' rfl (by (try dsimp only); exact (int_eq (by rw [wrap_i64 (by omega) (by omega)]; omega))) (SubR.nil _)))) (by repeat (first | exact Sel.refl _ | refine Sel.empty ?_ | refine Sel.pull (by repeat (first | exact Pull.head | apply Pull.tail)) ?_ | refine Sel.drop ?_))
                          · dsimp only
                            exact ⟨by omega, hL2, hp⟩
                          · dsimp only
                            omega
                ·
                  have g54 := of_decide_eq_false g54
                  refine AT.takes (fuel := 4) hT [20, 21, 22, 23, 24, 25, 26, 27, 28, 29, 30, 31, 32, 33] (by kernel_rfl) (by kernel_rfl) rfl ?_
                  refine AT.index_at (fuel := 3) hT 34 rfl (by kernel_rfl) (by kernel_rfl) (by kernel_rfl) rfl rfl rfl rfl (by decide) (by decide) rfl ?_
                  refine AT.take (fuel := 2) hT 35 rfl rfl (by kernel_rfl) (by kernel_rfl) (by kernel_rfl) rfl (.load rfl (Ld.one hT rfl Has.one (snap_at (i := 0) hm0))) rfl ?_
                  refine AT.takes (fuel := 0) hT [36, 37] (by kernel_rfl) (by kernel_rfl) rfl ?_
                  refine AT.done (by kernel_rfl) (by repeat (first | exact Sel.refl _ | refine Sel.empty ?_ | refine Sel.pull (by repeat (first | exact Pull.head | apply Pull.tail)) ?_ | refine Sel.drop ?_)) ?_
                  refine KT.seq ?_
                  refine TT.cond rfl (fun c72 => ?_) (fun c72 => ?_)
                  ·
                    have c72 : ¬ m0 = 0 := by simpa using c72
                    refine TT.seq ?_
                    refine TT.region ?_
                    refine OT.pures hT 1 rfl ?_
                    refine OT.nil ?_
                    refine KT.seq ?_
                    refine TT.ret ?_
                    refine RT.of (rs := [.tmp 2]) [_] hs rfl (.tmp rfl .nil) (by repeat (first | exact Sel.refl _ | refine Sel.empty ?_ | refine Sel.pull (by repeat (first | exact Pull.head | apply Pull.tail)) ?_ | refine Sel.drop ?_)) ?_
                    dsimp only [one]
                    rw [if_pos (.inr (.inr (.inr (.inr (by rw [hh0]; intro h; exact c72 (Option.some.inj h))))))] at hp
                    exact ⟨by rw [← hp], rfl⟩
                  ·
                    have c72 : m0 = 0 := by simpa using c72
                    refine TT.skip ?_
                    refine KT.seq ?_
                    refine TT.seq ?_
                    refine TT.seq ?_
                    refine TT.region ?_
                    refine OT.pures hT 1 rfl ?_
                    have hno : ¬ (nameB s.name = false ∨ s.id < 1 ∨ next < s.id ∨ (0 < i ∧ ∃ p, xs[i - 1]? = some p ∧ s.id ≤ p.id) ∨ s.map.head? ≠ some 0) := by
                      rintro (h | h | h | ⟨h, q, hq, hq2⟩ | h)
                      · rw [g39] at h; cases h
                      · omega
                      · omega
                      · first | omega | (rw [hpp] at hq; obtain rfl := Option.some.inj hq; omega)
                      · rw [hh0, c72] at h; exact h rfl
                    rw [if_neg hno] at hp
                    refine OT.nil ?_
                    refine KT.seq ?_
                    refine TT.block ?_
                    refine TT.loop (ι := Nat) (fun j => (j) ≤ i ∧ (xs.take (j)).any (named s.name) = false) (fun j => i - (j)) (fun j => [(1, .pointer (some ⟨b_1, 0, none⟩)), (3, .pointer (some ⟨b_3, 0, none⟩)), (4, .int .i64 (i : Nat)), (5, .pointer (some ⟨b_5, 0, none⟩)), (6, .int .i64 ((j) : Nat))]) (fun j => [(b_5, blk (encSnap s) 42 (0, 0))] :: [(b_3, blk (Lb L) 65 (0, 0))] :: [(b_1, blk [.int .i64 next, .slice a0 xs.length c0] 24 (0, 0))] :: hs) (0) ?_ (SubR.cons rfl (SubR.cons rfl (SubR.cons rfl (SubR.cons rfl (SubR.cons rfl (SubR.nil _)))))) (by repeat (first | exact Sel.refl _ | refine Sel.empty ?_ | refine Sel.pull (by repeat (first | exact Pull.head | apply Pull.tail)) ?_ | refine Sel.drop ?_)) ?_
                    · exact ⟨by omega, by simp⟩
                    rintro k ⟨hk, hany⟩
                    show TT _ _ _ [(1, .pointer (some ⟨b_1, 0, none⟩)), (3, .pointer (some ⟨b_3, 0, none⟩)), (4, .int .i64 (i : Nat)), (5, .pointer (some ⟨b_5, 0, none⟩)), (6, .int .i64 (k : Nat))] ([(b_5, blk (encSnap s) 42 (0, 0))] :: [(b_3, blk (Lb L) 65 (0, 0))] :: [(b_1, blk [.int .i64 next, .slice a0 xs.length c0] 24 (0, 0))] :: hs)
                    refine TT.seq ?_
                    refine TT.seq ?_
                    refine TT.region ?_
                    refine OT.pures hT 3 rfl ?_
                    refine OT.nil ?_
                    refine KT.seq ?_
                    refine TT.cond rfl (fun c75 => ?_) (fun c75 => ?_)
                    ·
                      have c75 := of_decide_eq_true c75
                      obtain ⟨q, hq⟩ := nth (l := xs) (i := k) (by omega)
                      refine TT.skip ?_
                      refine KT.seq ?_
                      refine TT.seq ?_
                      refine TT.block ?_
                      refine TT.seq ?_
                      refine TT.draw ([(b_5, blk (encSnap s) 42 (0, 0))] :: [(b_3, blk (Lb L) 65 (0, 0))] :: [(b_1, blk [.int .i64 next, .slice a0 xs.length c0] 24 (0, 0))] :: hs) mixed ?_
                      refine AT.takes (fuel := 6) hT [0, 2, 6] (by kernel_rfl) (by kernel_rfl) rfl ?_
                      refine AT.take (fuel := 5) hT 1 rfl rfl (by kernel_rfl) (by kernel_rfl) (by kernel_rfl) rfl (.load rfl (Ld.slc hT rfl (by repeat (first | exact Has.one | apply Has.there)) rfl)) rfl ?_
                      refine AT.take (fuel := 4) hT 7 rfl rfl (by kernel_rfl) (by kernel_rfl) (by kernel_rfl) rfl (.load rfl (Ld.one hT rfl (by repeat (first | exact Has.one | apply Has.there)) rfl)) rfl ?_
                      refine AT.index (fuel := 3) hT 3 rfl (by kernel_rfl) (by kernel_rfl) (by kernel_rfl) rfl rfl rfl rfl hr.there.there.there (by omega) hq rfl (fun ad_81 hel_81 => ?_)
                      obtain ⟨eb_81, eo_81, rfl, hfld_81⟩ := hel_81.at (P := Try.prog)
                      refine AT.takes (fuel := 2) hT [4] (by kernel_rfl) (by kernel_rfl) rfl ?_
                      refine AT.take (fuel := 1) hT 5 rfl rfl (by kernel_rfl) (by kernel_rfl) (by kernel_rfl) rfl (.load rfl (hfld_81 hT rfl rfl)) rfl ?_
                      refine AT.takes (fuel := 0) hT [8] (by kernel_rfl) (by kernel_rfl) rfl ?_
                      refine AT.done (by kernel_rfl) (by repeat (first | exact Sel.refl _ | refine Sel.empty ?_ | refine Sel.pull (by repeat (first | exact Pull.head | apply Pull.tail)) ?_ | refine Sel.drop ?_)) ?_
                      refine KT.seq ?_
                      refine TT.cond rfl (fun c86 => ?_) (fun c86 => ?_)
                      ·
                        have c86 : named s.name q = true := c86
                        refine TT.seq ?_
                        refine TT.region ?_
                        refine OT.pures hT 1 rfl ?_
                        refine OT.nil ?_
                        refine KT.seq ?_
                        refine TT.ret ?_
                        refine RT.of (rs := [.tmp 2]) [_] hs rfl (.tmp rfl .nil) (by repeat (first | exact Sel.refl _ | refine Sel.empty ?_ | refine Sel.pull (by repeat (first | exact Pull.head | apply Pull.tail)) ?_ | refine Sel.drop ?_)) ?_
                        dsimp only [one]
                        have hany2 : (xs.take i).any (named s.name) = true := List.any_eq_true.2 ⟨q, List.mem_of_getElem? (i := k) (by rw [List.getElem?_take, if_pos (by omega)]; exact hq), c86⟩
                        rw [if_pos hany2] at hp
                        exact ⟨by rw [← hp], rfl⟩
                      ·
                        have c86 : named s.name q = false := c86
                        refine TT.skip ?_
                        refine KT.blk ?_
                        refine KT.seq ?_
                        refine TT.region ?_
                        refine OT.pures hT 3 rfl ?_
                        refine OT.nil ?_
                        refine KT.loop (k + 1) ?_ ?_ (SubR.cons rfl (SubR.cons rfl (SubR.cons rfl (SubR.cons rfl (SubR.cons' rfl (by (try dsimp only); exact (int_eq (by rw [wrap_i64 (by omega) (by omega)]; omega))) (SubR.nil _)))))) (by repeat (first | exact Sel.refl _ | refine Sel.empty ?_ | refine Sel.pull (by repeat (first | exact Pull.head | apply Pull.tail)) ?_ | refine Sel.drop ?_))
                        · refine ⟨by omega, ?_⟩
                          rw [take_succ hq, List.any_append, hany, Bool.false_or]
                          simpa using c86
                        · omega
                    ·
                      have c75 := of_decide_eq_false c75
                      have hki : k = i := by omega
                      subst hki
                      rw [if_neg (by rw [hany]; decide)] at hp
                      refine TT.exit ?_
                      refine XT.seq ?_
                      refine XT.loop ?_
                      refine XT.here ?_
                      refine KT.seq ?_
                      refine TT.seq ?_
                      refine TT.region ?_
                      refine OT.pures hT 1 rfl ?_
                      refine OT.nil ?_
                      refine KT.seq ?_
                      refine TT.block ?_
                      refine TT.loop (ι := Nat × (List Bool)) (fun j => 1 ≤ (j.1) ∧ (j.1) ≤ 32 ∧ (j.2).length = 96 ∧ (match refIn s.inv (s.map.drop (j.1)) (j.2) with | none => false | some seen' => refOut next xs (k + 1) seen' (xs.drop (k + 1))) = refMay next xs) (fun j => 32 - (j.1)) (fun j => [(1, .pointer (some ⟨b_1, 0, none⟩)), (3, .pointer (some ⟨b_3, 0, none⟩)), (4, .int .i64 (k : Nat)), (5, .pointer (some ⟨b_5, 0, none⟩)), (7, .int .i64 ((j.1) : Nat))]) (fun j => [(b_3, blk (Lb (j.2)) 65 (0, 0))] :: [(b_5, blk (encSnap s) 42 (0, 0))] :: [(b_1, blk [.int .i64 next, .slice a0 xs.length c0] 24 (0, 0))] :: hs) (1, L) ?_ (SubR.cons rfl (SubR.cons rfl (SubR.cons rfl (SubR.cons rfl (SubR.cons rfl (SubR.nil _)))))) (by repeat (first | exact Sel.refl _ | refine Sel.empty ?_ | refine Sel.pull (by repeat (first | exact Pull.head | apply Pull.tail)) ?_ | refine Sel.drop ?_)) ?_
                      · dsimp only
                        exact ⟨by omega, by omega, hL, hp⟩
                      rintro ⟨k2, L2⟩ hI
                      dsimp only at hI
                      obtain ⟨hk1, hk2, hL2, hp⟩ := hI
                      show TT _ _ _ [(1, .pointer (some ⟨b_1, 0, none⟩)), (3, .pointer (some ⟨b_3, 0, none⟩)), (4, .int .i64 (k : Nat)), (5, .pointer (some ⟨b_5, 0, none⟩)), (7, .int .i64 (k2 : Nat))] ([(b_3, blk (Lb L2) 65 (0, 0))] :: [(b_5, blk (encSnap s) 42 (0, 0))] :: [(b_1, blk [.int .i64 next, .slice a0 xs.length c0] 24 (0, 0))] :: hs)
                      refine TT.seq ?_
                      refine TT.seq ?_
                      refine TT.region ?_
                      refine OT.pures hT 2 rfl ?_
                      refine OT.nil ?_
                      refine KT.seq ?_
                      refine TT.cond rfl (fun c88 => ?_) (fun c88 => ?_)
                      ·
                        have c88 := of_decide_eq_true c88
                        obtain ⟨n, hn⟩ := nth (l := s.map) (i := k2) (by omega)
                        rw [drop_cons hn, refIn] at hp
                        refine TT.skip ?_
                        refine KT.seq ?_
                        refine TT.seq ?_
                        refine TT.block ?_
                        refine TT.seq ?_
                        refine TT.region ?_
                        refine OT.pures hT 2 rfl ?_
                        refine OT.index_at hT rfl rfl rfl rfl (by omega) (by omega) rfl ?_
                        refine OT.load rfl rfl (Ld.one hT rfl Has.one.there (snap_at hn)) rfl ?_
                        refine OT.pures hT 1 rfl ?_
                        refine OT.nil ?_
                        refine KT.seq ?_
                        refine TT.seq ?_
                        refine TT.seq ?_
                        refine TT.region ?_
                        refine OT.pures hT 2 rfl ?_
                        refine OT.nil ?_
                        refine KT.seq ?_
                        refine TT.cond rfl (fun c96 => ?_) (fun c96 => ?_)
                        ·
                          have c96 : n = 0 := by simpa using c96
                          rw [if_pos c96] at hp
                          refine TT.exit ?_
                          refine XT.seq ?_
                          refine XT.here ?_
                          refine KT.seq ?_
                          refine TT.region ?_
                          refine OT.pures hT 3 rfl ?_
                          refine OT.nil ?_
                          refine KT.loop (k2 + 1, L2) ?_ ?_ (SubR.cons rfl (SubR.cons rfl (SubR.cons rfl (SubR.cons rfl (SubR.cons' rfl (by (try dsimp only); exact (int_eq (by rw [wrap_i64 (by omega) (by omega)]; omega))) (SubR.nil _)))))) (by repeat (first | exact Sel.refl _ | refine Sel.empty ?_ | refine Sel.pull (by repeat (first | exact Pull.head | apply Pull.tail)) ?_ | refine Sel.drop ?_))
                          · dsimp only
                            exact ⟨by omega, by omega, hL2, hp⟩
                          · dsimp only
                            omega
                        ·
                          have c96 : ¬ n = 0 := by simpa using c96
                          rw [if_neg c96] at hp
                          refine TT.skip ?_
                          refine KT.seq ?_
                          refine TT.seq ?_
                          refine TT.seq ?_
                          refine TT.region ?_
                          refine OT.pures hT 3 rfl ?_
                          refine OT.split 99 rfl (fun g99 => ?_) (fun g99 => ?_)
                          ·
                            have g99 := of_decide_eq_true g99
                            refine OT.pures hT 12 rfl ?_
                            refine OT.nil ?_
                            refine KT.seq ?_
                            refine TT.cond_true rfl ?_
                            refine TT.seq ?_
                            refine TT.region ?_
                            refine OT.pures hT 1 rfl ?_
                            refine OT.nil ?_
                            refine KT.seq ?_
                            refine TT.ret ?_
                            refine RT.of (rs := [.tmp 2]) [_] hs rfl (.tmp rfl .nil) (by repeat (first | exact Sel.refl _ | refine Sel.empty ?_ | refine Sel.pull (by repeat (first | exact Pull.head | apply Pull.tail)) ?_ | refine Sel.drop ?_)) ?_
                            dsimp only [one]
                            rw [if_pos (.inl g99)] at hp
                            exact ⟨by rw [← hp], rfl⟩
                          ·
                            have g99 := of_decide_eq_false g99
                            refine OT.pures hT 4 rfl ?_
                            refine OT.split 103 rfl (fun g103 => ?_) (fun g103 => ?_)
                            ·
                              have g103 := of_decide_eq_true g103
                              refine OT.pures hT 8 rfl ?_
                              refine OT.nil ?_
                              refine KT.seq ?_
                              refine TT.cond_true rfl ?_
                              refine TT.seq ?_
                              refine TT.region ?_
                              refine OT.pures hT 1 rfl ?_
                              refine OT.nil ?_
                              refine KT.seq ?_
                              refine TT.ret ?_
                              refine RT.of (rs := [.tmp 2]) [_] hs rfl (.tmp rfl .nil) (by repeat (first | exact Sel.refl _ | refine Sel.empty ?_ | refine Sel.pull (by repeat (first | exact Pull.head | apply Pull.tail)) ?_ | refine Sel.drop ?_)) ?_
                              dsimp only [one]
                              rw [if_pos (.inr (.inl g103))] at hp
                              exact ⟨by rw [← hp], rfl⟩
                            ·
                              have g103 := of_decide_eq_false g103
                              obtain ⟨bb, hbb⟩ := nth (l := L2) (i := n.toNat) (by omega)
                              refine OT.pures hT 1 rfl ?_
                              refine OT.index_at hT rfl rfl rfl rfl (by omega) (by omega) rfl ?_
                              refine OT.load rfl rfl (Ld.one hT rfl Has.one (Lb_at hbb)) rfl ?_
                              refine OT.pures hT 2 rfl ?_
                              refine OT.split 108 rfl (fun g108 => ?_) (fun g108 => ?_)
                              ·
                                refine OT.pures hT 3 rfl ?_
                                refine OT.nil ?_
                                refine KT.seq ?_
                                refine TT.cond_true rfl ?_
                                refine TT.seq ?_
                                refine TT.region ?_
                                refine OT.pures hT 1 rfl ?_
                                refine OT.nil ?_
                                refine KT.seq ?_
                                refine TT.ret ?_
                                refine RT.of (rs := [.tmp 2]) [_] hs rfl (.tmp rfl .nil) (by repeat (first | exact Sel.refl _ | refine Sel.empty ?_ | refine Sel.pull (by repeat (first | exact Pull.head | apply Pull.tail)) ?_ | refine Sel.drop ?_)) ?_
                                dsimp only [one]
                                rw [if_pos (.inr (.inr (.inl (by rw [hbb, g108]))))] at hp
                                exact ⟨by rw [← hp], rfl⟩
                              ·
                                refine OT.pures hT 1 rfl ?_
                                refine OT.load rfl rfl (Ld.one hT rfl (by repeat (first | exact Has.one | apply Has.there)) rfl) rfl ?_
                                refine OT.pures hT 1 rfl ?_
                                refine OT.nil ?_
                                refine KT.seq ?_
                                refine TT.cond rfl (fun c111 => ?_) (fun c111 => ?_)
                                ·
                                  refine TT.seq ?_
                                  refine TT.region ?_
                                  refine OT.pures hT 1 rfl ?_
                                  refine OT.nil ?_
                                  refine KT.seq ?_
                                  refine TT.ret ?_
                                  refine RT.of (rs := [.tmp 2]) [_] hs rfl (.tmp rfl .nil) (by repeat (first | exact Sel.refl _ | refine Sel.empty ?_ | refine Sel.pull (by repeat (first | exact Pull.head | apply Pull.tail)) ?_ | refine Sel.drop ?_)) ?_
                                  dsimp only [one]
                                  rw [if_pos (.inr (.inr (.inr c111)))] at hp
                                  exact ⟨by rw [← hp], rfl⟩
                                ·
                                  refine TT.skip ?_
                                  refine KT.seq ?_
                                  refine TT.region ?_
                                  refine OT.pures hT 1 rfl ?_
                                  rw [if_neg (by rw [hbb, g108, c111]; simp only [Option.some.injEq, Bool.false_eq_true, or_false]; omega)] at hp
                                  refine OT.index_at hT rfl rfl rfl rfl (by omega) (by omega) rfl ?_
                                  refine OT.store hT rfl rfl rfl rfl (by repeat (first | exact Pull.head | apply Pull.tail)) rfl (by rw [Lb_length, hL2]; show 0 + n.toNat * 1 + 1 ≤ 96; omega) rfl (.inl (Nat.le_refl _)) (Lb_set (by omega)) ?_
                                  refine OT.nil ?_
                                  refine KT.blk ?_
                                  refine KT.seq ?_
                                  refine TT.region ?_
                                  refine OT.pures hT 3 rfl ?_
                                  refine OT.nil ?_
                                  refine KT.loop (k2 + 1, L2.set n.toNat true) ?_ ?_ (SubR.cons rfl (SubR.cons rfl (SubR.cons rfl (SubR.cons rfl (SubR.cons' rfl (by (try dsimp only); exact (int_eq (by rw [wrap_i64 (by omega) (by omega)]; omega))) (SubR.nil _)))))) (by repeat (first | exact Sel.refl _ | refine Sel.empty ?_ | refine Sel.pull (by repeat (first | exact Pull.head | apply Pull.tail)) ?_ | refine Sel.drop ?_))
                                  · dsimp only
                                    exact ⟨by omega, by omega, by rw [List.length_set]; exact hL2, hp⟩
                                  · dsimp only
                                    omega
                      ·
                        have c88 := of_decide_eq_false c88
                        rw [List.drop_eq_nil_of_le (show s.map.length ≤ k2 by omega), refIn] at hp
                        dsimp only at hp
                        refine TT.exit ?_
                        refine XT.seq ?_
                        refine XT.loop ?_
                        refine XT.here ?_
                        refine KT.blk ?_
                        refine KT.seq ?_
                        refine TT.region ?_
                        refine OT.pures hT 3 rfl ?_
                        refine OT.nil ?_
                        refine KT.loop (k + 1, L2) ?_ ?_ (SubR.cons rfl (SubR.cons rfl (SubR.cons' rfl (by (try dsimp only); exact (int_eq (by rw [wrap_i64 (by omega) (by omega)]; omega))) (SubR.nil _)))) (by repeat (first | exact Sel.refl _ | refine Sel.empty ?_ | refine Sel.pull (by repeat (first | exact Pull.head | apply Pull.tail)) ?_ | refine Sel.drop ?_))
                        · dsimp only
                          exact ⟨by omega, hL2, hp⟩
                        · dsimp only
                          omega
        ·
          have c27 := of_decide_eq_false c27
          rw [List.drop_eq_nil_of_le (show xs.length ≤ i by omega), refOut] at hp
          refine TT.exit ?_
          refine XT.seq ?_
          refine XT.loop ?_
          refine XT.here ?_
          refine KT.seq ?_
          refine TT.seq ?_
          refine TT.region ?_
          refine OT.pures hT 1 rfl ?_
          refine OT.nil ?_
          refine KT.seq ?_
          refine TT.ret ?_
          refine RT.of (rs := [.tmp 2]) [_] hs rfl (.tmp rfl .nil) (by repeat (first | exact Sel.refl _ | refine Sel.empty ?_ | refine Sel.pull (by repeat (first | exact Pull.head | apply Pull.tail)) ?_ | refine Sel.drop ?_)) ?_
          dsimp only [one]
          exact ⟨by rw [← hp], rfl⟩

end Go.Proofs.Ytpijialhhdpobaa.Sx
