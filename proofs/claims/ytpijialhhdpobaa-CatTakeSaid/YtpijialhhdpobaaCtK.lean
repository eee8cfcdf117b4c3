/- CatTake: it answers true. Printed by a program of ours off the loaded program and our notes; Lean checks it. -/
import Derived.Test.YtpijialhhdpobaaPlJ
import Derived.Test.YtpijialhhdpobaaSxT
import Derived.Test.YtpijialhhdpobaaSxK
import Derived.Test.YtpijialhhdpobaaCtJ
namespace Go.Proofs.Ytpijialhhdpobaa.Sx
open Go Go.Sx Go.Pl
variable [Outer]

set_option maxHeartbeats 8000000 in
set_option maxRecDepth 100000 in
theorem law_CatTake {n : Int} {hs : List Chunk} : Fun Try.prog 8 [.int .i64 n] hs (fun v' hs' => v' = .bool true ∧ hs = hs') := by
  refine Fun.enter 101 Try.func8 rfl Try.ntmps8 rfl ?_
  refine TT.seq ?_
  refine TT.region ?_
  refine OT.pures hT 1 rfl ?_
  refine OT.nil ?_
  refine KT.seq ?_
  refine TT.seq ?_
  refine TT.region ?_
  refine OT.call Try.call9 rfl rfl rfl rfl (law20_begun) ?_
  rintro v_11 hs_11 ⟨rfl, rfl⟩
  refine OT.pures hT 1 rfl ?_
  refine OT.nil ?_
  refine KT.seq ?_
  refine TT.seq ?_
  refine TT.seq ?_
  refine TT.region ?_
  refine OT.pures hT 2 rfl ?_
  refine OT.nil ?_
  refine KT.seq ?_
  refine TT.cond rfl (fun c13 => ?_) (fun c13 => ?_)
  ·
    exact absurd c13 (by decide)
  ·
    refine TT.skip ?_
    refine KT.seq ?_
    refine TT.seq ?_
    refine TT.seq ?_
    refine TT.region ?_
    refine OT.pures hT 3 rfl ?_
    refine OT.split 16 rfl (fun g16 => ?_) (fun g16 => ?_)
    ·
      have g16 := of_decide_eq_true g16
      refine OT.pures hT 3 rfl ?_
      refine OT.nil ?_
      refine KT.seq ?_
      refine TT.cond_true rfl ?_
      refine TT.seq ?_
      refine TT.region ?_
      refine OT.pures hT 1 rfl ?_
      refine OT.nil ?_
      refine KT.seq ?_
      refine TT.ret ?_
      refine RT.of (rs := [.tmp 2]) [_] hs rfl (.tmp rfl .nil) (by repeat (first | exact Sel.refl _ | refine Sel.empty ?_ | refine Sel.pull (by repeat (first | exact Pull.head | apply Pull.tail)) ?_ | refine Sel.drop ?_)) ?_
      dsimp only [one]
      exact ⟨rfl, rfl⟩
    ·
      have g16 := of_decide_eq_false g16
      refine OT.pures hT 3 rfl ?_
      refine OT.nil ?_
      refine KT.seq ?_
      refine TT.cond rfl (fun c19 => ?_) (fun c19 => ?_)
      ·
        have c19 := of_decide_eq_true c19
        refine TT.seq ?_
        refine TT.region ?_
        refine OT.pures hT 1 rfl ?_
        refine OT.nil ?_
        refine KT.seq ?_
        refine TT.ret ?_
        refine RT.of (rs := [.tmp 2]) [_] hs rfl (.tmp rfl .nil) (by repeat (first | exact Sel.refl _ | refine Sel.empty ?_ | refine Sel.pull (by repeat (first | exact Pull.head | apply Pull.tail)) ?_ | refine Sel.drop ?_)) ?_
        dsimp only [one]
        exact ⟨rfl, rfl⟩
      ·
        have c19 := of_decide_eq_false c19
        refine TT.skip ?_
        refine KT.seq ?_
        refine TT.seq ?_
        refine TT.region ?_
        refine OT.alloc Try.zeroValue33 rfl rfl (fun b_4 => ?_)
        refine OT.nil ?_
        refine KT.seq ?_
        refine TT.seq ?_
        refine TT.seq ?_
        refine TT.region ?_
        refine OT.pures hT 1 rfl ?_
        refine OT.nil ?_
        refine KT.seq ?_
        refine TT.block ?_
        refine TT.chunk0 ?_
        refine TT.loop (ι := Nat × (Option Addr) × Nat × Nat × Chunk) (fun j => (j.1) ≤ 4 ∧ Own encSnap 35 42 (.slice (j.2.1) (j.2.2.1) (j.2.2.2.1)) (four.take (j.1)) (j.2.2.2.2)) (fun j => 4 - (j.1)) (fun j => [(0, .int .i64 n), (4, .pointer (some ⟨b_4, 0, none⟩)), (5, .int .i64 ((j.1) : Nat))]) (fun j => [(b_4, blk [.int .i64 ((j.1) : Nat), .slice (j.2.1) (j.2.2.1) (j.2.2.2.1)] 33 (0, 0))] :: (j.2.2.2.2) :: hs) (0, none, 0, 0, []) ?_ (SubR.cons rfl (SubR.cons rfl (SubR.cons rfl (SubR.nil _)))) (by repeat (first | exact Sel.refl _ | refine Sel.empty ?_ | refine Sel.pull (by repeat (first | exact Pull.head | apply Pull.tail)) ?_ | refine Sel.drop ?_)) ?_
        · dsimp only
          exact ⟨by omega, Own.nil⟩
        rintro ⟨i, a, l, c, K⟩ hI
        dsimp only at hI
        obtain ⟨hi, hO⟩ := hI
        show TT _ _ _ [(0, .int .i64 n), (4, .pointer (some ⟨b_4, 0, none⟩)), (5, .int .i64 (i : Nat))] ([(b_4, blk [.int .i64 (i : Nat), .slice a l c] 33 (0, 0))] :: K :: hs)
        refine TT.seq ?_
        refine TT.seq ?_
        refine TT.region ?_
        refine OT.pures hT 2 rfl ?_
        refine OT.nil ?_
        refine KT.seq ?_
        refine TT.cond rfl (fun c21 => ?_) (fun c21 => ?_)
        ·
          have c21 := of_decide_eq_true c21
          refine TT.skip ?_
          refine KT.seq ?_
          refine TT.seq ?_
          refine TT.block ?_
          refine TT.region ?_
          refine OT.load rfl rfl (Ld.struct_all hT rfl (by repeat (first | exact Has.one | apply Has.there)) rfl) rfl ?_
          refine OT.pures hT 3 rfl ?_
          refine OT.buildSlice (enc := Go.Sx.encB) (xs := [b8 (97 + (i : Int))]) (xos := [.tmp 28]) el29 rfl rfl rfl rfl (by rw [wrap_i64 (by omega) (by omega), b8_wrap]; rfl) (by simp [Value.cells]) (fun _ _ => rfl) rfl (by decide) rfl (fun v_29 H_29 ho_29 => ?_)
          refine OT.conv_bs (fun _ => rfl) hT rfl rfl rfl rfl rfl ho_29.row rfl ?_
          refine OT.call Try.call31 rfl rfl rfl rfl (cat_Add (by first | exact hO.row | exact hO.row.there | exact hO.row.there.there | exact hO.row.there.there.there | exact hO.row.there.there.there.there | exact hO.row.there.there.there.there.there | exact hO.row.there.there.there.there.there.there | exact hO.row.there.there.there.there.there.there.there) (Nat.le_trans (List.length_take_le' i four) (by decide)) (by omega)) ?_
          rintro v_31 hs_31 ⟨w31, H31, rfl, rfl, ho31⟩
          rw [addT i (by omega)] at ho31 ⊢
          dsimp only at ho31 ⊢
          obtain ⟨a31, c31, hv31⟩ := (ho31.row (hs := hs)).len
          subst hv31
          refine OT.pures hT 3 rfl ?_
          refine OT.store_all hT rfl rfl rfl rfl (by repeat (first | exact Pull.head | apply Pull.tail)) rfl rfl rfl (.inl (Nat.le_refl _)) ?_
          refine OT.nil ?_
          refine KT.blk ?_
          refine KT.seq ?_
          refine TT.region ?_
          refine OT.pures hT 3 rfl ?_
          refine OT.nil ?_
          refine KT.loop (i + 1, a31, (four.take (i + 1)).length, c31, H31) ?_ ?_ (SubR.cons rfl (SubR.cons rfl (SubR.cons' rfl (by (try dsimp only); exact (int_eq (by rw [wrap_i64 (by omega) (by omega)]; omega))) (SubR.nil _)))) (by repeat (first | exact Sel.refl _ | refine Sel.empty ?_ | refine Sel.pull (by repeat (first | exact Pull.head | apply Pull.tail)) ?_ | refine Sel.drop ?_))
          · dsimp only
            exact ⟨by omega, ho31⟩
          · dsimp only
            omega
        ·
          have c21 := of_decide_eq_false c21
          obtain rfl : i = 4 := by omega
          have hO : Own encSnap 35 42 (.slice a l c) (st 0) K := hO
          refine TT.exit ?_
          refine XT.seq ?_
          refine XT.loop ?_
          refine XT.here ?_
          refine KT.seq ?_
          refine TT.seq ?_
          refine TT.seq ?_
          refine TT.region ?_
          refine OT.pures hT 1 rfl ?_
          refine OT.nil ?_
          refine KT.seq ?_
          refine TT.block ?_
          refine TT.loop (ι := Nat × Chunk) (fun j => ((j.1) : Int) ≤ n ∧ Own encSnap 35 42 (.slice a l c) (st (j.1)) (j.2)) (fun j => (n - (j.1)).toNat) (fun j => [(0, .int .i64 n), (4, .pointer (some ⟨b_4, 0, none⟩)), (6, .int .i64 ((j.1) : Nat))]) (fun j => [(b_4, blk [.int .i64 4, .slice a l c] 33 (0, 0))] :: (j.2) :: hs) (0, K) ?_ (SubR.cons rfl (SubR.cons rfl (SubR.cons rfl (SubR.nil _)))) (by repeat (first | exact Sel.refl _ | refine Sel.empty ?_ | refine Sel.pull (by repeat (first | exact Pull.head | apply Pull.tail)) ?_ | refine Sel.drop ?_)) ?_
          · dsimp only
            exact ⟨by omega, hO⟩
          rintro ⟨m, K2⟩ hI
          dsimp only at hI
          obtain ⟨hm, hO2⟩ := hI
          show TT _ _ _ [(0, .int .i64 n), (4, .pointer (some ⟨b_4, 0, none⟩)), (6, .int .i64 (m : Nat))] ([(b_4, blk [.int .i64 4, .slice a l c] 33 (0, 0))] :: K2 :: hs)
          refine TT.seq ?_
          refine TT.seq ?_
          refine TT.region ?_
          refine OT.pures hT 3 rfl ?_
          refine OT.nil ?_
          refine KT.seq ?_
          refine TT.cond rfl (fun c36 => ?_) (fun c36 => ?_)
          ·
            have c36 := of_decide_eq_true c36
            refine TT.skip ?_
            refine KT.seq ?_
            refine TT.seq ?_
            refine TT.block ?_
            refine TT.seq ?_
            refine TT.region ?_
            refine OT.load rfl rfl (Ld.struct_all hT rfl (by repeat (first | exact Has.one | apply Has.there)) rfl) rfl ?_
            refine OT.call Try.call20 rfl rfl rfl rfl (cat_Take (by first | exact hO2.row | exact hO2.row.there | exact hO2.row.there.there | exact hO2.row.there.there.there | exact hO2.row.there.there.there.there | exact hO2.row.there.there.there.there.there | exact hO2.row.there.there.there.there.there.there | exact hO2.row.there.there.there.there.there.there.there) (by rw [st_len]; decide)) ?_
            rintro v_41 hs_41 ⟨rfl, rfl⟩
            rw [takeT m]
            dsimp only
            refine OT.pures hT 5 rfl ?_
            refine OT.nil ?_
            refine KT.seq ?_
            refine TT.seq ?_
            refine TT.seq ?_
            refine TT.region ?_
            refine OT.pures hT 5 rfl ?_
            refine OT.split 48 rfl (fun g48 => ?_) (fun g48 => ?_)
            ·
              rw [dec64] at g48; cases g48
            ·
              refine OT.pures hT 2 rfl ?_
              refine OT.split 50 rfl (fun g50 => ?_) (fun g50 => ?_)
              ·
                have g50 := of_decide_eq_true g50
                refine OT.pures hT 7 rfl ?_
                refine OT.split 57 rfl (fun g57 => ?_) (fun g57 => ?_)
                ·
                  rw [if_pos g50, wrap_i64 (by omega) (by omega), bne_self_eq_false] at g57; cases g57
                ·
                  refine OT.pures hT 3 rfl ?_
                  refine OT.split 60 rfl (fun g60 => ?_) (fun g60 => ?_)
                  ·
                    rw [decide_eq_true g50] at g60; cases g60
                  ·
                    refine OT.pures hT 4 rfl ?_
                    refine OT.nil ?_
                    refine KT.seq ?_
                    refine TT.cond_false rfl ?_
                    refine TT.skip ?_
                    refine KT.seq ?_
                    refine TT.seq ?_
                    refine TT.region ?_
                    refine OT.pures hT 1 rfl ?_
                    refine OT.nil ?_
                    refine KT.seq ?_
                    refine TT.cond rfl (fun c65 => ?_) (fun c65 => ?_)
                    ·
                      refine TT.region ?_
                      refine OT.pures hT 1 rfl ?_
                      refine OT.load rfl rfl (Ld.slc hT rfl (by repeat (first | exact Has.one | apply Has.there)) rfl) rfl ?_
                      refine OT.pures hT 6 rfl ?_
                      obtain ⟨s, hs4⟩ := nth (l := st m) (i := m % 4) (by rw [st_len]; omega)
                      have hs35 := st_35 m s (List.mem_of_getElem? hs4)
                      have hl4 := hO2.cap.1
                      rw [st_len] at hl4
                      obtain ⟨eb, eo, ec, ecs, efr, hva, rfl, hth, hle, hat, hget, hset⟩ := hO2.spot hs4
                      refine OT.reg 69 rfl (v := .int .i64 ((m % 4 : Nat) : Int)) (int_eq (tmod4 m)) ?_
                      refine OT.reg 72 rfl (v := .int .i64 ((1 + m / 4 : Nat) : Int)) (int_eq (by show IntKind.i64.wrap (1 + IntKind.i64.wrap ((m : Int).tdiv 4)) = _; rw [tdiv4, wrap_i64 (n := ((m / 4 : Nat) : Int)) (by omega) (by omega), wrap_i64 (by omega) (by omega)]; omega)) ?_
                      refine OT.reg 73 rfl (v := .int .i64 (32 + (m : Int))) (int_eq (if_pos g50)) ?_
                      refine OT.index_raw hT rfl rfl (congrArg some hva) rfl (by omega) (by rw [st_len]; omega) rfl ?_
                      refine OT.pures hT 1 rfl ?_
                      refine OT.index_at hT rfl rfl rfl rfl (by omega) (by omega) rfl ?_
                      refine OT.store hT rfl rfl rfl rfl (by repeat (first | exact Pull.head | apply Pull.tail)) rfl (by show _ + 1 ≤ _; omega) rfl hth rfl ?_
                      refine OT.nil ?_
                      refine KT.blk ?_
                      refine KT.seq ?_
                      refine TT.region ?_
                      refine OT.pures hT 3 rfl ?_
                      refine OT.nil ?_
                      refine KT.loop (m + 1, _) ?_ ?_ (SubR.cons rfl (SubR.cons rfl (SubR.cons' rfl (by (try dsimp only); exact (int_eq (by rw [wrap_i64 (by omega) (by omega)]; omega))) (SubR.nil _)))) (by repeat (first | exact Sel.refl _ | refine Sel.empty ?_ | refine Sel.pull (by repeat (first | exact Pull.head | apply Pull.tail)) ?_ | refine Sel.drop ?_))
                      · dsimp only
                        refine ⟨by omega, ?_⟩
                        rw [st_set g50 hs4]
                        exact hset (j := 3 + (1 + m / 4)) (by omega) (by show _ + 1 ≤ _; omega) (setMap_splice hs35 (by omega) _)
                      · dsimp only
                        omega
                    ·
                      rw [decide_eq_true g50] at c65; cases c65
              ·
                have g50 := of_decide_eq_false g50
                refine OT.pures hT 10 rfl ?_
                refine OT.split 60 rfl (fun g60 => ?_) (fun g60 => ?_)
                ·
                  refine OT.pures hT 4 rfl ?_
                  refine OT.nil ?_
                  refine KT.seq ?_
                  refine TT.cond rfl (fun c64 => ?_) (fun c64 => ?_)
                  ·
                    rw [if_neg g50] at c64; exact absurd c64 (by decide)
                  ·
                    refine TT.skip ?_
                    refine KT.seq ?_
                    refine TT.seq ?_
                    refine TT.region ?_
                    refine OT.pures hT 1 rfl ?_
                    refine OT.nil ?_
                    refine KT.seq ?_
                    refine TT.cond rfl (fun c65 => ?_) (fun c65 => ?_)
                    ·
                      rw [decide_eq_false g50] at c65; cases c65
                    ·
                      refine TT.skip ?_
                      refine KT.blk ?_
                      refine KT.seq ?_
                      refine TT.region ?_
                      refine OT.pures hT 3 rfl ?_
                      refine OT.nil ?_
                      refine KT.loop (m + 1, K2) ?_ ?_ (SubR.cons rfl (SubR.cons rfl (SubR.cons' rfl (by (try dsimp only); exact (int_eq (by rw [wrap_i64 (by omega) (by omega)]; omega))) (SubR.nil _)))) (by repeat (first | exact Sel.refl _ | refine Sel.empty ?_ | refine Sel.pull (by repeat (first | exact Pull.head | apply Pull.tail)) ?_ | refine Sel.drop ?_))
                      · dsimp only
                        refine ⟨by omega, ?_⟩
                        rw [st_big (m + 1) (by omega), ← st_big m (by omega)]
                        exact hO2
                      · dsimp only
                        omega
                ·
                  rw [decide_eq_false g50] at g60; cases g60
          ·
            have c36 := of_decide_eq_false c36
            refine TT.exit ?_
            refine XT.seq ?_
            refine XT.loop ?_
            refine XT.here ?_
            refine KT.seq ?_
            refine TT.seq ?_
            refine TT.region ?_
            refine OT.load rfl rfl (Ld.struct_all hT rfl (by repeat (first | exact Has.one | apply Has.there)) rfl) rfl ?_
            refine OT.call Try.call22 rfl rfl rfl rfl (cat_Copies (by first | exact hO2.row | exact hO2.row.there | exact hO2.row.there.there | exact hO2.row.there.there.there | exact hO2.row.there.there.there.there | exact hO2.row.there.there.there.there.there | exact hO2.row.there.there.there.there.there.there | exact hO2.row.there.there.there.there.there.there.there) (by rw [st_len]; decide)) ?_
            rintro v_78 hs_78 ⟨H78, rfl, ho78⟩
            rw [copT m] at ho78
            obtain ⟨a78, c78, hv78⟩ := (ho78.row (hs := hs)).len
            subst hv78
            have hul := upto_length (min m 64)
            refine OT.pures hT 1 rfl ?_
            refine OT.nil ?_
            refine KT.seq ?_
            refine TT.seq ?_
            refine TT.seq ?_
            refine TT.region ?_
            refine OT.pures hT 1 rfl ?_
            refine OT.nil ?_
            refine KT.seq ?_
            refine TT.block ?_
            refine TT.loop (ι := Nat) (fun j => (j) ≤ min m 64) (fun j => min m 64 - (j)) (fun j => [(0, .int .i64 n), (4, .pointer (some ⟨b_4, 0, none⟩)), (9, .slice a78 (upto (min m 64)).length c78), (10, .int .i64 ((j) : Nat))]) (fun j => H78 :: [(b_4, blk [.int .i64 4, .slice a l c] 33 (0, 0))] :: K2 :: hs) (0) ?_ (SubR.cons rfl (SubR.cons rfl (SubR.cons rfl (SubR.cons rfl (SubR.nil _))))) (by repeat (first | exact Sel.refl _ | refine Sel.empty ?_ | refine Sel.pull (by repeat (first | exact Pull.head | apply Pull.tail)) ?_ | refine Sel.drop ?_)) ?_
            · omega
            rintro k hk
            show TT _ _ _ [(0, .int .i64 n), (4, .pointer (some ⟨b_4, 0, none⟩)), (9, .slice a78 (upto (min m 64)).length c78), (10, .int .i64 (k : Nat))] (H78 :: [(b_4, blk [.int .i64 4, .slice a l c] 33 (0, 0))] :: K2 :: hs)
            refine TT.seq ?_
            refine TT.seq ?_
            refine TT.region ?_
            refine OT.pures hT 4 rfl ?_
            refine OT.nil ?_
            refine KT.seq ?_
            refine TT.cond rfl (fun c82 => ?_) (fun c82 => ?_)
            ·
              have c82 := of_decide_eq_true c82
              refine TT.skip ?_
              refine KT.seq ?_
              refine TT.seq ?_
              refine TT.block ?_
              refine TT.seq ?_
              refine TT.region ?_
              refine OT.pures hT 2 rfl ?_
              refine OT.index hT rfl rfl rfl rfl ho78.row (by omega) (upto_at (k := k) (by omega)) rfl (fun ad_87 hel_87 => ?_)
              refine OT.load rfl rfl (hel_87.ld_one hT rfl rfl) rfl ?_
              refine OT.pures hT 3 rfl ?_
              refine OT.nil ?_
              refine KT.seq ?_
              refine TT.cond rfl (fun c91 => ?_) (fun c91 => ?_)
              ·
                rw [wrap_i64 (by omega) (by omega), bne_self_eq_false] at c91; cases c91
              ·
                refine TT.skip ?_
                refine KT.blk ?_
                refine KT.seq ?_
                refine TT.region ?_
                refine OT.pures hT 3 rfl ?_
                refine OT.nil ?_
                refine KT.loop (k + 1) ?_ ?_ (SubR.cons rfl (SubR.cons rfl (SubR.cons rfl (SubR.cons' rfl (by (try dsimp only); exact (int_eq (by rw [wrap_i64 (by omega) (by omega)]; omega))) (SubR.nil _))))) (by repeat (first | exact Sel.refl _ | refine Sel.empty ?_ | refine Sel.pull (by repeat (first | exact Pull.head | apply Pull.tail)) ?_ | refine Sel.drop ?_))
                · omega
                · omega
            ·
              have c82 := of_decide_eq_false c82
              refine TT.exit ?_
              refine XT.seq ?_
              refine XT.loop ?_
              refine XT.here ?_
              refine KT.seq ?_
              refine TT.seq ?_
              refine TT.region ?_
              refine OT.pures hT 6 rfl ?_
              refine OT.split 97 rfl (fun g97 => ?_) (fun g97 => ?_)
              ·
                refine OT.load rfl rfl (Ld.struct_all hT rfl (by repeat (first | exact Has.one | apply Has.there)) rfl) rfl ?_
                refine OT.call Try.call15 rfl rfl rfl rfl (cat_May (by first | exact hO2.row | exact hO2.row.there | exact hO2.row.there.there | exact hO2.row.there.there.there | exact hO2.row.there.there.there.there | exact hO2.row.there.there.there.there.there | exact hO2.row.there.there.there.there.there.there | exact hO2.row.there.there.there.there.there.there.there) (by rw [st_len]; decide)) ?_
                rintro v_99 hs_99 ⟨rfl, rfl⟩
                rw [mayT m]
                refine OT.pures hT 2 rfl ?_
                refine OT.nil ?_
                refine KT.seq ?_
                refine TT.ret ?_
                refine RT.of (rs := [.tmp 2]) [_] hs rfl (.tmp rfl .nil) (by repeat (first | exact Sel.refl _ | refine Sel.empty ?_ | refine Sel.pull (by repeat (first | exact Pull.head | apply Pull.tail)) ?_ | refine Sel.drop ?_)) ?_
                dsimp only [one]
                exact ⟨rfl, rfl⟩
              ·
                exact absurd g97 (by rw [hul, show (((min m 64 : Nat)) : Int) = min n 64 by omega]; simp)

end Go.Proofs.Ytpijialhhdpobaa.Sx
