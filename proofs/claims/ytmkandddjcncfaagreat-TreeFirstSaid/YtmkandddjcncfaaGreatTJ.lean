/- Several texts in one. Laws of trees. Printed by a program of ours off the loaded program and our notes; Lean checks it. Laws of trees: where there is no room all stays. Printed by a program of ours off the loaded program and our notes; Lean checks it. Laws of trees: spans, orders. Printed by a program of ours off the loaded program and our notes; Lean checks it. Laws of trees: in place of others; as many as there is room for. Printed by a program of ours off the loaded program and our notes; Lean checks it. Laws of trees: in whatever order. Printed by a program of ours off the loaded program and our notes; Lean checks it. -/
import Derived.Test.YtmkandddjcncfaaGreatTI
import Derived.Test.YtmkandddjcncfaaGreatTE
import Derived.Test.YtmkandddjcncfaaGreatTF
import Derived.Test.YtmkandddjcncfaaGreatTB
set_option linter.unusedVariables false
set_option linter.unusedSimpArgs false
set_option linter.unusedSectionVars false

section
namespace Go.Proofs.YtmkandddjcncfaaGreat.Sx
open Go Go.Sx Go.Pl
variable [Outer]

set_option maxHeartbeats 2000000 in
set_option maxRecDepth 100000 in
theorem law_TreeFirst {n at0 : Int} (hr1 : -9223372036854775808 ≤ n ∧ n ≤ 9223372036854775807) (hr2 : -9223372036854775808 ≤ at0 ∧ at0 ≤ 9223372036854775807) {hs : List Chunk} : Fun Tryz.prog 10 [.int .i64 n, .int .i64 at0] hs (fun v' hs' => v' = .bool true ∧ hs = hs') := by
  refine Fun.enter 64 Tryz.func10 rfl Tryz.ntmps10 rfl ?_
  refine TT.seq (.region (.pures hT 1 rfl (.nil (.seq (.seq (.region (.call Tryz.call13 rfl rfl rfl rfl (law14_begun) ?_)))))))
  rintro v_10 hs_10 ⟨rfl, rfl⟩
  refine OT.pures hT 1 rfl (.nil (.seq (.seq (.seq (.region (.pures hT 2 rfl (.nil (.seq (.cond_false rfl (.skip (.seq (.seq (.seq (.region (.pures hT 3 rfl (.split 15 rfl (fun g15 => ?_) (fun g15 => ?_)))))))))))))))))
  ·
    have g15 := of_decide_eq_true g15
    refine OT.pures hT 11 rfl (.nil (.seq (.cond_true rfl (.seq (.region (.pures hT 1 rfl (.nil (.seq (.ret (.of (rs := [.tmp 4]) [_] hs rfl (.tmp rfl .nil) sl ?_))))))))))
    try dsimp only [one]
    exact ⟨rfl, rfl⟩
  ·
    have g15 := of_decide_eq_false g15
    refine OT.pures hT 4 rfl (.split 19 rfl (fun g19 => ?_) (fun g19 => ?_))
    ·
      have g19 := of_decide_eq_true g19
      refine OT.pures hT 7 rfl (.nil (.seq (.cond_true rfl (.seq (.region (.pures hT 1 rfl (.nil (.seq (.ret (.of (rs := [.tmp 4]) [_] hs rfl (.tmp rfl .nil) sl ?_))))))))))
      try dsimp only [one]
      exact ⟨rfl, rfl⟩
    ·
      have g19 := of_decide_eq_false g19
      refine OT.pures hT 4 rfl (.split 23 rfl (fun g23 => ?_) (fun g23 => ?_))
      ·
        have g23 := of_decide_eq_true g23
        refine OT.pures hT 3 rfl (.nil (.seq (.cond_true rfl (.seq (.region (.pures hT 1 rfl (.nil (.seq (.ret (.of (rs := [.tmp 4]) [_] hs rfl (.tmp rfl .nil) sl ?_))))))))))
        try dsimp only [one]
        exact ⟨rfl, rfl⟩
      ·
        have g23 := of_decide_eq_false g23
        refine OT.pures hT 3 rfl (.nil (.seq (.cond rfl (fun c26 => ?_) (fun c26 => ?_))))
        ·
          have c26 := of_decide_eq_true c26
          refine TT.seq (.region (.pures hT 1 rfl (.nil (.seq (.ret (.of (rs := [.tmp 4]) [_] hs rfl (.tmp rfl .nil) sl ?_))))))
          try dsimp only [one]
          exact ⟨rfl, rfl⟩
        ·
          have c26 := of_decide_eq_false c26
          obtain ⟨n, rfl⟩ : ∃ m : Nat, n = m := ⟨n.toNat, by omega⟩
          obtain ⟨at0, rfl⟩ : ∃ m : Nat, at0 = m := ⟨at0.toNat, by omega⟩
          refine TT.skip (.seq (.seq (.region (.build (cs := bkCells (List.replicate 96 (.slice none 0 0))) hT rfl Tryz.zeroValue29 rfl rfl rfl rfl (.box rfl rfl rfl (fun b_28 => ?_))))))
          refine OT.mkiface Tryz.underlying25 rfl rfl rfl rfl ?_
          have hB0 : BkAt 29 b_28 noP [(b_28, blk (bkCells (List.replicate 96 (.slice none 0 0))) 29 (0, 0))] := BkAt.one (Slots.zero [[]])
          show OT _ _ _ _ _ ([(b_28, blk (bkCells (List.replicate 96 (.slice none 0 0))) 29 (0, 0))] :: hs)
          generalize ([(b_28, blk (bkCells (List.replicate 96 (.slice none 0 0))) 29 (0, 0))] : Chunk) = HB at hB0 ⊢
          refine OT.call Tryz.call14 rfl rfl rfl rfl (tk_New hB0) ?_
          rintro v_30 hs_30 ⟨b1, HS0, rfl, rfl, hS0⟩
          refine OT.pures hT 1 rfl (.nil (.seq (.seq (.region (.pures hT 1 rfl (.nil (.seq (.seq (.seq (.region (.pures hT 1 rfl (.nil (.seq (.block (.loop (ι := Nat × Value × Chunk × Chunk × Gone) (fun j => (j.1) ≤ n ∧ TrS b1 (j.2.2.2.2) (j.2.2.2.1) ∧ (j.2.2.2.2).2 = fillL (fun j => twoC ((j * 5 + at0) % 19) 1099511627776) (j.1) ∧ Own encCell 8 66 (j.2.1) (fillL (fun j => twoC ((j * 5 + at0) % 19) 1099511627776) (j.1)) (j.2.2.1)) (fun j => n - (j.1)) (fun j => [(0, .int .i64 (n : Nat)), (1, .int .i64 (at0 : Nat)), (6, .pointer (some ⟨b1, 0, none⟩)), (7, (j.2.1)), (8, .int .i64 ((j.1) : Nat))]) (fun j => (j.2.2.1) :: (j.2.2.2.1) :: hs) (0, .slice none 0 0, [], HS0, ([], [])) ?_ (SubR.cons rfl (SubR.cons rfl (SubR.cons rfl (SubR.cons rfl (SubR.cons rfl (SubR.nil _)))))) (.empty sl) ?_)))))))))))))))
          · dsimp only
            exact ⟨Nat.zero_le _, hS0, rfl, Own.nil⟩
          rintro ⟨i, w, K, HS, g⟩ hI
          dsimp only at hI
          obtain ⟨hi, hS, hg, hoK⟩ := hI
          show TT _ _ _ [(0, .int .i64 (n : Nat)), (1, .int .i64 (at0 : Nat)), (6, .pointer (some ⟨b1, 0, none⟩)), (7, w), (8, .int .i64 (i : Nat))] (K :: HS :: hs)
          refine TT.seq (.seq (.region (.pures hT 3 rfl (.nil (.seq (.cond rfl (fun c33 => ?_) (fun c33 => ?_)))))))
          ·
            have c33 := of_decide_eq_true c33
            have hlen := fillL_len (fun j => twoC ((j * 5 + at0) % 19) 1099511627776) i
            refine TT.skip (.seq (.seq (.block (.seq (.region (.pures hT 5 rfl (.reg 40 rfl (v := .int .i64 (((i * 5 + at0) % 19 : Nat) : Int)) (int_eq (by rw [show (5 : Int) = ((5 : Nat) : Int) from rfl, w_mul (by omega) (by omega), w_add (by omega) (by omega), show (19 : Int) = ((19 : Nat) : Int) from rfl, tmod_nat])) (.call Tryz.call16 rfl rfl rfl rfl (law14_keyOf (by omega)) ?_))))))))
            rintro v_41 hs_41 ⟨rfl, rfl⟩
            refine OT.call Tryz.call17 rfl rfl rfl rfl (law14_val (n := 20) (by omega)) ?_
            rintro v_42 hs_42 ⟨rfl, rfl⟩
            refine OT.call Tryz.call17 rfl rfl rfl rfl (law14_val (n := 20) (by omega)) ?_
            rintro v_43 hs_43 ⟨rfl, rfl⟩
            refine OT.build (cs := encCell (twoC ((i * 5 + at0) % 19) 1099511627776)) hT rfl Tryz.zeroValue66 rfl rfl rfl rfl (.alloc Tryz.zeroValue66 rfl rfl (fun b_9 => ?_))
            refine OT.store_all hT rfl rfl rfl rfl pl rfl rfl rfl (.inl (Nat.le_refl _)) ?_
            refine OT.nil (.seq (.seq (.seq (.region (.pures hT 2 rfl (.load rfl rfl (Ld.one hT rfl hz rfl) rfl ?_))))))
            refine OT.pures hT 1 rfl (.load rfl rfl (Ld.struct (vs := encVl ((twoC ((i * 5 + at0) % 19) 1099511627776)).val) hT rfl hz rfl rfl) rfl ?_)
            refine OT.pures hT 1 rfl (.load rfl rfl (Ld.one hT rfl hz rfl) rfl ?_)
            refine OT.pures hT 1 rfl (.load rfl rfl (Ld.struct (vs := encVl ((twoC ((i * 5 + at0) % 19) 1099511627776)).new) hT rfl hz rfl rfl) rfl ?_)
            refine OT.build (cs := encCell (twoC ((i * 5 + at0) % 19) 1099511627776)) hT rfl Tryz.zeroValue38 rfl rfl rfl rfl (.call Tryz.call15 rfl rfl rfl rfl (Fun.pull pl (tk_Put hS (x := (twoC ((i * 5 + at0) % 19) 1099511627776)) (two_fl _ _))) ?_)
            rintro v_55 hs_55 ⟨HS1, g1, e1, rfl, rfl, hS1, hp⟩
            obtain ⟨rfl, hg1⟩ := put_few (two_may (by decide) (by decide)) (by rw [hg]; omega) hp
            refine OT.pures hT 1 rfl (.nil (.seq (.cond_false rfl (.skip (.seq (.region (.pures hT 1 rfl (.load rfl rfl (Ld.struct_all hT rfl hz rfl) rfl ?_))))))))
            refine OT.call Tryz.call31 rfl rfl rfl rfl (Fun.pull pl (law14_put hoK (by omega))) ?_
            rintro v_59 hs_59 ⟨K1, rfl, hoK1⟩
            refine OT.pures hT 1 rfl (.nil (.blk (.seq (.region (.pures hT 3 rfl (.nil (.loop (i + 1, v_59, K1, HS1, g1) ?_ ?_ (SubR.cons rfl (SubR.cons rfl (SubR.cons rfl (SubR.cons rfl (SubR.cons' rfl (by (try dsimp only); exact (int_eq (by rw [wrap_i64 (by omega) (by omega)]; omega))) (SubR.nil _)))))) sl)))))))
            · dsimp only
              exact ⟨by omega, hS1, by rw [hg1, hg]; rfl, by rw [fillL_put (f := (fun j => twoC ((j * 5 + at0) % 19) 1099511627776))] at hoK1; exact hoK1⟩
            · dsimp only
              omega
          ·
            have c33 := of_decide_eq_false c33
            obtain rfl : i = n := by omega
            refine TT.exit (.seq (.loop (.here (.seq (.seq (.region (.pures hT 1 rfl (.mkiface Tryz.underlying23 rfl rfl rfl rfl (.pures hT 1 rfl ?_)))))))))
            refine OT.call Tryz.call37 rfl rfl rfl rfl (Fun.pull pl (law14_same hS (v := w) (by rw [hg]; exact hoK.row) (fun x hx => by
              rw [hg] at hx
              obtain ⟨j, _, rfl⟩ := fillL_mem hx
              exact two_fl _ _))) ?_
            rintro v_63 hs_63 ⟨HS2, rfl, rfl, _⟩
            refine OT.pures hT 1 rfl (.nil (.seq (.ret (.of (rs := [.tmp 4]) [_] hs rfl (.tmp rfl .nil) sl ?_))))
            try dsimp only [one]
            exact ⟨rfl, rfl⟩

set_option maxHeartbeats 2000000 in
set_option maxRecDepth 100000 in
theorem law_TreeTurns {n0 n : Int} (hr1 : -9223372036854775808 ≤ n0 ∧ n0 ≤ 9223372036854775807) (hr2 : -9223372036854775808 ≤ n ∧ n ≤ 9223372036854775807) {hs : List Chunk} : Fun Tryz.prog 9 [.int .i64 n0, .int .i64 n] hs (fun v' hs' => v' = .bool true ∧ hs = hs') := by
  refine Fun.enter 93 Tryz.func9 rfl Tryz.ntmps9 rfl ?_
  refine TT.seq (.region (.pures hT 1 rfl (.nil (.seq (.seq (.region (.call Tryz.call13 rfl rfl rfl rfl (law14_begun) ?_)))))))
  rintro v_14 hs_14 ⟨rfl, rfl⟩
  refine OT.pures hT 1 rfl (.nil (.seq (.seq (.seq (.region (.pures hT 2 rfl (.nil (.seq (.cond_false rfl (.skip (.seq (.seq (.seq (.region (.pures hT 3 rfl (.split 19 rfl (fun g19 => ?_) (fun g19 => ?_)))))))))))))))))
  ·
    have g19 := of_decide_eq_true g19
    refine OT.pures hT 11 rfl (.nil (.seq (.cond_true rfl (.seq (.region (.pures hT 1 rfl (.nil (.seq (.ret (.of (rs := [.tmp 4]) [_] hs rfl (.tmp rfl .nil) sl ?_))))))))))
    try dsimp only [one]
    exact ⟨rfl, rfl⟩
  ·
    have g19 := of_decide_eq_false g19
    refine OT.pures hT 4 rfl (.split 23 rfl (fun g23 => ?_) (fun g23 => ?_))
    ·
      have g23 := of_decide_eq_true g23
      refine OT.pures hT 7 rfl (.nil (.seq (.cond_true rfl (.seq (.region (.pures hT 1 rfl (.nil (.seq (.ret (.of (rs := [.tmp 4]) [_] hs rfl (.tmp rfl .nil) sl ?_))))))))))
      try dsimp only [one]
      exact ⟨rfl, rfl⟩
    ·
      have g23 := of_decide_eq_false g23
      refine OT.pures hT 4 rfl (.split 27 rfl (fun g27 => ?_) (fun g27 => ?_))
      ·
        have g27 := of_decide_eq_true g27
        refine OT.pures hT 3 rfl (.nil (.seq (.cond_true rfl (.seq (.region (.pures hT 1 rfl (.nil (.seq (.ret (.of (rs := [.tmp 4]) [_] hs rfl (.tmp rfl .nil) sl ?_))))))))))
        try dsimp only [one]
        exact ⟨rfl, rfl⟩
      ·
        have g27 := of_decide_eq_false g27
        refine OT.pures hT 3 rfl (.nil (.seq (.cond rfl (fun c30 => ?_) (fun c30 => ?_))))
        ·
          have c30 := of_decide_eq_true c30
          refine TT.seq (.region (.pures hT 1 rfl (.nil (.seq (.ret (.of (rs := [.tmp 4]) [_] hs rfl (.tmp rfl .nil) sl ?_))))))
          try dsimp only [one]
          exact ⟨rfl, rfl⟩
        ·
          have c30 := of_decide_eq_false c30
          obtain ⟨n0, rfl⟩ : ∃ m : Nat, n0 = m := ⟨n0.toNat, by omega⟩
          obtain ⟨n, rfl⟩ : ∃ m : Nat, n = m := ⟨n.toNat, by omega⟩
          refine TT.skip (.seq (.seq (.region (.build (cs := bkCells (List.replicate 96 (.slice none 0 0))) hT rfl Tryz.zeroValue29 rfl rfl rfl rfl (.box rfl rfl rfl (fun b_32 => ?_))))))
          refine OT.mkiface Tryz.underlying25 rfl rfl rfl rfl ?_
          have hB0 : BkAt 29 b_32 noP [(b_32, blk (bkCells (List.replicate 96 (.slice none 0 0))) 29 (0, 0))] := BkAt.one (Slots.zero [[]])
          show OT _ _ _ _ _ ([(b_32, blk (bkCells (List.replicate 96 (.slice none 0 0))) 29 (0, 0))] :: hs)
          generalize ([(b_32, blk (bkCells (List.replicate 96 (.slice none 0 0))) 29 (0, 0))] : Chunk) = HB at hB0 ⊢
          refine OT.call Tryz.call14 rfl rfl rfl rfl (tk_New hB0) ?_
          rintro v_34 hs_34 ⟨b1, HS0, rfl, rfl, hS0⟩
          refine OT.pures hT 1 rfl (.nil (.seq (.seq (.seq (.region (.pures hT 1 rfl (.nil (.seq (.block (.loop (ι := Nat × Chunk) (fun j => (j.1) ≤ n0 ∧ TrS b1 ([], []) (j.2)) (fun j => n0 - (j.1)) (fun j => [(0, .int .i64 (n0 : Nat)), (1, .int .i64 (n : Nat)), (6, .pointer (some ⟨b1, 0, none⟩)), (7, .int .i64 ((j.1) : Nat))]) (fun j => (j.2) :: hs) (0, HS0) ?_ (SubR.cons rfl (SubR.cons rfl (SubR.cons rfl (SubR.cons rfl (SubR.nil _))))) sl ?_))))))))))
          · dsimp only
            exact ⟨Nat.zero_le _, hS0⟩
          rintro ⟨r, HS⟩ hI
          dsimp only at hI
          obtain ⟨hr, hS⟩ := hI
          show TT _ _ _ [(0, .int .i64 (n0 : Nat)), (1, .int .i64 (n : Nat)), (6, .pointer (some ⟨b1, 0, none⟩)), (7, .int .i64 (r : Nat))] (HS :: hs)
          refine TT.seq (.seq (.region (.pures hT 3 rfl (.nil (.seq (.cond rfl (fun c37 => ?_) (fun c37 => ?_)))))))
          ·
            have c37 := of_decide_eq_true c37
            refine TT.skip (.seq (.seq (.block (.seq (.seq (.region (.pures hT 1 rfl (.nil (.seq (.block (.loop (ι := Nat × Chunk × Gone) (fun j => (j.1) ≤ n ∧ TrS b1 (j.2.2) (j.2.1) ∧ (j.2.2).2 = fillL (turnC r) (j.1)) (fun j => n - (j.1)) (fun j => [(0, .int .i64 (n0 : Nat)), (1, .int .i64 (n : Nat)), (6, .pointer (some ⟨b1, 0, none⟩)), (7, .int .i64 (r : Nat)), (8, .int .i64 ((j.1) : Nat))]) (fun j => (j.2.1) :: hs) (0, HS, ([], [])) ?_ (SubR.cons rfl (SubR.cons rfl (SubR.cons rfl (SubR.cons rfl (SubR.cons rfl (SubR.nil _)))))) sl ?_)))))))))))
            · dsimp only
              exact ⟨Nat.zero_le _, hS, rfl⟩
            rintro ⟨i, HS, g⟩ hI
            dsimp only at hI
            obtain ⟨hi, hS, hg⟩ := hI
            show TT _ _ _ [(0, .int .i64 (n0 : Nat)), (1, .int .i64 (n : Nat)), (6, .pointer (some ⟨b1, 0, none⟩)), (7, .int .i64 (r : Nat)), (8, .int .i64 (i : Nat))] (HS :: hs)
            refine TT.seq (.seq (.region (.pures hT 3 rfl (.nil (.seq (.cond rfl (fun c42 => ?_) (fun c42 => ?_)))))))
            ·
              have c42 := of_decide_eq_true c42
              have hlen := fillL_len (turnC r) i
              refine TT.skip (.seq (.seq (.block (.seq (.region (.pures hT 6 rfl (.reg 50 rfl (v := .int .i64 ((i * 7 % 19 + r : Nat) : Int)) (int_eq (by rw [show (7 : Int) = ((7 : Nat) : Int) from rfl, w_mul (by omega) (by omega), show (19 : Int) = ((19 : Nat) : Int) from rfl, tmod_nat, w_add (by omega) (by omega)])) (.call Tryz.call16 rfl rfl rfl rfl (law14_keyOf (by omega)) ?_))))))))
              rintro v_51 hs_51 ⟨rfl, rfl⟩
              refine OT.call Tryz.call17 rfl rfl rfl rfl (law14_val (n := 20) (by omega)) ?_
              rintro v_52 hs_52 ⟨rfl, rfl⟩
              refine OT.build (cs := encCell (turnC r i)) hT rfl Tryz.zeroValue38 rfl rfl rfl rfl (.call Tryz.call15 rfl rfl rfl rfl (Fun.pull pl (tk_Put hS (x := (turnC r i)) (one_fl _ _))) ?_)
              rintro v_54 hs_54 ⟨HS1, g1, e1, rfl, rfl, hS1, hp⟩
              obtain ⟨rfl, hg1⟩ := put_few (one_may (Nat.le_refl _)) (by rw [hg]; omega) hp
              refine OT.pures hT 1 rfl (.nil (.seq (.cond_false rfl (.skip (.blk (.seq (.region (.pures hT 3 rfl (.nil (.loop (i + 1, HS1, g1) ?_ ?_ (SubR.cons rfl (SubR.cons rfl (SubR.cons rfl (SubR.cons rfl (SubR.cons' rfl (by (try dsimp only); exact (int_eq (by rw [wrap_i64 (by omega) (by omega)]; omega))) (SubR.nil _)))))) sl))))))))))
              · dsimp only
                exact ⟨by omega, hS1, by rw [hg1, hg]; rfl⟩
              · dsimp only
                omega
            ·
              have c42 := of_decide_eq_false c42
              obtain rfl : i = n := by omega
              have hL0 : LeftC (turnC r) 0 i g.2 := by rw [hg]; exact LeftC.fill (turn_apart (by omega) (by omega))
              refine TT.exit (.seq (.loop (.here (.seq (.seq (.seq (.region (.pures hT 1 rfl (.nil (.seq (.block (.loop (ι := Nat × Chunk × Gone) (fun j => (j.1) ≤ i ∧ TrS b1 (j.2.2) (j.2.1) ∧ LeftC (turnC r) (j.1) i (j.2.2).2) (fun j => i - (j.1)) (fun j => [(0, .int .i64 (n0 : Nat)), (1, .int .i64 (i : Nat)), (6, .pointer (some ⟨b1, 0, none⟩)), (7, .int .i64 (r : Nat)), (9, .int .i64 ((j.1) : Nat))]) (fun j => (j.2.1) :: hs) (0, HS, g) ?_ (SubR.cons rfl (SubR.cons rfl (SubR.cons rfl (SubR.cons rfl (SubR.cons rfl (SubR.nil _)))))) sl ?_))))))))))))
              · dsimp only
                exact ⟨Nat.zero_le _, hS, hL0⟩
              rintro ⟨k, HS, g⟩ hI
              dsimp only at hI
              obtain ⟨hk, hS, hL⟩ := hI
              show TT _ _ _ [(0, .int .i64 (n0 : Nat)), (1, .int .i64 (i : Nat)), (6, .pointer (some ⟨b1, 0, none⟩)), (7, .int .i64 (r : Nat)), (9, .int .i64 (k : Nat))] (HS :: hs)
              refine TT.seq (.seq (.region (.pures hT 3 rfl (.nil (.seq (.cond rfl (fun c58 => ?_) (fun c58 => ?_)))))))
              ·
                have c58 := of_decide_eq_true c58
                have hhas : (getC g.2 (keyN (k * 7 % 19 + r))).isSome = true := hL.has (by omega)
                refine TT.skip (.seq (.seq (.block (.seq (.region (.pures hT 6 rfl (.reg 67 rfl (v := .int .i64 ((k * 7 % 19 + r : Nat) : Int)) (int_eq (by rw [show (7 : Int) = ((7 : Nat) : Int) from rfl, w_mul (by omega) (by omega), show (19 : Int) = ((19 : Nat) : Int) from rfl, tmod_nat, w_add (by omega) (by omega)])) (.call Tryz.call16 rfl rfl rfl rfl (law14_keyOf (by omega)) ?_))))))))
                rintro v_68 hs_68 ⟨rfl, rfl⟩
                refine OT.call Tryz.call26 rfl rfl rfl rfl (Fun.pull pl (tk_Del hS)) ?_
                rintro v_69 hs_69 ⟨HS3, g3, rfl, rfl, hS3, hg3, _⟩
                rw [hhas]
                refine OT.pures hT 5 rfl (.nil (.seq (.seq (.region (.pures hT 3 rfl (.pures hT 3 rfl (.nil (.seq (.cond_false rfl (.skip (.blk (.seq (.region (.pures hT 3 rfl (.nil (.loop (k + 1, HS3, g3) ?_ ?_ (SubR.cons rfl (SubR.cons rfl (SubR.cons rfl (SubR.cons rfl (SubR.cons' rfl (by (try dsimp only); exact (int_eq (by rw [wrap_i64 (by omega) (by omega)]; omega))) (SubR.nil _)))))) sl))))))))))))))))
                · dsimp only
                  exact ⟨by omega, hS3, by rw [hg3]; exact hL.cut (turn_apart (by omega) (by omega)) (by omega)⟩
                · dsimp only
                  omega
              ·
                have c58 := of_decide_eq_false c58
                obtain rfl : k = i := by omega
                have hnil := hS.nil hL.none
                subst hnil
                refine TT.exit (.seq (.loop (.here (.seq (.seq (.region (.pures hT 1 rfl (.mkiface Tryz.underlying23 rfl rfl rfl rfl (.call Tryz.call39 rfl rfl rfl rfl (Fun.pull pl (tk_Count hS)) ?_)))))))))
                rintro v_81 hs_81 ⟨HS4, rfl, rfl, hS4⟩
                refine OT.pures hT 5 rfl (.nil (.seq (.seq (.region (.pures hT 3 rfl (.pures hT 3 rfl (.nil (.seq (.cond_false rfl (.skip (.blk (.seq (.region (.pures hT 3 rfl (.nil (.loop (r + 1, HS4) ?_ ?_ (SubR.cons rfl (SubR.cons rfl (SubR.cons rfl (SubR.cons' rfl (by (try dsimp only); exact (int_eq (by rw [wrap_i64 (by omega) (by omega)]; omega))) (SubR.nil _))))) sl))))))))))))))))
                · dsimp only
                  exact ⟨by omega, hS4⟩
                · dsimp only
                  omega
          ·
            have c37 := of_decide_eq_false c37
            obtain rfl : r = n0 := by omega
            refine TT.exit (.seq (.loop (.here (.seq (.seq (.region (.pures hT 1 rfl (.mkiface Tryz.underlying23 rfl rfl rfl rfl (.call Tryz.call37 rfl rfl rfl rfl (Fun.pull pl (law14_same hS (v := .slice none 0 0) Row.nil (fun x hx => by cases hx))) ?_)))))))))
            rintro v_92 hs_92 ⟨HS5, rfl, rfl, _⟩
            refine OT.pures hT 1 rfl (.nil (.seq (.ret (.of (rs := [.tmp 4]) [_] hs rfl (.tmp rfl .nil) sl ?_))))
            try dsimp only [one]
            exact ⟨rfl, rfl⟩

set_option maxHeartbeats 2000000 in
set_option maxRecDepth 100000 in
theorem law_TreeFinds {n step : Int} (hr1 : -9223372036854775808 ≤ n ∧ n ≤ 9223372036854775807) (hr2 : -9223372036854775808 ≤ step ∧ step ≤ 9223372036854775807) {hs : List Chunk} : Fun Tryz.prog 3 [.int .i64 n, .int .i64 step] hs (fun v' hs' => v' = .bool true ∧ hs = hs') := by
  refine Fun.enter 107 Tryz.func3 rfl Tryz.ntmps3 rfl ?_
  refine TT.seq (.region (.pures hT 1 rfl (.nil (.seq (.seq (.region (.call Tryz.call13 rfl rfl rfl rfl (law14_begun) ?_)))))))
  rintro v_15 hs_15 ⟨rfl, rfl⟩
  refine OT.pures hT 1 rfl (.nil (.seq (.seq (.seq (.region (.pures hT 2 rfl (.nil (.seq (.cond_false rfl (.skip (.seq (.seq (.seq (.region (.pures hT 3 rfl (.split 20 rfl (fun g20 => ?_) (fun g20 => ?_)))))))))))))))))
  ·
    have g20 := of_decide_eq_true g20
    refine OT.pures hT 11 rfl (.nil (.seq (.cond_true rfl (.seq (.region (.pures hT 1 rfl (.nil (.seq (.ret (.of (rs := [.tmp 4]) [_] hs rfl (.tmp rfl .nil) sl ?_))))))))))
    try dsimp only [one]
    exact ⟨rfl, rfl⟩
  ·
    have g20 := of_decide_eq_false g20
    refine OT.pures hT 4 rfl (.split 24 rfl (fun g24 => ?_) (fun g24 => ?_))
    ·
      have g24 := of_decide_eq_true g24
      refine OT.pures hT 7 rfl (.nil (.seq (.cond_true rfl (.seq (.region (.pures hT 1 rfl (.nil (.seq (.ret (.of (rs := [.tmp 4]) [_] hs rfl (.tmp rfl .nil) sl ?_))))))))))
      try dsimp only [one]
      exact ⟨rfl, rfl⟩
    ·
      have g24 := of_decide_eq_false g24
      refine OT.pures hT 4 rfl (.split 28 rfl (fun g28 => ?_) (fun g28 => ?_))
      ·
        have g28 := of_decide_eq_true g28
        refine OT.pures hT 3 rfl (.nil (.seq (.cond_true rfl (.seq (.region (.pures hT 1 rfl (.nil (.seq (.ret (.of (rs := [.tmp 4]) [_] hs rfl (.tmp rfl .nil) sl ?_))))))))))
        try dsimp only [one]
        exact ⟨rfl, rfl⟩
      ·
        have g28 := of_decide_eq_false g28
        refine OT.pures hT 3 rfl (.nil (.seq (.cond rfl (fun c31 => ?_) (fun c31 => ?_))))
        ·
          have c31 := of_decide_eq_true c31
          refine TT.seq (.region (.pures hT 1 rfl (.nil (.seq (.ret (.of (rs := [.tmp 4]) [_] hs rfl (.tmp rfl .nil) sl ?_))))))
          try dsimp only [one]
          exact ⟨rfl, rfl⟩
        ·
          have c31 := of_decide_eq_false c31
          obtain ⟨n, rfl⟩ : ∃ m : Nat, n = m := ⟨n.toNat, by omega⟩
          obtain ⟨step, rfl⟩ : ∃ m : Nat, step = m := ⟨step.toNat, by omega⟩
          refine TT.skip (.seq (.seq (.region (.build (cs := bkCells (List.replicate 96 (.slice none 0 0))) hT rfl Tryz.zeroValue29 rfl rfl rfl rfl (.box rfl rfl rfl (fun b_33 => ?_))))))
          refine OT.mkiface Tryz.underlying25 rfl rfl rfl rfl ?_
          have hB0 : BkAt 29 b_33 noP [(b_33, blk (bkCells (List.replicate 96 (.slice none 0 0))) 29 (0, 0))] := BkAt.one (Slots.zero [[]])
          show OT _ _ _ _ _ ([(b_33, blk (bkCells (List.replicate 96 (.slice none 0 0))) 29 (0, 0))] :: hs)
          generalize ([(b_33, blk (bkCells (List.replicate 96 (.slice none 0 0))) 29 (0, 0))] : Chunk) = HB at hB0 ⊢
          refine OT.call Tryz.call14 rfl rfl rfl rfl (tk_New hB0) ?_
          rintro v_35 hs_35 ⟨b1, HS0, rfl, rfl, hS0⟩
          refine OT.pures hT 1 rfl (.nil (.seq (.seq (.seq (.region (.pures hT 1 rfl (.nil (.seq (.block (.loop (ι := Nat × Chunk × Gone) (fun j => (j.1) ≤ n ∧ TrS b1 (j.2.2) (j.2.1) ∧ (j.2.2).2 = fillL (findsC step) (j.1)) (fun j => n - (j.1)) (fun j => [(0, .int .i64 (n : Nat)), (1, .int .i64 (step : Nat)), (6, .pointer (some ⟨b1, 0, none⟩)), (7, .int .i64 ((j.1) : Nat))]) (fun j => (j.2.1) :: hs) (0, HS0, ([], [])) ?_ (SubR.cons rfl (SubR.cons rfl (SubR.cons rfl (SubR.cons rfl (SubR.nil _))))) sl ?_))))))))))
          · dsimp only
            exact ⟨Nat.zero_le _, hS0, rfl⟩
          rintro ⟨i, HS, g⟩ hI
          dsimp only at hI
          obtain ⟨hi, hS, hg⟩ := hI
          show TT _ _ _ [(0, .int .i64 (n : Nat)), (1, .int .i64 (step : Nat)), (6, .pointer (some ⟨b1, 0, none⟩)), (7, .int .i64 (i : Nat))] (HS :: hs)
          refine TT.seq (.seq (.region (.pures hT 3 rfl (.nil (.seq (.cond rfl (fun c38 => ?_) (fun c38 => ?_)))))))
          ·
            have c38 := of_decide_eq_true c38
            have hlen := fillL_len (findsC step) i
            have hmod := Nat.mod_lt (i * step) (show 0 < 23 by decide)
            refine TT.skip (.seq (.seq (.block (.seq (.region (.pures hT 6 rfl (.reg 46 rfl (v := .int .i64 ((i * step % 23 * 2 : Nat) : Int)) (int_eq (by rw [w_mul (by omega) (by omega), show (23 : Int) = ((23 : Nat) : Int) from rfl, tmod_nat, show (2 : Int) = ((2 : Nat) : Int) from rfl, w_mul (by omega) (by decide)])) (.call Tryz.call16 rfl rfl rfl rfl (law14_keyOf (by omega)) ?_))))))))
            rintro v_47 hs_47 ⟨rfl, rfl⟩
            refine OT.pures hT 1 rfl (.call Tryz.call17 rfl rfl rfl rfl (law14_val (by omega)) ?_)
            rintro v_49 hs_49 ⟨rfl, rfl⟩
            refine OT.build (cs := encCell (findsC step i)) hT rfl Tryz.zeroValue38 rfl rfl rfl rfl (.call Tryz.call15 rfl rfl rfl rfl (Fun.pull pl (tk_Put hS (x := (findsC step i)) (one_fl _ _))) ?_)
            rintro v_51 hs_51 ⟨HS1, g1, e1, rfl, rfl, hS1, hp⟩
            obtain ⟨rfl, hg1⟩ := put_few (one_may (by omega)) (by rw [hg]; omega) hp
            refine OT.pures hT 1 rfl (.nil (.seq (.cond_false rfl (.skip (.blk (.seq (.region (.pures hT 3 rfl (.nil (.loop (i + 1, HS1, g1) ?_ ?_ (SubR.cons rfl (SubR.cons rfl (SubR.cons rfl (SubR.cons' rfl (by (try dsimp only); exact (int_eq (by rw [wrap_i64 (by omega) (by omega)]; omega))) (SubR.nil _))))) sl))))))))))
            · dsimp only
              exact ⟨by omega, hS1, by rw [hg1, hg]; rfl⟩
            · dsimp only
              omega
          ·
            have c38 := of_decide_eq_false c38
            obtain rfl : i = n := by omega
            have hL : LeftC (findsC step) 0 i g.2 := by rw [hg]; exact LeftC.fill (finds_apart (by omega) (by omega) (by omega))
            refine TT.exit (.seq (.loop (.here (.seq (.seq (.region (.alloc Tryz.zeroValue39 rfl rfl (fun b_8 => ?_))))))))
            refine OT.nil (.seq (.seq (.seq (.region (.pures hT 1 rfl (.nil (.seq (.block (.loop (ι := Nat) (fun j => (j) ≤ 50) (fun j => 50 - (j)) (fun j => [(0, .int .i64 (i : Nat)), (1, .int .i64 (step : Nat)), (6, .pointer (some ⟨b1, 0, none⟩)), (8, .pointer (some ⟨b_8, 0, none⟩)), (9, .int .i64 ((j) : Nat))]) (fun j => [(b_8, blk (arrOf 50 (fun z => if z < (j) then -1 else 0)) 39 (0, 0))] :: HS :: hs) (0) ?_ (SubR.cons rfl (SubR.cons rfl (SubR.cons rfl (SubR.cons rfl (SubR.cons rfl (SubR.nil _)))))) sl ?_)))))))))
            · exact Nat.zero_le _
            rintro k hk
            show TT _ _ _ [(0, .int .i64 (i : Nat)), (1, .int .i64 (step : Nat)), (6, .pointer (some ⟨b1, 0, none⟩)), (8, .pointer (some ⟨b_8, 0, none⟩)), (9, .int .i64 (k : Nat))] ([(b_8, blk (arrOf 50 (fun z => if z < k then -1 else 0)) 39 (0, 0))] :: HS :: hs)
            refine TT.seq (.seq (.region (.pures hT 2 rfl (.nil (.seq (.cond rfl (fun c54 => ?_) (fun c54 => ?_)))))))
            ·
              have c54 := of_decide_eq_true c54
              refine TT.skip (.seq (.seq (.block (.region (.pures hT 1 rfl (.index_at hT rfl rfl rfl rfl (by omega) (by omega) rfl (.store hT rfl rfl rfl rfl pl rfl (by rw [arr_len]; show 0 + (k : Int).toNat * 1 + 1 ≤ 50; omega) rfl (.inl (Nat.le_refl _)) ((arr_set (k := k) (by omega) (by omega)).trans (arr_low k)) ?_)))))))
              refine OT.nil (.blk (.seq (.region (.pures hT 3 rfl (.nil (.loop (k + 1) ?_ ?_ (SubR.cons rfl (SubR.cons rfl (SubR.cons rfl (SubR.cons rfl (SubR.cons' rfl (by (try dsimp only); exact (int_eq (by rw [wrap_i64 (by omega) (by omega)]; omega))) (SubR.nil _)))))) sl))))))
              · omega
              · omega
            ·
              have c54 := of_decide_eq_false c54
              obtain rfl : k = 50 := by omega
              rw [arr_all, ← last_zero step]
              refine TT.exit (.seq (.loop (.here (.seq (.seq (.seq (.region (.pures hT 1 rfl (.nil (.seq (.block (.loop (ι := Nat) (fun j => (j) ≤ i) (fun j => i - (j)) (fun j => [(0, .int .i64 (i : Nat)), (1, .int .i64 (step : Nat)), (6, .pointer (some ⟨b1, 0, none⟩)), (8, .pointer (some ⟨b_8, 0, none⟩)), (10, .int .i64 ((j) : Nat))]) (fun j => [(b_8, blk (arrOf 50 (lastN step (j))) 39 (0, 0))] :: HS :: hs) (0) ?_ (SubR.cons rfl (SubR.cons rfl (SubR.cons rfl (SubR.cons rfl (SubR.cons rfl (SubR.nil _)))))) sl ?_))))))))))))
              · exact Nat.zero_le _
              rintro k hk
              show TT _ _ _ [(0, .int .i64 (i : Nat)), (1, .int .i64 (step : Nat)), (6, .pointer (some ⟨b1, 0, none⟩)), (8, .pointer (some ⟨b_8, 0, none⟩)), (10, .int .i64 (k : Nat))] ([(b_8, blk (arrOf 50 (lastN step k)) 39 (0, 0))] :: HS :: hs)
              refine TT.seq (.seq (.region (.pures hT 3 rfl (.nil (.seq (.cond rfl (fun c61 => ?_) (fun c61 => ?_)))))))
              ·
                have c61 := of_decide_eq_true c61
                have hmod := Nat.mod_lt (k * step) (show 0 < 23 by decide)
                refine TT.skip (.seq (.seq (.block (.region (.pures hT 6 rfl (.reg 68 rfl (v := .int .i64 ((k * step % 23 * 2 : Nat) : Int)) (int_eq (by rw [w_mul (by omega) (by omega), show (23 : Int) = ((23 : Nat) : Int) from rfl, tmod_nat, show (2 : Int) = ((2 : Nat) : Int) from rfl, w_mul (by omega) (by decide)])) (.index_at hT rfl rfl rfl rfl (by omega) (by omega) rfl (.store hT rfl rfl rfl rfl pl rfl (by rw [arr_len]; show 0 + ((k * step % 23 * 2 : Nat) : Int).toNat * 1 + 1 ≤ 50; omega) rfl (.inl (Nat.le_refl _)) ((arr_set (k := k * step % 23 * 2) (by omega) (by omega)).trans (congrArg (arrOf 50) (last_succ step k))) ?_))))))))
                refine OT.nil (.blk (.seq (.region (.pures hT 3 rfl (.nil (.loop (k + 1) ?_ ?_ (SubR.cons rfl (SubR.cons rfl (SubR.cons rfl (SubR.cons rfl (SubR.cons' rfl (by (try dsimp only); exact (int_eq (by rw [wrap_i64 (by omega) (by omega)]; omega))) (SubR.nil _)))))) sl))))))
                · omega
                · omega
              ·
                have c61 := of_decide_eq_false c61
                obtain rfl : k = i := by omega
                refine TT.exit (.seq (.loop (.here (.seq (.seq (.seq (.region (.pures hT 1 rfl (.nil (.seq (.block (.loop (ι := Nat × Chunk) (fun j => (j.1) ≤ 50 ∧ TrS b1 g (j.2)) (fun j => 50 - (j.1)) (fun j => [(0, .int .i64 (k : Nat)), (1, .int .i64 (step : Nat)), (6, .pointer (some ⟨b1, 0, none⟩)), (8, .pointer (some ⟨b_8, 0, none⟩)), (11, .int .i64 ((j.1) : Nat))]) (fun j => [(b_8, blk (arrOf 50 (lastN step k)) 39 (0, 0))] :: (j.2) :: hs) (0, HS) ?_ (SubR.cons rfl (SubR.cons rfl (SubR.cons rfl (SubR.cons rfl (SubR.cons rfl (SubR.nil _)))))) sl ?_))))))))))))
                · dsimp only
                  exact ⟨Nat.zero_le _, hS⟩
                rintro ⟨q, HS⟩ hI
                dsimp only at hI
                obtain ⟨hq, hS⟩ := hI
                show TT _ _ _ [(0, .int .i64 (k : Nat)), (1, .int .i64 (step : Nat)), (6, .pointer (some ⟨b1, 0, none⟩)), (8, .pointer (some ⟨b_8, 0, none⟩)), (11, .int .i64 (q : Nat))] ([(b_8, blk (arrOf 50 (lastN step k)) 39 (0, 0))] :: HS :: hs)
                refine TT.seq (.seq (.region (.pures hT 2 rfl (.nil (.seq (.cond rfl (fun c72 => ?_) (fun c72 => ?_)))))))
                ·
                  have c72 := of_decide_eq_true c72
                  have hla := last_is (k := q) (by omega) (by omega) (by omega) (by omega) hL
                  refine TT.skip (.seq (.seq (.block (.seq (.region (.pures hT 1 rfl (.mkiface Tryz.underlying23 rfl rfl rfl rfl (.pures hT 1 rfl (.call Tryz.call16 rfl rfl rfl rfl (law14_keyOf (by omega)) ?_)))))))))
                  rintro v_79 hs_79 ⟨rfl, rfl⟩
                  refine OT.call Tryz.call18 rfl rfl rfl rfl (Fun.pull pl (tk_Get hS)) ?_
                  rintro v_80 hs_80 ⟨HS1, rfl, rfl, hS1⟩
                  generalize getC g.2 (keyN q) = o at hla ⊢
                  rcases o with _ | z
                  ·
                    refine OT.pures hT 4 rfl (.alloc Tryz.zeroValue38 rfl rfl (fun b_12 => ?_))
                    refine OT.store_all hT rfl rfl rfl rfl pl rfl rfl rfl (.inl (Nat.le_refl _)) ?_
                    refine OT.pures hT 2 rfl (.nil (.seq (.seq (.draw (([(b_12, blk (encCell noCell) 38 (0, 0))] :: [(b_8, blk (arrOf 50 (lastN step k)) 39 (0, 0))] :: HS1 :: hs)) mixed (.takes (fuel := 20) hT [0, 1, 2] kr kr rfl (.takes (fuel := 18) hT [3, 4] kr kr rfl (.index_at (fuel := 17) hT 5 rfl kr kr kr rfl rfl rfl rfl (by omega) (by omega) rfl (.take (fuel := 16) hT 6 rfl rfl kr kr kr rfl (.load rfl (Ld.one hT rfl hz (arr_at (k := q) (by omega) (by omega)))) rfl ?_))))))))
                    refine AT.takes (fuel := 12) hT [7, 8, 9, 10] kr kr rfl (.split 94 rfl (fun g94 => ?_) (fun g94 => ?_))
                    ·
                      exact absurd g94 (by rw [hla]; decide)
                    ·
                      refine AT.takes (fuel := 10) hT [11, 12] kr kr rfl (.takes (fuel := 0) hT [13, 14, 15, 16, 17, 18, 19, 20, 21, 22] kr kr rfl (.done kr sl (.seq (.cond_false rfl (.skip (.blk (.seq (.region (.pures hT 3 rfl (.nil (.loop (q + 1, HS1) ?_ ?_ (SubR.cons rfl (SubR.cons rfl (SubR.cons rfl (SubR.cons rfl (SubR.cons' rfl (by (try dsimp only); exact (int_eq (by rw [wrap_i64 (by omega) (by omega)]; omega))) (SubR.nil _)))))) sl)))))))))))
                      · dsimp only
                        exact ⟨by omega, hS1⟩
                      · dsimp only
                        omega
                  ·
                    obtain ⟨j, hj1, rfl⟩ := hla
                    refine OT.pures hT 4 rfl (.alloc Tryz.zeroValue38 rfl rfl (fun b_12 => ?_))
                    refine OT.store_all hT rfl rfl rfl rfl pl rfl rfl rfl (.inl (Nat.le_refl _)) ?_
                    refine OT.pures hT 2 rfl (.nil (.seq (.seq (.draw (([(b_12, blk (encCell (findsC step j)) 38 (0, 0))] :: [(b_8, blk (arrOf 50 (lastN step k)) 39 (0, 0))] :: HS1 :: hs)) mixed (.takes (fuel := 20) hT [0, 1, 2] kr kr rfl (.takes (fuel := 18) hT [3, 4] kr kr rfl (.index_at (fuel := 17) hT 5 rfl kr kr kr rfl rfl rfl rfl (by omega) (by omega) rfl (.take (fuel := 16) hT 6 rfl rfl kr kr kr rfl (.load rfl (Ld.one hT rfl hz (arr_at (k := q) (by omega) (by omega)))) rfl ?_))))))))
                    refine AT.takes (fuel := 12) hT [7, 8, 9, 10] kr kr rfl (.split 94 rfl (fun g94 => ?_) (fun g94 => ?_))
                    ·
                      exact absurd g94 (by rw [hj1]; simp)
                    ·
                      refine AT.takes (fuel := 10) hT [11, 12] kr kr rfl (.takes (fuel := 7) hT [13, 14, 17] kr kr rfl (.take (fuel := 6) hT 15 rfl rfl kr kr kr rfl (.load rfl (Ld.one hT rfl hz rfl)) rfl ?_))
                      refine AT.takes (fuel := 5) hT [16] kr kr rfl (.index_at (fuel := 4) hT 18 rfl kr kr kr rfl rfl rfl rfl (by omega) (by omega) rfl (.take (fuel := 3) hT 19 rfl rfl kr kr kr rfl (.load rfl (Ld.one hT rfl hz (arr_at (k := q) (by omega) (by omega)))) rfl ?_))
                      refine AT.takes (fuel := 0) hT [20, 21, 22] kr kr rfl (.done kr sl (.seq (.cond rfl (fun c106 => ?_) (fun c106 => ?_))))
                      ·
                        exact absurd c106 (by rw [hj1]; simp [findsC, oneC', valN, textN_size])
                      ·
                        refine TT.skip (.blk (.seq (.region (.pures hT 3 rfl (.nil (.loop (q + 1, HS1) ?_ ?_ (SubR.cons rfl (SubR.cons rfl (SubR.cons rfl (SubR.cons rfl (SubR.cons' rfl (by (try dsimp only); exact (int_eq (by rw [wrap_i64 (by omega) (by omega)]; omega))) (SubR.nil _)))))) sl))))))
                        · dsimp only
                          exact ⟨by omega, hS1⟩
                        · dsimp only
                          omega
                ·
                  have c72 := of_decide_eq_false c72
                  obtain rfl : q = 50 := by omega
                  refine TT.exit (.seq (.loop (.here (.seq (.seq (.region (.pures hT 1 rfl (.nil (.seq (.ret (.of (rs := [.tmp 4]) [_] hs rfl (.tmp rfl .nil) sl ?_)))))))))))
                  try dsimp only [one]
                  exact ⟨rfl, rfl⟩

end Go.Proofs.YtmkandddjcncfaaGreat.Sx
end

section
namespace Go.Proofs.YtmkandddjcncfaaGreat.Sx
open Go Go.Sx Go.Pl
variable [Outer]

theorem st_Changes {bk s : Nat} {Qs : Pages} {H : Chunk} {r : List Chunk} (hS : ShAt 89 s (.iface 25 (.pointer (some ⟨bk, 0, none⟩))) (BkAt 29 bk noP) noP Qs H) : Fun Tryz.prog 19 [.pointer (some ⟨s, 0, none⟩)] (H :: r) (fun v' hs' => ∃ ts HI H', hs' = HI :: H' :: r ∧ OwnIms 48 5 v' ts HI ∧ ShAt 89 s (.iface 25 (.pointer (some ⟨bk, 0, none⟩))) (BkAt 29 bk noP) noP Qs H' ∧ imgs ts = chgs noP Qs 96 ∧ (∀ x ∈ imgs ts, mayPage x.1 ∧ x.2.length = 256) ∧ ts.length ≤ 96) := by
  obtain ⟨m, hm, rfl⟩ := hS
  refine (sh_Changes (bd := false) (bookA) (noP_long) hm).mono ?_
  rintro v' hs' ⟨bd, ts, HI, H', rfl, ho, hS', _, hch, hmy, hl⟩
  cases bd with
  | true =>
    obtain ⟨_, _, _, _, _, _, _, hb⟩ := hS'.is
    exact (id hb : False).elim
  | false => exact ⟨ts, HI, H', rfl, ho, ⟨m, hS', rfl⟩, hch rfl, hmy, hl⟩

theorem tt_Changes {bk s t : Nat} {Qs Qt : Pages} {H : Chunk} {r : List Chunk} (hQ : Long Qs) (hS : ShAt 89 t (.iface 23 (.pointer (some ⟨s, 0, none⟩))) (ShAt 89 s (.iface 25 (.pointer (some ⟨bk, 0, none⟩))) (BkAt 29 bk noP) noP Qs) Qs Qt H) : Fun Tryz.prog 19 [.pointer (some ⟨t, 0, none⟩)] (H :: r) (fun v' hs' => ∃ ts HI H', hs' = HI :: H' :: r ∧ OwnIms 48 5 v' ts HI ∧ ShAt 89 t (.iface 23 (.pointer (some ⟨s, 0, none⟩))) (ShAt 89 s (.iface 25 (.pointer (some ⟨bk, 0, none⟩))) (BkAt 29 bk noP) noP Qs) Qs Qt H' ∧ imgs ts = chgs Qs Qt 96 ∧ (∀ x ∈ imgs ts, mayPage x.1 ∧ x.2.length = 256) ∧ ts.length ≤ 96) := by
  obtain ⟨m, hm, rfl⟩ := hS
  refine (sh_Changes (bd := false) (sheet_Pgs bookA noP_long) (hQ) hm).mono ?_
  rintro v' hs' ⟨bd, ts, HI, H', rfl, ho, hS', _, hch, hmy, hl⟩
  cases bd with
  | true =>
    obtain ⟨_, _, _, _, _, _, _, hb⟩ := hS'.is
    exact (no_bad hb : False).elim
  | false => exact ⟨ts, HI, H', rfl, ho, ⟨m, hS', rfl⟩, hch rfl, hmy, hl⟩

theorem tt_Put {bk s t : Nat} {Qs : Pages} {H : Chunk} {r : List Chunk} (hQ : Long Qs) (hS : ShAt 89 t (.iface 23 (.pointer (some ⟨s, 0, none⟩))) (ShAt 89 s (.iface 25 (.pointer (some ⟨bk, 0, none⟩))) (BkAt 29 bk noP) noP Qs) Qs Qs H) {g : Gone} (hR : RightT Qs g) {x : Cell} (hm : mayCell x = true) (hxf : x.val.f < 2 ^ 64 ∧ x.new.f < 2 ^ 64) : Fun Tryz.prog 15 [.pointer (some ⟨t, 0, none⟩), .agg ⟨encCell x⟩] (H :: r) (fun v' hs' => ∃ H' e, hs' = H' :: r ∧ v' = .int .i64 e ∧ ((e = 0 ∧ ∃ Q' g', RightT Q' g' ∧ ShAt 89 t (.iface 23 (.pointer (some ⟨s, 0, none⟩))) (ShAt 89 s (.iface 25 (.pointer (some ⟨bk, 0, none⟩))) (BkAt 29 bk noP) noP Qs) Qs Q' H') ∨ (e = 4 ∧ ShAt 89 t (.iface 23 (.pointer (some ⟨s, 0, none⟩))) (ShAt 89 s (.iface 25 (.pointer (some ⟨bk, 0, none⟩))) (BkAt 29 bk noP) noP Qs) Qs Qs H'))) := by
  refine (tr_Put (sheet_Pgs bookA noP_long) hQ hS hxf).mono ?_
  rintro v' hs' ⟨H', e, rfl, rfl, ⟨hm', rfl, hS'⟩ | ⟨_, ⟨Q', rfl, hp, hS'⟩ | ⟨he, hp, hS'⟩ | hb⟩⟩
  · rw [hm] at hm'; cases hm'
  · obtain ⟨g', h1, _⟩ := hR.putR hm hxf hp
    exact ⟨H', 0, rfl, rfl, .inl ⟨rfl, Q', g', h1, hS'⟩⟩
  · obtain ⟨rfl, _⟩ := hR.putE hm hxf hp
    exact ⟨H', 4, rfl, rfl, .inr ⟨rfl, hS'⟩⟩
  · obtain ⟨_, h⟩ := hb
    obtain ⟨_, _, _, _, _, _, _, h⟩ := h.is
    exact (no_bad h).elim

theorem st_Check {bk s : Nat} {Qs : Pages} {H : Chunk} {r : List Chunk} (hS : ShAt 89 s (.iface 25 (.pointer (some ⟨bk, 0, none⟩))) (BkAt 29 bk noP) noP Qs H) {g : Gone} (hR : RightT Qs g) : Fun Tryz.prog 20 [.iface 23 (.pointer (some ⟨s, 0, none⟩))] (H :: r) (fun v' hs' => ∃ H', hs' = H' :: r ∧ v' = .int .i64 0) := by
  refine (tr_Check (sheet_Pgs bookA noP_long (Qt := Qs)).pgs hS).mono ?_
  rintro v' hs' ⟨H', e, rfl, rfl, ⟨rfl, _, hS'⟩ | ⟨_, ⟨hp, _⟩ | ⟨_, _, hb⟩⟩⟩
  · exact ⟨H', rfl, rfl⟩
  · rw [hR.check] at hp; cases hp
  · exact (no_bad hb).elim

set_option maxHeartbeats 8000000 in
set_option maxRecDepth 100000 in
theorem law_TreeStays {n : Int} (hr1 : -9223372036854775808 ≤ n ∧ n ≤ 9223372036854775807) {hs : List Chunk} : Fun Tryz.prog 4 [.int .i64 n] hs (fun v' hs' => v' = .bool true ∧ hs = hs') := by
  refine Fun.enter 89 Tryz.func4 rfl Tryz.ntmps4 rfl ?_
  refine TT.seq (.region (.pures hT 1 rfl (.nil (.seq (.seq (.region (.call Tryz.call13 rfl rfl rfl rfl (law14_begun) ?_)))))))
  rintro v_11 hs_11 ⟨rfl, rfl⟩
  refine OT.pures hT 1 rfl (.nil (.seq (.seq (.seq (.region (.pures hT 2 rfl (.nil (.seq (.cond_false rfl (.skip (.seq (.seq (.seq (.region (.pures hT 3 rfl (.split 16 rfl (fun g16 => ?_) (fun g16 => ?_)))))))))))))))))
  ·
    have g16 := of_decide_eq_true g16
    refine OT.pures hT 3 rfl (.nil (.seq (.cond_true rfl (.seq (.region (.pures hT 1 rfl (.nil (.seq (.ret (.of (rs := [.tmp 2]) [_] hs rfl (.tmp rfl .nil) sl ?_))))))))))
    try dsimp only [one]
    exact ⟨rfl, rfl⟩
  ·
    have g16 := of_decide_eq_false g16
    refine OT.pures hT 3 rfl (.nil (.seq (.cond rfl (fun c19 => ?_) (fun c19 => ?_))))
    ·
      have c19 := of_decide_eq_true c19
      refine TT.seq (.region (.pures hT 1 rfl (.nil (.seq (.ret (.of (rs := [.tmp 2]) [_] hs rfl (.tmp rfl .nil) sl ?_))))))
      try dsimp only [one]
      exact ⟨rfl, rfl⟩
    ·
      have c19 := of_decide_eq_false c19
      obtain ⟨n, rfl⟩ : ∃ m : Nat, n = m := ⟨n.toNat, by omega⟩
      refine TT.skip (.seq (.seq (.region (.build (cs := bkCells (List.replicate 96 (.slice none 0 0))) hT rfl Tryz.zeroValue29 rfl rfl rfl rfl (.box rfl rfl rfl (fun b_21 => ?_))))))
      refine OT.mkiface Tryz.underlying25 rfl rfl rfl rfl ?_
      have hB0 : BkAt 29 b_21 noP [(b_21, blk (bkCells (List.replicate 96 (.slice none 0 0))) 29 (0, 0))] := BkAt.one (Slots.zero [[]])
      show OT _ _ _ _ _ ([(b_21, blk (bkCells (List.replicate 96 (.slice none 0 0))) 29 (0, 0))] :: hs)
      generalize ([(b_21, blk (bkCells (List.replicate 96 (.slice none 0 0))) 29 (0, 0))] : Chunk) = HB at hB0 ⊢
      refine OT.call Tryz.call14 rfl rfl rfl rfl (sh_New (I := BkAt 29 b_21 noP) hB0) ?_
      rintro v_23 hs_23 ⟨s, HS0, rfl, rfl, hS00⟩
      have hS0 : ShAt 89 s (.iface 25 (.pointer (some ⟨b_21, 0, none⟩))) (BkAt 29 b_21 noP) noP noP HS0 := ⟨_, hS00, (layC_none _).symm⟩
      refine OT.pures hT 1 rfl (.nil (.seq (.seq (.seq (.region (.pures hT 1 rfl (.nil (.seq (.block (.loop (ι := Nat × Chunk × Pages × Gone) (fun j => (j.1) ≤ n ∧ ShAt 89 s (.iface 25 (.pointer (some ⟨b_21, 0, none⟩))) (BkAt 29 b_21 noP) noP (j.2.2.1) (j.2.1) ∧ RightT (j.2.2.1) (j.2.2.2)) (fun j => n - (j.1)) (fun j => [(0, .int .i64 (n : Nat)), (4, .pointer (some ⟨s, 0, none⟩)), (5, .int .i64 ((j.1) : Nat))]) (fun j => (j.2.1) :: hs) (0, HS0, noP, ([], [])) ?_ (SubR.cons rfl (SubR.cons rfl (SubR.cons rfl (SubR.nil _)))) sl ?_))))))))))
      · dsimp only
        exact ⟨Nat.zero_le _, hS0, zero_right⟩
      rintro ⟨i, HS, Qs, g⟩ hI
      dsimp only at hI
      obtain ⟨hi, hS, hR⟩ := hI
      show TT _ _ _ [(0, .int .i64 (n : Nat)), (4, .pointer (some ⟨s, 0, none⟩)), (5, .int .i64 (i : Nat))] (HS :: hs)
      refine TT.seq (.seq (.region (.pures hT 3 rfl (.nil (.seq (.cond rfl (fun c26 => ?_) (fun c26 => ?_)))))))
      ·
        have c26 := of_decide_eq_true c26
        refine TT.skip (.seq (.seq (.block (.seq (.region (.pures hT 1 rfl (.call Tryz.call19 rfl rfl rfl rfl (st_Changes hS) ?_)))))))
        rintro v_30 hs_30 ⟨ts0, HI0, HS1, rfl, ho0, hS1, him0, hmy0, hl0⟩
        have hAt0 : ∀ hs, ImsAt (HI0 :: hs) v_30 ts0 := fun hs => ho0.at (by omega) (fun t ht => by have := (hmy0 t.img (List.mem_map.2 ⟨t, ht, rfl⟩)).2; show t.b.length ≤ _; have e : t.img.2 = t.b := rfl; rw [e] at this; omega)
        obtain ⟨a0, c0, hv0⟩ := (hAt0 []).row.len
        subst hv0
        have hlen0 := congrArg List.length him0
        rw [imgs_length] at hlen0
        have hQs := hS1.long noP_long
        refine OT.pures hT 2 rfl (.nil (.seq (.seq (.region (.pures hT 1 rfl (.mkiface Tryz.underlying23 rfl rfl rfl rfl (.call Tryz.call14 rfl rfl rfl rfl (Fun.pull pl (sh_New (ti := 23) (ui := .pointer (some ⟨s, 0, none⟩)) hS1)) ?_)))))))
        rintro v_34 hs_34 ⟨t, HT0, rfl, rfl, hT00⟩
        have hT0 : ShAt 89 t (.iface 23 (.pointer (some ⟨s, 0, none⟩))) (ShAt 89 s (.iface 25 (.pointer (some ⟨b_21, 0, none⟩))) (BkAt 29 b_21 noP) noP Qs) Qs Qs HT0 := ⟨_, hT00, (layC_none _).symm⟩
        refine OT.pures hT 1 rfl (.nil (.seq (.seq (.region (.pures hT 2 rfl (.call Tryz.call16 rfl rfl rfl rfl (law14_keyOf (by omega)) ?_))))))
        rintro v_37 hs_37 ⟨rfl, rfl⟩
        refine OT.call Tryz.call17 rfl rfl rfl rfl (law14_val (n := 20) (by omega)) ?_
        rintro v_38 hs_38 ⟨rfl, rfl⟩
        refine OT.call Tryz.call17 rfl rfl rfl rfl (law14_val (n := 20) (by omega)) ?_
        rintro v_39 hs_39 ⟨rfl, rfl⟩
        refine OT.build (cs := encCell (twoC i 5)) hT rfl Tryz.zeroValue38 rfl rfl rfl rfl (.call Tryz.call15 rfl rfl rfl rfl (Fun.pull pl (tt_Put hQs hT0 hR (two_may (by decide) (by decide)) (two_fl _ _))) ?_)
        rintro v_41 hs_41 ⟨HT1, e1, rfl, rfl, (⟨rfl, Q', g', hR', hT1⟩ | ⟨rfl, hT1⟩)⟩
        ·
          refine OT.pures hT 1 rfl (.nil (.seq (.seq (.seq (.region (.pures hT 2 rfl (.nil (.seq (.cond_false rfl (.skip (.seq (.seq (.region (.pures hT 1 rfl (.call Tryz.call19 rfl rfl rfl rfl (Fun.pull pl (tt_Changes hQs hT1)) ?_)))))))))))))))
          rintro v_66 hs_66 ⟨ts3, HI3, HT3, rfl, ho3, hT3, him3, hmy3, hl3⟩
          have hlay := hT3.lay_chgs
          have hAt3 : ∀ hs, ImsAt (HI3 :: hs) v_66 ts3 := fun hs => ho3.at (by omega) (fun t ht => by have := (hmy3 t.img (List.mem_map.2 ⟨t, ht, rfl⟩)).2; show t.b.length ≤ _; have e : t.img.2 = t.b := rfl; rw [e] at this; omega)
          obtain ⟨a3, c3, hv3⟩ := (hAt3 []).row.len
          subst hv3
          obtain ⟨m3, ⟨mb3, M3, G3, rfl, _, _, hG3⟩, _⟩ := hT3
          refine OT.perm sh_split (.pures hT 1 rfl (.nil (.seq (.seq (.region (.pures hT 1 rfl (.nil (.seq (.block (.loop (ι := Nat × Chunk) (fun j => (j.1) ≤ ts3.length ∧ ShAt 89 s (.iface 25 (.pointer (some ⟨b_21, 0, none⟩))) (BkAt 29 b_21 noP) noP (lay Qs ((imgs ts3).take (j.1))) (j.2)) (fun j => ts3.length - (j.1)) (fun j => [(0, .int .i64 (n : Nat)), (4, .pointer (some ⟨s, 0, none⟩)), (5, .int .i64 (i : Nat)), (9, .slice a3 ts3.length c3), (10, .int .i64 ((j.1) : Nat))]) (fun j => HI3 :: (j.2) :: hs) (0, G3) ?_ (SubR.cons rfl (SubR.cons rfl (SubR.cons rfl (SubR.cons rfl (SubR.cons rfl (SubR.nil _)))))) sl ?_))))))))))
          · dsimp only
            exact ⟨Nat.zero_le _, hG3⟩
          rintro ⟨k, G⟩ hI
          dsimp only at hI
          obtain ⟨hk, hG⟩ := hI
          show TT _ _ _ [(0, .int .i64 (n : Nat)), (4, .pointer (some ⟨s, 0, none⟩)), (5, .int .i64 (i : Nat)), (9, .slice a3 ts3.length c3), (10, .int .i64 (k : Nat))] (HI3 :: G :: hs)
          refine TT.seq (.seq (.region (.pures hT 4 rfl (.nil (.seq (.cond rfl (fun c70 => ?_) (fun c70 => ?_)))))))
          ·
            have c70 := of_decide_eq_true c70
            obtain ⟨x, hx⟩ := nth (l := ts3) (i := k) (by omega)
            have hxm := List.mem_of_getElem? hx
            have hmx := hmy3 x.img (List.mem_map.2 ⟨x, hxm, rfl⟩)
            obtain ⟨ax, cx, hvx⟩ := ((hAt3 hs).each x hxm).len
            refine TT.skip (.seq (.seq (.block (.draw ((HI3 :: hs)) mixed (.takes (fuel := 7) hT [0, 1, 2, 6, 7] kr kr rfl (.index (fuel := 6) hT 3 rfl kr kr kr rfl rfl rfl rfl (hAt3 _).row (by omega) (by rw [Int.toNat_natCast]; exact hx) rfl (fun ad_76 hel_76 => ?_)))))))
            obtain ⟨eb_76, eo_76, rfl, hfld_76, hfls_76⟩ := Go.Pl.El.at2 (P := Tryz.prog) hel_76
            refine AT.takes (fuel := 5) hT [4] kr kr rfl (.take (fuel := 4) hT 5 rfl rfl kr kr kr rfl (.load rfl (hfld_76 hT rfl rfl)) rfl (.index (fuel := 3) hT 8 rfl kr kr kr rfl rfl rfl rfl (hAt3 _).row (by omega) (by rw [Int.toNat_natCast]; exact hx) rfl (fun ad_81 hel_81 => ?_)))
            obtain ⟨eb_81, eo_81, rfl, hfld_81, hfls_81⟩ := Go.Pl.El.at2 (P := Tryz.prog) hel_81
            refine AT.takes (fuel := 2) hT [9] kr kr rfl (.take (fuel := 1) hT 10 rfl rfl kr kr kr rfl (.load rfl (hfls_81 hT rfl (by unfold encIm; rw [hvx]; rfl))) rfl ?_)
            refine AT.op (fuel := 0) 11 kr rfl sl (.call Tryz.call21 rfl rfl rfl rfl (Fun.pull pl (sh_Set bookA noP_long hG (no := x.no) (bs := x.b) (by rw [← hvx]; exact (hAt3 _).each x hxm) hmx.1 hmx.2)) ?_)
            rintro v_84 hs_84 ⟨G4, rfl, rfl, hG4⟩
            refine OT.nil (.any (.done kr sl (.blk (.seq (.region (.pures hT 3 rfl (.nil (.loop (k + 1, G4) ?_ ?_ (SubR.cons rfl (SubR.cons rfl (SubR.cons rfl (SubR.cons rfl (SubR.cons' rfl (by (try dsimp only); exact (int_eq (by rw [wrap_i64 (by omega) (by omega)]; omega))) (SubR.nil _)))))) sl))))))))
            · dsimp only
              exact ⟨by omega, by rw [lay_take (imgs_at hx)]; exact hG4⟩
            · dsimp only
              omega
          ·
            have c70 := of_decide_eq_false c70
            obtain rfl : k = ts3.length := by omega
            rw [List.take_of_length_le (by rw [imgs_length]; exact Nat.le_refl _), him3, hlay] at hG
            refine TT.exit (.seq (.loop (.here (.blk (.seq (.region (.pures hT 3 rfl (.nil (.loop (i + 1, G, Q', g') ?_ ?_ (SubR.cons rfl (SubR.cons rfl (SubR.cons' rfl (by (try dsimp only); exact (int_eq (by rw [wrap_i64 (by omega) (by omega)]; omega))) (SubR.nil _)))) sl)))))))))
            · dsimp only
              exact ⟨by omega, hG, hR'⟩
            · dsimp only
              omega
        ·
          refine OT.pures hT 1 rfl (.nil (.seq (.seq (.seq (.region (.pures hT 2 rfl (.nil (.seq (.cond_true rfl (.seq (.region (.pures hT 3 rfl (.pures hT 1 rfl (.call Tryz.call19 rfl rfl rfl rfl (Fun.pull pl (tt_Changes hQs hT1)) ?_))))))))))))))
          rintro v_48 hs_48 ⟨ts1, HI1, HT2, rfl, ho1, hT2, him1, hmy1, hl1⟩
          rw [chgs_self] at him1
          have hAt1 : ∀ hs, ImsAt (HI1 :: hs) v_48 ts1 := fun hs => ho1.at (by omega) (fun t ht => by have := (hmy1 t.img (List.mem_map.2 ⟨t, ht, rfl⟩)).2; show t.b.length ≤ _; have e : t.img.2 = t.b := rfl; rw [e] at this; omega)
          obtain ⟨a1, c1, hv1⟩ := (hAt1 []).row.len
          subst hv1
          have hlen1 := congrArg List.length him1
          rw [imgs_length] at hlen1
          obtain ⟨m2, ⟨mb2, M2, G2, rfl, _, _, hG2⟩, _⟩ := hT2
          refine OT.perm sh_split (.pures hT 4 rfl (.split 52 rfl (fun g52 => ?_) (fun g52 => ?_)))
          ·
            refine OT.pures hT 1 rfl (.call Tryz.call19 rfl rfl rfl rfl (Fun.pull pl (st_Changes hG2)) ?_)
            rintro v_54 hs_54 ⟨ts2, HI2, HS2, rfl, ho2, hS2, him2, hmy2, hl2⟩
            have hAt2 : ∀ hs, ImsAt (HI2 :: hs) v_54 ts2 := fun hs => ho2.at (by omega) (fun t ht => by have := (hmy2 t.img (List.mem_map.2 ⟨t, ht, rfl⟩)).2; show t.b.length ≤ _; have e : t.img.2 = t.b := rfl; rw [e] at this; omega)
            obtain ⟨a2, c2, hv2⟩ := (hAt2 []).row.len
            subst hv2
            have hlen2 := congrArg List.length him2
            rw [imgs_length] at hlen2
            refine OT.pures hT 5 rfl (.split 59 rfl (fun g59 => ?_) (fun g59 => ?_))
            ·
              refine OT.pures hT 1 rfl (.mkiface Tryz.underlying23 rfl rfl rfl rfl (.call Tryz.call20 rfl rfl rfl rfl (Fun.pull pl (st_Check hS2 hR)) ?_))
              rintro v_62 hs_62 ⟨HS3, rfl, rfl⟩
              refine OT.pures hT 3 rfl (.nil (.seq (.ret (.of (rs := [.tmp 2]) [_] hs rfl (.tmp rfl .nil) sl ?_))))
              try dsimp only [one]
              exact ⟨rfl, rfl⟩
            ·
              exact absurd g59 (by rw [hlen2, hlen0]; simp)
          ·
            exact absurd g52 (by rw [hlen1]; simp)
      ·
        have c26 := of_decide_eq_false c26
        obtain rfl : i = n := by omega
        refine TT.exit (.seq (.loop (.here (.seq (.seq (.region (.pures hT 1 rfl (.mkiface Tryz.underlying23 rfl rfl rfl rfl (.call Tryz.call20 rfl rfl rfl rfl (st_Check hS hR) ?_)))))))))
        rintro v_87 hs_87 ⟨HS3, rfl, rfl⟩
        refine OT.pures hT 2 rfl (.nil (.seq (.ret (.of (rs := [.tmp 2]) [_] hs rfl (.tmp rfl .nil) sl ?_))))
        try dsimp only [one]
        exact ⟨rfl, rfl⟩

end Go.Proofs.YtmkandddjcncfaaGreat.Sx
end

section
namespace Go.Proofs.YtmkandddjcncfaaGreat.Sx
open Go Go.Sx Go.Pl
variable [Outer]

set_option maxHeartbeats 4000000 in
set_option maxRecDepth 100000 in
theorem law_TreeSpan {n a b cc : Int} (hr1 : -9223372036854775808 ≤ n ∧ n ≤ 9223372036854775807) (hr2 : -9223372036854775808 ≤ a ∧ a ≤ 9223372036854775807) (hr3 : -9223372036854775808 ≤ b ∧ b ≤ 9223372036854775807) (hr4 : -9223372036854775808 ≤ cc ∧ cc ≤ 9223372036854775807) {hs : List Chunk} : Fun Tryz.prog 6 [.int .i64 n, .int .i64 a, .int .i64 b, .int .i64 cc] hs (fun v' hs' => v' = .bool true ∧ hs = hs') := by
  refine Fun.enter 158 Tryz.func6 rfl Tryz.ntmps6 rfl ?_
  refine TT.seq (.region (.pures hT 1 rfl (.nil (.seq (.seq (.region (.call Tryz.call13 rfl rfl rfl rfl (law14_begun) ?_)))))))
  rintro v_21 hs_21 ⟨rfl, rfl⟩
  refine OT.pures hT 1 rfl (.nil (.seq (.seq (.seq (.region (.pures hT 2 rfl (.nil (.seq (.cond_false rfl (.skip (.seq (.seq (.seq (.region (.pures hT 3 rfl (.split 26 rfl (fun g26 => ?_) (fun g26 => ?_)))))))))))))))))
  ·
    have g26 := of_decide_eq_true g26
    refine OT.pures hT 21 rfl (.nil (.seq (.cond_true rfl (.seq (.region (.pures hT 1 rfl (.nil (.seq (.ret (.of (rs := [.tmp 8]) [_] hs rfl (.tmp rfl .nil) sl ?_))))))))))
    try dsimp only [one]
    exact ⟨rfl, rfl⟩
  ·
    have g26 := of_decide_eq_false g26
    refine OT.pures hT 4 rfl (.split 30 rfl (fun g30 => ?_) (fun g30 => ?_))
    ·
      have g30 := of_decide_eq_true g30
      refine OT.pures hT 17 rfl (.nil (.seq (.cond_true rfl (.seq (.region (.pures hT 1 rfl (.nil (.seq (.ret (.of (rs := [.tmp 8]) [_] hs rfl (.tmp rfl .nil) sl ?_))))))))))
      try dsimp only [one]
      exact ⟨rfl, rfl⟩
    ·
      have g30 := of_decide_eq_false g30
      refine OT.pures hT 4 rfl (.split 34 rfl (fun g34 => ?_) (fun g34 => ?_))
      ·
        have g34 := of_decide_eq_true g34
        refine OT.pures hT 13 rfl (.nil (.seq (.cond_true rfl (.seq (.region (.pures hT 1 rfl (.nil (.seq (.ret (.of (rs := [.tmp 8]) [_] hs rfl (.tmp rfl .nil) sl ?_))))))))))
        try dsimp only [one]
        exact ⟨rfl, rfl⟩
      ·
        have g34 := of_decide_eq_false g34
        refine OT.pures hT 5 rfl (.split 39 rfl (fun g39 => ?_) (fun g39 => ?_))
        ·
          have g39 := of_decide_eq_true g39
          refine OT.pures hT 8 rfl (.nil (.seq (.cond_true rfl (.seq (.region (.pures hT 1 rfl (.nil (.seq (.ret (.of (rs := [.tmp 8]) [_] hs rfl (.tmp rfl .nil) sl ?_))))))))))
          try dsimp only [one]
          exact ⟨rfl, rfl⟩
        ·
          have g39 := of_decide_eq_false g39
          refine OT.pures hT 5 rfl (.split 44 rfl (fun g44 => ?_) (fun g44 => ?_))
          ·
            have g44 := of_decide_eq_true g44
            refine OT.pures hT 3 rfl (.nil (.seq (.cond_true rfl (.seq (.region (.pures hT 1 rfl (.nil (.seq (.ret (.of (rs := [.tmp 8]) [_] hs rfl (.tmp rfl .nil) sl ?_))))))))))
            try dsimp only [one]
            exact ⟨rfl, rfl⟩
          ·
            have g44 := of_decide_eq_false g44
            refine OT.pures hT 3 rfl (.nil (.seq (.cond rfl (fun c47 => ?_) (fun c47 => ?_))))
            ·
              have c47 := of_decide_eq_true c47
              refine TT.seq (.region (.pures hT 1 rfl (.nil (.seq (.ret (.of (rs := [.tmp 8]) [_] hs rfl (.tmp rfl .nil) sl ?_))))))
              try dsimp only [one]
              exact ⟨rfl, rfl⟩
            ·
              have c47 := of_decide_eq_false c47
              obtain ⟨n, rfl⟩ : ∃ m : Nat, n = m := ⟨n.toNat, by omega⟩
              obtain ⟨a, rfl⟩ : ∃ m : Nat, a = m := ⟨a.toNat, by omega⟩
              obtain ⟨b, rfl⟩ : ∃ m : Nat, b = m := ⟨b.toNat, by omega⟩
              obtain ⟨cc, rfl⟩ : ∃ m : Nat, cc = m := ⟨cc.toNat, by omega⟩
              refine TT.skip (.seq (.seq (.region (.build (cs := bkCells (List.replicate 96 (.slice none 0 0))) hT rfl Tryz.zeroValue29 rfl rfl rfl rfl (.box rfl rfl rfl (fun b_49 => ?_))))))
              refine OT.mkiface Tryz.underlying25 rfl rfl rfl rfl ?_
              have hB0 : BkAt 29 b_49 noP [(b_49, blk (bkCells (List.replicate 96 (.slice none 0 0))) 29 (0, 0))] := BkAt.one (Slots.zero [[]])
              show OT _ _ _ _ _ ([(b_49, blk (bkCells (List.replicate 96 (.slice none 0 0))) 29 (0, 0))] :: hs)
              generalize ([(b_49, blk (bkCells (List.replicate 96 (.slice none 0 0))) 29 (0, 0))] : Chunk) = HB at hB0 ⊢
              refine OT.call Tryz.call14 rfl rfl rfl rfl (tk_New hB0) ?_
              rintro v_51 hs_51 ⟨b1, HS0, rfl, rfl, hS0⟩
              refine OT.pures hT 1 rfl (.nil (.seq (.seq (.seq (.region (.pures hT 1 rfl (.nil (.seq (.block (.loop (ι := Nat × Chunk × Gone) (fun j => (j.1) ≤ n ∧ TrS b1 (j.2.2) (j.2.1) ∧ (j.2.2).2 = fillL (fun j => oneC' (j * 37 % 61) 3) (j.1)) (fun j => n - (j.1)) (fun j => [(0, .int .i64 (n : Nat)), (1, .int .i64 (a : Nat)), (2, .int .i64 (b : Nat)), (3, .int .i64 (cc : Nat)), (10, .pointer (some ⟨b1, 0, none⟩)), (11, .int .i64 ((j.1) : Nat))]) (fun j => (j.2.1) :: hs) (0, HS0, ([], [])) ?_ (SubR.cons rfl (SubR.cons rfl (SubR.cons rfl (SubR.cons rfl (SubR.cons rfl (SubR.cons rfl (SubR.nil _))))))) sl ?_))))))))))
              · dsimp only
                exact ⟨Nat.zero_le _, hS0, rfl⟩
              rintro ⟨i, HS, g⟩ hI
              dsimp only at hI
              obtain ⟨hi, hS, hg⟩ := hI
              show TT _ _ _ [(0, .int .i64 (n : Nat)), (1, .int .i64 (a : Nat)), (2, .int .i64 (b : Nat)), (3, .int .i64 (cc : Nat)), (10, .pointer (some ⟨b1, 0, none⟩)), (11, .int .i64 (i : Nat))] (HS :: hs)
              refine TT.seq (.seq (.region (.pures hT 3 rfl (.nil (.seq (.cond rfl (fun c54 => ?_) (fun c54 => ?_)))))))
              ·
                have c54 := of_decide_eq_true c54
                have hlen := fillL_len (fun j => oneC' (j * 37 % 61) 3) i
                refine TT.skip (.seq (.seq (.block (.seq (.region (.pures hT 4 rfl (.reg 60 rfl (v := .int .i64 ((i * 37 % 61 : Nat) : Int)) (int_eq (by rw [show (37 : Int) = ((37 : Nat) : Int) from rfl, w_mul (by omega) (by omega), show (61 : Int) = ((61 : Nat) : Int) from rfl, tmod_nat])) (.call Tryz.call16 rfl rfl rfl rfl (law14_keyOf (by omega)) ?_))))))))
                rintro v_61 hs_61 ⟨rfl, rfl⟩
                refine OT.call Tryz.call17 rfl rfl rfl rfl (law14_val (n := 3) (by omega)) ?_
                rintro v_62 hs_62 ⟨rfl, rfl⟩
                refine OT.build (cs := encCell (oneC' (i * 37 % 61) 3)) hT rfl Tryz.zeroValue38 rfl rfl rfl rfl (.call Tryz.call15 rfl rfl rfl rfl (Fun.pull pl (tk_Put hS (x := (oneC' (i * 37 % 61) 3)) (one_fl _ _))) ?_)
                rintro v_64 hs_64 ⟨HS1, g1, e1, rfl, rfl, hS1, hp⟩
                rcases put_may (one_may (by omega)) hp with ⟨rfl, hg1⟩ | ⟨rfl, rfl, hf1, hl1⟩
                ·
                  refine OT.pures hT 1 rfl (.nil (.seq (.seq (.region (.pures hT 2 rfl (.nil (.seq (.cond_false rfl (.skip (.blk (.seq (.region (.pures hT 3 rfl (.nil (.loop (i + 1, HS1, g1) ?_ ?_ (SubR.cons rfl (SubR.cons rfl (SubR.cons rfl (SubR.cons rfl (SubR.cons rfl (SubR.cons' rfl (by (try dsimp only); exact (int_eq (by rw [wrap_i64 (by omega) (by omega)]; omega))) (SubR.nil _))))))) sl)))))))))))))))
                  · dsimp only
                    exact ⟨by omega, hS1, by rw [hg1, hg]; rfl⟩
                  · dsimp only
                    omega
                ·
                  refine OT.pures hT 1 rfl (.nil (.seq (.seq (.region (.pures hT 2 rfl (.nil (.seq (.cond_true rfl (.seq (.region (.pures hT 3 rfl (.pures hT 1 rfl (.mkiface Tryz.underlying23 rfl rfl rfl rfl (.call Tryz.call27 rfl rfl rfl rfl (Fun.pull pl (law14_much hS1)) ?_))))))))))))))
                  rintro v_72 hs_72 ⟨HS2, rfl, rfl, hS2⟩
                  rw [decide_eq_true (show 24 ≤ g1.1.length by omega)]
                  refine OT.pures hT 2 rfl (.pures hT 4 rfl (.nil (.seq (.ret (.of (rs := [.tmp 8]) [_] hs rfl (.tmp rfl .nil) sl ?_)))))
                  try dsimp only [one]
                  exact ⟨congrArg Value.bool (decide_eq_true (by rw [hg] at hl1; omega)), rfl⟩
              ·
                have c54 := of_decide_eq_false c54
                obtain rfl : i = n := by omega
                obtain ⟨_, hsm, hri, _, _⟩ := hS.small
                have hsp := span_split (a := a) (b := b) (c := cc) (by omega) (by omega) (by omega) hri
                have hl3 := congrArg List.length hsp
                rw [List.length_append] at hl3
                have hl4 : (spanOf g.2 a cc).length ≤ g.2.length := List.length_filter_le _ _
                refine TT.exit (.seq (.loop (.here (.seq (.seq (.region (.pures hT 1 rfl (.mkiface Tryz.underlying23 rfl rfl rfl rfl (.pures hT 1 rfl (.call Tryz.call16 rfl rfl rfl rfl (law14_keyOf (by omega)) ?_))))))))))
                rintro v_82 hs_82 ⟨rfl, rfl⟩
                refine OT.pures hT 1 rfl (.call Tryz.call16 rfl rfl rfl rfl (law14_keyOf (by omega)) ?_)
                rintro v_84 hs_84 ⟨rfl, rfl⟩
                refine OT.call Tryz.call24 rfl rfl rfl rfl (Fun.pull pl (tk_Scan hS)) ?_
                rintro v_85 hs_85 ⟨HS3, K3, v3, rfl, rfl, ho3, hS3⟩
                have ho3 : Own encCell 8 38 v3 (spanOf g.2 a b) K3 := ho3
                obtain ⟨a3, c3, hv3⟩ := (ho3.row (hs := [])).len
                subst hv3
                refine OT.pures hT 5 rfl (.nil (.seq (.seq (.region (.pures hT 1 rfl (.mkiface Tryz.underlying23 rfl rfl rfl rfl (.pures hT 1 rfl (.call Tryz.call16 rfl rfl rfl rfl (law14_keyOf (by omega)) ?_))))))))
                rintro v_92 hs_92 ⟨rfl, rfl⟩
                refine OT.pures hT 1 rfl (.call Tryz.call16 rfl rfl rfl rfl (law14_keyOf (by omega)) ?_)
                rintro v_94 hs_94 ⟨rfl, rfl⟩
                refine OT.call Tryz.call24 rfl rfl rfl rfl (Fun.pull pl (tk_Scan hS3)) ?_
                rintro v_95 hs_95 ⟨HS4, K4, v4, rfl, rfl, ho4, hS4⟩
                have ho4 : Own encCell 8 38 v4 (spanOf g.2 b cc) K4 := ho4
                obtain ⟨a4, c4, hv4⟩ := (ho4.row (hs := [])).len
                subst hv4
                refine OT.pures hT 5 rfl (.nil (.seq (.seq (.region (.pures hT 1 rfl (.mkiface Tryz.underlying23 rfl rfl rfl rfl (.pures hT 1 rfl (.call Tryz.call16 rfl rfl rfl rfl (law14_keyOf (by omega)) ?_))))))))
                rintro v_102 hs_102 ⟨rfl, rfl⟩
                refine OT.pures hT 1 rfl (.call Tryz.call16 rfl rfl rfl rfl (law14_keyOf (by omega)) ?_)
                rintro v_104 hs_104 ⟨rfl, rfl⟩
                refine OT.call Tryz.call24 rfl rfl rfl rfl (Fun.pull pl (tk_Scan hS4)) ?_
                rintro v_105 hs_105 ⟨HS5, K5, v5, rfl, rfl, ho5, hS5⟩
                have ho5 : Own encCell 8 38 v5 (spanOf g.2 a cc) K5 := ho5
                obtain ⟨a5, c5, hv5⟩ := (ho5.row (hs := [])).len
                subst hv5
                refine OT.pures hT 5 rfl (.nil (.seq (.seq (.seq (.region (.pures hT 3 rfl (.pures hT 4 rfl (.pures hT 4 rfl (.pures hT 9 rfl (.nil (.seq (.cond rfl (fun c127 => ?_) (fun c127 => ?_)))))))))))))
                ·
                  exact absurd c127 (by rw [wrap_i64 (by omega) (by omega)]; simp; omega)
                ·
                  refine TT.skip (.seq (.seq (.seq (.region (.pures hT 1 rfl (.nil (.seq (.block (.loop (ι := Nat) (fun j => (j) ≤ (spanOf g.2 a cc).length) (fun j => (spanOf g.2 a cc).length - (j)) (fun j => [(13, .slice a3 (spanOf g.2 a b).length c3), (15, .slice a4 (spanOf g.2 b cc).length c4), (17, .slice a5 (spanOf g.2 a cc).length c5), (19, .int .i64 ((j) : Nat))]) (fun j => K5 :: K4 :: K3 :: hs) (0) ?_ (SubR.cons rfl (SubR.cons rfl (SubR.cons rfl (SubR.cons rfl (SubR.nil _))))) sl ?_)))))))))
                  · exact Nat.zero_le _
                  rintro q hq
                  show TT _ _ _ [(13, .slice a3 (spanOf g.2 a b).length c3), (15, .slice a4 (spanOf g.2 b cc).length c4), (17, .slice a5 (spanOf g.2 a cc).length c5), (19, .int .i64 (q : Nat))] (K5 :: K4 :: K3 :: hs)
                  refine TT.seq (.seq (.region (.pures hT 4 rfl (.nil (.seq (.cond rfl (fun c131 => ?_) (fun c131 => ?_)))))))
                  ·
                    have c131 := of_decide_eq_true c131
                    obtain ⟨zc, hzc⟩ := nth (l := (spanOf g.2 a cc)) (i := q) (by omega)
                    refine TT.skip (.seq (.seq (.block (.seq (.region (.pures hT 1 rfl (.nil (.seq (.seq (.seq (.region (.pures hT 4 rfl (.nil (.seq (.cond rfl (fun c137 => ?_) (fun c137 => ?_))))))))))))))))
                    ·
                      have c137 := of_decide_eq_true c137
                      obtain ⟨xc, hx⟩ := nth (l := (spanOf g.2 a b)) (i := q) (by omega)
                      have hzx : zc = xc := by
                        rw [hsp, List.getElem?_append_left (by omega), hx] at hzc; injection hzc with h; exact h.symm
                      refine TT.region (.pures hT 2 rfl (.index hT rfl rfl rfl rfl ho3.row.there.there (by omega) (by rw [Int.toNat_natCast]; exact hx) rfl (fun ad_140 hel_140 => ?_)))
                      obtain ⟨eb_140, eo_140, rfl, hfld_140⟩ := hel_140.at (P := Tryz.prog)
                      refine OT.pures hT 1 rfl (.load rfl rfl (hfld_140 hT rfl rfl) rfl (.pures hT 1 rfl (.nil (.seq (.seq (.region (.pures hT 2 rfl (.index hT rfl rfl rfl rfl ho5.row (by omega) (by rw [Int.toNat_natCast]; exact hzc) rfl (fun ad_153 hel_153 => ?_)))))))))
                      obtain ⟨eb_153, eo_153, rfl, hfld_153⟩ := hel_153.at (P := Tryz.prog)
                      refine OT.pures hT 1 rfl (.load rfl rfl (hfld_153 hT rfl rfl) rfl (.pures hT 2 rfl (.nil (.seq (.cond rfl (fun c157 => ?_) (fun c157 => ?_))))))
                      ·
                        exact absurd c157 (by rw [hzx]; simp)
                      ·
                        refine TT.skip (.blk (.seq (.region (.pures hT 3 rfl (.nil (.loop (q + 1) ?_ ?_ (SubR.cons rfl (SubR.cons rfl (SubR.cons rfl (SubR.cons' rfl (by (try dsimp only); exact (int_eq (by rw [wrap_i64 (by omega) (by omega)]; omega))) (SubR.nil _))))) sl))))))
                        · omega
                        · omega
                    ·
                      have c137 := of_decide_eq_false c137
                      obtain ⟨xc, hx⟩ := nth (l := (spanOf g.2 b cc)) (i := q - (spanOf g.2 a b).length) (by omega)
                      have hzx : zc = xc := by
                        rw [hsp, List.getElem?_append_right (by omega), hx] at hzc; injection hzc with h; exact h.symm
                      refine TT.region (.pures hT 5 rfl (.index hT rfl rfl rfl rfl ho4.row.there (by rw [wrap_i64 (by omega) (by omega)]; omega) (by rw [wrap_i64 (by omega) (by omega), show ((q : Int) - ((spanOf g.2 a b).length : Nat)).toNat = q - (spanOf g.2 a b).length by omega]; exact hx) rfl (fun ad_148 hel_148 => ?_)))
                      obtain ⟨eb_148, eo_148, rfl, hfld_148⟩ := hel_148.at (P := Tryz.prog)
                      refine OT.pures hT 1 rfl (.load rfl rfl (hfld_148 hT rfl rfl) rfl (.pures hT 1 rfl (.nil (.seq (.seq (.region (.pures hT 2 rfl (.index hT rfl rfl rfl rfl ho5.row (by omega) (by rw [Int.toNat_natCast]; exact hzc) rfl (fun ad_153 hel_153 => ?_)))))))))
                      obtain ⟨eb_153, eo_153, rfl, hfld_153⟩ := hel_153.at (P := Tryz.prog)
                      refine OT.pures hT 1 rfl (.load rfl rfl (hfld_153 hT rfl rfl) rfl (.pures hT 2 rfl (.nil (.seq (.cond rfl (fun c157 => ?_) (fun c157 => ?_))))))
                      ·
                        exact absurd c157 (by rw [hzx]; simp)
                      ·
                        refine TT.skip (.blk (.seq (.region (.pures hT 3 rfl (.nil (.loop (q + 1) ?_ ?_ (SubR.cons rfl (SubR.cons rfl (SubR.cons rfl (SubR.cons' rfl (by (try dsimp only); exact (int_eq (by rw [wrap_i64 (by omega) (by omega)]; omega))) (SubR.nil _))))) sl))))))
                        · omega
                        · omega
                  ·
                    have c131 := of_decide_eq_false c131
                    refine TT.exit (.seq (.loop (.here (.seq (.seq (.region (.pures hT 1 rfl (.nil (.seq (.ret (.of (rs := [.tmp 8]) [_] hs rfl (.tmp rfl .nil) sl ?_)))))))))))
                    try dsimp only [one]
                    exact ⟨rfl, rfl⟩

end Go.Proofs.YtmkandddjcncfaaGreat.Sx
end

section
namespace Go.Proofs.YtmkandddjcncfaaGreat.Sx
open Go Go.Sx Go.Pl
variable [Outer]

set_option maxHeartbeats 4000000 in
set_option maxRecDepth 100000 in
theorem law_TreePlace {n long sh : Int} (hr1 : -9223372036854775808 ≤ n ∧ n ≤ 9223372036854775807) (hr2 : -9223372036854775808 ≤ long ∧ long ≤ 9223372036854775807) (hr3 : -9223372036854775808 ≤ sh ∧ sh ≤ 9223372036854775807) {hs : List Chunk} : Fun Tryz.prog 11 [.int .i64 n, .int .i64 long, .int .i64 sh] hs (fun v' hs' => v' = .bool true ∧ hs = hs') := by
  refine Fun.enter 115 Tryz.func11 rfl Tryz.ntmps11 rfl ?_
  refine TT.seq (.region (.pures hT 1 rfl (.nil (.seq (.seq (.region (.call Tryz.call13 rfl rfl rfl rfl (law14_begun) ?_)))))))
  rintro v_17 hs_17 ⟨rfl, rfl⟩
  refine OT.pures hT 1 rfl (.nil (.seq (.seq (.seq (.region (.pures hT 2 rfl (.nil (.seq (.cond_false rfl (.skip (.seq (.seq (.seq (.region (.pures hT 3 rfl (.split 22 rfl (fun g22 => ?_) (fun g22 => ?_)))))))))))))))))
  ·
    have g22 := of_decide_eq_true g22
    refine OT.pures hT 20 rfl (.nil (.seq (.cond_true rfl (.seq (.region (.pures hT 1 rfl (.nil (.seq (.ret (.of (rs := [.tmp 6]) [_] hs rfl (.tmp rfl .nil) sl ?_))))))))))
    try dsimp only [one]
    exact ⟨rfl, rfl⟩
  ·
    have g22 := of_decide_eq_false g22
    refine OT.pures hT 4 rfl (.split 26 rfl (fun g26 => ?_) (fun g26 => ?_))
    ·
      have g26 := of_decide_eq_true g26
      refine OT.pures hT 16 rfl (.nil (.seq (.cond_true rfl (.seq (.region (.pures hT 1 rfl (.nil (.seq (.ret (.of (rs := [.tmp 6]) [_] hs rfl (.tmp rfl .nil) sl ?_))))))))))
      try dsimp only [one]
      exact ⟨rfl, rfl⟩
    ·
      have g26 := of_decide_eq_false g26
      refine OT.pures hT 4 rfl (.split 30 rfl (fun g30 => ?_) (fun g30 => ?_))
      ·
        have g30 := of_decide_eq_true g30
        refine OT.pures hT 12 rfl (.nil (.seq (.cond_true rfl (.seq (.region (.pures hT 1 rfl (.nil (.seq (.ret (.of (rs := [.tmp 6]) [_] hs rfl (.tmp rfl .nil) sl ?_))))))))))
        try dsimp only [one]
        exact ⟨rfl, rfl⟩
      ·
        have g30 := of_decide_eq_false g30
        refine OT.pures hT 4 rfl (.split 34 rfl (fun g34 => ?_) (fun g34 => ?_))
        ·
          have g34 := of_decide_eq_true g34
          refine OT.pures hT 8 rfl (.nil (.seq (.cond_true rfl (.seq (.region (.pures hT 1 rfl (.nil (.seq (.ret (.of (rs := [.tmp 6]) [_] hs rfl (.tmp rfl .nil) sl ?_))))))))))
          try dsimp only [one]
          exact ⟨rfl, rfl⟩
        ·
          have g34 := of_decide_eq_false g34
          refine OT.pures hT 4 rfl (.split 38 rfl (fun g38 => ?_) (fun g38 => ?_))
          ·
            have g38 := of_decide_eq_true g38
            refine OT.pures hT 4 rfl (.nil (.seq (.cond_true rfl (.seq (.region (.pures hT 1 rfl (.nil (.seq (.ret (.of (rs := [.tmp 6]) [_] hs rfl (.tmp rfl .nil) sl ?_))))))))))
            try dsimp only [one]
            exact ⟨rfl, rfl⟩
          ·
            have g38 := of_decide_eq_false g38
            refine OT.pures hT 4 rfl (.nil (.seq (.cond rfl (fun c42 => ?_) (fun c42 => ?_))))
            ·
              have c42 := of_decide_eq_true c42
              refine TT.seq (.region (.pures hT 1 rfl (.nil (.seq (.ret (.of (rs := [.tmp 6]) [_] hs rfl (.tmp rfl .nil) sl ?_))))))
              try dsimp only [one]
              exact ⟨rfl, rfl⟩
            ·
              have c42 := of_decide_eq_false c42
              obtain ⟨n, rfl⟩ : ∃ m : Nat, n = m := ⟨n.toNat, by omega⟩
              obtain ⟨long, rfl⟩ : ∃ m : Nat, long = m := ⟨long.toNat, by omega⟩
              obtain ⟨sh, rfl⟩ : ∃ m : Nat, sh = m := ⟨sh.toNat, by omega⟩
              refine TT.skip (.seq (.seq (.region (.build (cs := bkCells (List.replicate 96 (.slice none 0 0))) hT rfl Tryz.zeroValue29 rfl rfl rfl rfl (.box rfl rfl rfl (fun b_44 => ?_))))))
              refine OT.mkiface Tryz.underlying25 rfl rfl rfl rfl ?_
              have hB0 : BkAt 29 b_44 noP [(b_44, blk (bkCells (List.replicate 96 (.slice none 0 0))) 29 (0, 0))] := BkAt.one (Slots.zero [[]])
              show OT _ _ _ _ _ ([(b_44, blk (bkCells (List.replicate 96 (.slice none 0 0))) 29 (0, 0))] :: hs)
              generalize ([(b_44, blk (bkCells (List.replicate 96 (.slice none 0 0))) 29 (0, 0))] : Chunk) = HB at hB0 ⊢
              refine OT.call Tryz.call14 rfl rfl rfl rfl (tk_New hB0) ?_
              rintro v_46 hs_46 ⟨b1, HS0, rfl, rfl, hS0⟩
              refine OT.pures hT 1 rfl (.nil (.seq (.seq (.region (.pures hT 1 rfl (.nil (.seq (.seq (.seq (.region (.pures hT 1 rfl (.nil (.seq (.block (.loop (ι := Nat × Value × Chunk × Chunk × Gone) (fun j => (j.1) ≤ n ∧ TrS b1 (j.2.2.2.2) (j.2.2.2.1) ∧ OfLen (j.1) long (j.2.2.2.2).2 ∧ Own encCell 8 66 (j.2.1) (j.2.2.2.2).2 (j.2.2.1)) (fun j => n - (j.1)) (fun j => [(0, .int .i64 (n : Nat)), (1, .int .i64 (long : Nat)), (2, .int .i64 (sh : Nat)), (8, .pointer (some ⟨b1, 0, none⟩)), (9, (j.2.1)), (10, .int .i64 ((j.1) : Nat))]) (fun j => (j.2.2.1) :: (j.2.2.2.1) :: hs) (0, .slice none 0 0, [], HS0, ([], [])) ?_ (SubR.cons rfl (SubR.cons rfl (SubR.cons rfl (SubR.cons rfl (SubR.cons rfl (SubR.cons rfl (SubR.nil _))))))) (.empty sl) ?_)))))))))))))))
              · dsimp only
                exact ⟨Nat.zero_le _, hS0, (fun c hc => by cases hc), Own.nil⟩
              rintro ⟨i, w, K, HS, g⟩ hI
              dsimp only at hI
              obtain ⟨hi, hS, hO, hoK⟩ := hI
              show TT _ _ _ [(0, .int .i64 (n : Nat)), (1, .int .i64 (long : Nat)), (2, .int .i64 (sh : Nat)), (8, .pointer (some ⟨b1, 0, none⟩)), (9, w), (10, .int .i64 (i : Nat))] (K :: HS :: hs)
              refine TT.seq (.seq (.region (.pures hT 3 rfl (.nil (.seq (.cond rfl (fun c49 => ?_) (fun c49 => ?_)))))))
              ·
                have c49 := of_decide_eq_true c49
                obtain ⟨_, hsm, hri, _, _⟩ := hS.small
                refine TT.skip (.seq (.seq (.block (.seq (.region (.pures hT 1 rfl (.call Tryz.call16 rfl rfl rfl rfl (law14_keyOf (by omega)) ?_)))))))
                rintro v_53 hs_53 ⟨rfl, rfl⟩
                refine OT.pures hT 1 rfl (.call Tryz.call17 rfl rfl rfl rfl (law14_val (by omega)) ?_)
                rintro v_55 hs_55 ⟨rfl, rfl⟩
                refine OT.build (cs := encCell (oneC' i long)) hT rfl Tryz.zeroValue66 rfl rfl rfl rfl (.alloc Tryz.zeroValue66 rfl rfl (fun b_11 => ?_))
                refine OT.store_all hT rfl rfl rfl rfl pl rfl rfl rfl (.inl (Nat.le_refl _)) ?_
                refine OT.nil (.seq (.seq (.region (.pures hT 2 rfl (.load rfl rfl (Ld.one hT rfl hz rfl) rfl ?_)))))
                refine OT.pures hT 1 rfl (.load rfl rfl (Ld.struct (vs := encVl ((oneC' i long)).val) hT rfl hz rfl rfl) rfl ?_)
                refine OT.build (cs := encCell (oneC' i long)) hT rfl Tryz.zeroValue38 rfl rfl rfl rfl (.call Tryz.call15 rfl rfl rfl rfl (Fun.pull pl (tk_Put hS (x := (oneC' i long)) (one_fl _ _))) ?_)
                rintro v_63 hs_63 ⟨HS1, g1, e1, rfl, rfl, hS1, hp⟩
                have hq := put_may (one_may (by omega)) hp
                refine OT.pures hT 1 rfl (.nil (.seq (.cond rfl (fun c64 => ?_) (fun c64 => ?_))))
                ·
                  obtain ⟨rfl, hg1⟩ := hq.resolve_right (fun h => by rw [h.1] at c64; simp at c64)
                  refine TT.region (.pures hT 1 rfl (.load rfl rfl (Ld.struct_all hT rfl hz rfl) rfl ?_))
                  refine OT.call Tryz.call31 rfl rfl rfl rfl (Fun.pull pl (law14_put hoK (by omega))) ?_
                  rintro v_67 hs_67 ⟨K1, rfl, hoK1⟩
                  refine OT.pures hT 1 rfl (.nil (.blk (.seq (.region (.pures hT 3 rfl (.nil (.loop (i + 1, v_67, K1, HS1, g1) ?_ ?_ (SubR.cons rfl (SubR.cons rfl (SubR.cons rfl (SubR.cons rfl (SubR.cons rfl (SubR.cons' rfl (by (try dsimp only); exact (int_eq (by rw [wrap_i64 (by omega) (by omega)]; omega))) (SubR.nil _))))))) sl)))))))
                  · dsimp only
                    exact ⟨by omega, hS1, by rw [hg1]; exact hO.put hri, by rw [lawPut_is hri, ← hg1] at hoK1; exact hoK1⟩
                  · dsimp only
                    omega
                ·
                  obtain ⟨rfl, rfl, hf1, hl1⟩ := hq.resolve_left (fun h => by rw [h.1] at c64; simp at c64)
                  refine TT.skip (.blk (.seq (.region (.pures hT 3 rfl (.nil (.loop (i + 1, w, K, HS1, g1) ?_ ?_ (SubR.cons rfl (SubR.cons rfl (SubR.cons rfl (SubR.cons rfl (SubR.cons rfl (SubR.cons' rfl (by (try dsimp only); exact (int_eq (by rw [wrap_i64 (by omega) (by omega)]; omega))) (SubR.nil _))))))) sl))))))
                  · dsimp only
                    exact ⟨by omega, hS1, (fun c hc => by obtain ⟨j, hj, e⟩ := hO c hc; exact ⟨j, by omega, e⟩), hoK⟩
                  · dsimp only
                    omega
              ·
                have c49 := of_decide_eq_false c49
                obtain rfl : i = n := by omega
                obtain ⟨_, hsm, _, _, _⟩ := hS.small
                obtain ⟨aL, cL, hwL⟩ := (hoK.row (hs := [])).len
                subst hwL
                refine TT.exit (.seq (.loop (.here (.seq (.seq (.region (.pures hT 1 rfl (.mkiface Tryz.underlying23 rfl rfl rfl rfl (.call Tryz.call39 rfl rfl rfl rfl (Fun.pull pl (tk_Count hS)) ?_)))))))))
                rintro v_71 hs_71 ⟨HS2, rfl, rfl, hS2⟩
                refine OT.pures hT 5 rfl (.nil (.seq (.seq (.seq (.region (.pures hT 1 rfl (.nil (.seq (.block (.loop (ι := Nat × (Option Addr) × Nat × Chunk × Chunk × Gone) (fun j => (j.1) ≤ g.2.length ∧ TrS b1 (j.2.2.2.2.2) (j.2.2.2.2.1) ∧ (j.2.2.2.2.2).1 = g.1 ∧ (j.2.2.2.2.2).2.length = g.2.length ∧ Shorter i sh long (j.1) (j.2.2.2.2.2).2 ∧ Own encCell 8 66 (.slice (j.2.1) g.2.length (j.2.2.1)) (j.2.2.2.2.2).2 (j.2.2.2.1)) (fun j => g.2.length - (j.1)) (fun j => [(2, .int .i64 (sh : Nat)), (8, .pointer (some ⟨b1, 0, none⟩)), (9, .slice (j.2.1) g.2.length (j.2.2.1)), (12, .int .i64 (g.1.length : Nat)), (14, .int .i64 ((j.1) : Nat))]) (fun j => (j.2.2.2.1) :: (j.2.2.2.2.1) :: hs) (0, aL, cL, K, HS2, g) ?_ (SubR.cons rfl (SubR.cons rfl (SubR.cons rfl (SubR.cons rfl (SubR.cons rfl (SubR.nil _)))))) sl ?_))))))))))
                · dsimp only
                  exact ⟨Nat.zero_le _, hS2, rfl, rfl, Shorter.zero hO, hoK⟩
                rintro ⟨q, aQ, cQ, K, HS, g2⟩ hI
                dsimp only at hI
                obtain ⟨hq1, hS3, hg21, hg22, hSh, hoQ⟩ := hI
                show TT _ _ _ [(2, .int .i64 (sh : Nat)), (8, .pointer (some ⟨b1, 0, none⟩)), (9, .slice aQ g.2.length cQ), (12, .int .i64 (g.1.length : Nat)), (14, .int .i64 (q : Nat))] (K :: HS :: hs)
                refine TT.seq (.seq (.region (.pures hT 4 rfl (.nil (.seq (.cond rfl (fun c77 => ?_) (fun c77 => ?_)))))))
                ·
                  have c77 := of_decide_eq_true c77
                  obtain ⟨z, hzq⟩ := nth (l := g2.2) (i := q) (by omega)
                  obtain ⟨k, hk, e⟩ := hSh q z hzq
                  rw [if_neg (Nat.lt_irrefl _)] at e
                  subst e
                  obtain ⟨_, _, hr2, _, _⟩ := hS3.small
                  have hset : (g2.2.set q (oneC' k sh))[q]? = some (oneC' k sh) := List.getElem?_set_self (by omega)
                  refine TT.skip (.seq (.seq (.block (.seq (.region (.pures hT 3 rfl (.call Tryz.call17 rfl rfl rfl rfl (law14_val (by omega)) ?_)))))))
                  rintro v_83 hs_83 ⟨rfl, rfl⟩
                  refine OT.index_own hT rfl rfl rfl rfl hoQ (by omega) (by omega) rfl (fun ib_84 io_84 ic_84 hv_84 => ?_)
                  refine OT.pures hT 1 rfl ?_
                  obtain ⟨rfl, rfl⟩ : aQ = some ⟨ib_84, io_84, none⟩ ∧ cQ = ic_84 := by injection hv_84 with h1 _ h3; exact ⟨h1, h3⟩
                  refine OT.store_el q 1 hT rfl rfl rfl rfl pl hoQ hzq (by omega) rfl (by decide) rfl (show splice (encCell (oneC' k long)) 1 (encVl (valN sh)) = encCell (oneC' k sh) from rfl) (fun H_y ho_y => ?_)
                  refine OT.nil (.seq (.seq (.draw ((H_y :: hs)) mixed (.takes (fuel := 9) hT [0, 1, 2, 6, 7] kr kr rfl (.index (fuel := 8) hT 3 rfl kr kr kr rfl rfl rfl rfl ho_y.row (by omega) (by rw [Int.toNat_natCast]; exact hset) rfl (fun ad_89 hel_89 => ?_))))))
                  obtain ⟨eb_89, eo_89, rfl, hfld_89⟩ := hel_89.at (P := Tryz.prog)
                  refine AT.takes (fuel := 7) hT [4] kr kr rfl (.take (fuel := 6) hT 5 rfl rfl kr kr kr rfl (.load rfl (hfld_89 hT rfl rfl)) rfl (.index (fuel := 5) hT 8 rfl kr kr kr rfl rfl rfl rfl ho_y.row (by omega) (by rw [Int.toNat_natCast]; exact hset) rfl (fun ad_94 hel_94 => ?_)))
                  obtain ⟨eb_94, eo_94, rfl, hfld_94⟩ := hel_94.at (P := Tryz.prog)
                  refine AT.takes (fuel := 4) hT [9] kr kr rfl (.take (fuel := 3) hT 10 rfl rfl kr kr kr rfl (.load rfl (hel_94.ld_sub hT rfl 1 (vs := encVl (valN sh)) rfl (by decide))) rfl (.take (fuel := 2) hT 11 rfl rfl kr kr kr rfl (fl_build (cs := encCell (oneC' k sh)) hT rfl Tryz.zeroValue38 rfl rfl) rfl (.op (fuel := 1) 12 kr rfl sl (.call Tryz.call15 rfl rfl rfl rfl (Fun.pull pl (tk_Put hS3 (x := (oneC' k sh)) (one_fl _ _))) ?_))))
                  rintro v_98 hs_98 ⟨HS4, g3, e3, rfl, rfl, hS4, hp3⟩
                  obtain ⟨rfl, hg32, hg31⟩ := put_place (by omega) (by omega) hr2 hzq hp3
                  refine OT.nil (.any (.takes (fuel := 0) hT [13] kr kr rfl (.done kr sl (.seq (.cond_false rfl (.skip (.blk (.seq (.region (.pures hT 3 rfl (.nil (.loop (q + 1, some ⟨ib_84, io_84, none⟩, cQ, H_y, HS4, g3) ?_ ?_ (SubR.cons rfl (SubR.cons rfl (SubR.cons rfl (SubR.cons rfl (SubR.cons' rfl (by (try dsimp only); exact (int_eq (by rw [wrap_i64 (by omega) (by omega)]; omega))) (SubR.nil _)))))) sl))))))))))))
                  · dsimp only
                    exact ⟨by omega, hS4, hg31.trans hg21, by rw [hg32, List.length_set]; exact hg22, by rw [hg32]; exact hSh.step hzq hk, by rw [hg32]; exact ho_y⟩
                  · dsimp only
                    omega
                ·
                  have c77 := of_decide_eq_false c77
                  refine TT.exit (.seq (.loop (.here (.seq (.seq (.region (.pures hT 1 rfl (.mkiface Tryz.underlying23 rfl rfl rfl rfl (.call Tryz.call39 rfl rfl rfl rfl (Fun.pull pl (tk_Count hS3)) ?_)))))))))
                  rintro v_103 hs_103 ⟨HS5, rfl, rfl, hS5⟩
                  refine OT.pures hT 5 rfl (.nil (.seq (.seq (.region (.pures hT 4 rfl (.split 109 rfl (fun g109 => ?_) (fun g109 => ?_)))))))
                  ·
                    refine OT.pures hT 1 rfl (.mkiface Tryz.underlying23 rfl rfl rfl rfl (.pures hT 1 rfl ?_))
                    refine OT.call Tryz.call37 rfl rfl rfl rfl (Fun.pull pl (law14_same hS5 (v := .slice aQ g.2.length cQ) (Row.mono hoQ.row (fun b o hb => Has.sel sl hb)) (fun x hx => by
                      obtain ⟨q, hq⟩ := List.getElem?_of_mem hx
                      obtain ⟨j, _, rfl⟩ := hSh q x hq
                      exact one_fl _ _))) ?_
                    rintro v_113 hs_113 ⟨HS6, rfl, rfl, _⟩
                    refine OT.pures hT 2 rfl (.nil (.seq (.ret (.of (rs := [.tmp 6]) [_] hs rfl (.tmp rfl .nil) sl ?_))))
                    try dsimp only [one]
                    exact ⟨rfl, rfl⟩
                  ·
                    exact absurd g109 (by rw [hg21]; simp)

set_option maxHeartbeats 4000000 in
set_option maxRecDepth 100000 in
theorem law_TreeMany {step n : Int} (hr1 : -9223372036854775808 ≤ step ∧ step ≤ 9223372036854775807) (hr2 : -9223372036854775808 ≤ n ∧ n ≤ 9223372036854775807) {s20 : ByteArray} {hs : List Chunk} : Fun Tryz.prog 8 [.int .i64 step, .int .i64 n, .string s20] hs (fun v' hs' => v' = .bool true ∧ hs = hs') := by
  refine Fun.enter 139 Tryz.func8 rfl Tryz.ntmps8 rfl ?_
  refine TT.seq (.region (.pures hT 1 rfl (.nil (.seq (.seq (.region (.call Tryz.call13 rfl rfl rfl rfl (law14_begun) ?_)))))))
  rintro v_20 hs_20 ⟨rfl, rfl⟩
  refine OT.pures hT 1 rfl (.nil (.seq (.seq (.seq (.region (.pures hT 2 rfl (.nil (.seq (.cond_false rfl (.skip (.seq (.seq (.seq (.region (.pures hT 3 rfl (.split 25 rfl (fun g25 => ?_) (fun g25 => ?_)))))))))))))))))
  ·
    have g25 := of_decide_eq_true g25
    refine OT.pures hT 11 rfl (.nil (.seq (.cond_true rfl (.seq (.region (.pures hT 1 rfl (.nil (.seq (.ret (.of (rs := [.tmp 6]) [_] hs rfl (.tmp rfl .nil) sl ?_))))))))))
    try dsimp only [one]
    exact ⟨rfl, rfl⟩
  ·
    have g25 := of_decide_eq_false g25
    refine OT.pures hT 4 rfl (.split 29 rfl (fun g29 => ?_) (fun g29 => ?_))
    ·
      have g29 := of_decide_eq_true g29
      refine OT.pures hT 7 rfl (.nil (.seq (.cond_true rfl (.seq (.region (.pures hT 1 rfl (.nil (.seq (.ret (.of (rs := [.tmp 6]) [_] hs rfl (.tmp rfl .nil) sl ?_))))))))))
      try dsimp only [one]
      exact ⟨rfl, rfl⟩
    ·
      have g29 := of_decide_eq_false g29
      refine OT.pures hT 4 rfl (.split 33 rfl (fun g33 => ?_) (fun g33 => ?_))
      ·
        have g33 := of_decide_eq_true g33
        refine OT.pures hT 3 rfl (.nil (.seq (.cond_true rfl (.seq (.region (.pures hT 1 rfl (.nil (.seq (.ret (.of (rs := [.tmp 6]) [_] hs rfl (.tmp rfl .nil) sl ?_))))))))))
        try dsimp only [one]
        exact ⟨rfl, rfl⟩
      ·
        have g33 := of_decide_eq_false g33
        refine OT.pures hT 3 rfl (.nil (.seq (.cond rfl (fun c36 => ?_) (fun c36 => ?_))))
        ·
          have c36 := of_decide_eq_true c36
          refine TT.seq (.region (.pures hT 1 rfl (.nil (.seq (.ret (.of (rs := [.tmp 6]) [_] hs rfl (.tmp rfl .nil) sl ?_))))))
          try dsimp only [one]
          exact ⟨rfl, rfl⟩
        ·
          have c36 := of_decide_eq_false c36
          obtain ⟨step, rfl⟩ : ∃ m : Nat, step = m := ⟨step.toNat, by omega⟩
          obtain ⟨n, rfl⟩ : ∃ m : Nat, n = m := ⟨n.toNat, by omega⟩
          have htx := cutS_small s20 20
          refine TT.skip (.seq (.seq (.region (.pures hT 1 rfl (.call Tryz.call23 rfl rfl rfl rfl (law1_Cut (n := 20)) ?_)))))
          rintro v_38 hs_38 ⟨rfl, rfl⟩
          refine OT.pures hT 1 rfl (.nil (.seq (.seq (.region (.build (cs := bkCells (List.replicate 96 (.slice none 0 0))) hT rfl Tryz.zeroValue29 rfl rfl rfl rfl (.box rfl rfl rfl (fun b_40 => ?_)))))))
          refine OT.mkiface Tryz.underlying25 rfl rfl rfl rfl ?_
          have hB0 : BkAt 29 b_40 noP [(b_40, blk (bkCells (List.replicate 96 (.slice none 0 0))) 29 (0, 0))] := BkAt.one (Slots.zero [[]])
          show OT _ _ _ _ _ ([(b_40, blk (bkCells (List.replicate 96 (.slice none 0 0))) 29 (0, 0))] :: hs)
          generalize ([(b_40, blk (bkCells (List.replicate 96 (.slice none 0 0))) 29 (0, 0))] : Chunk) = HB at hB0 ⊢
          refine OT.call Tryz.call14 rfl rfl rfl rfl (tk_New hB0) ?_
          rintro v_42 hs_42 ⟨b1, HS0, rfl, rfl, hS0⟩
          refine OT.pures hT 1 rfl (.nil (.seq (.seq (.region (.pures hT 1 rfl (.nil (.seq (.seq (.seq (.region (.pures hT 1 rfl (.nil (.seq (.block (.loop (ι := Nat × Value × Chunk × Chunk × Gone) (fun j => (j.1) ≤ n ∧ TrS b1 (j.2.2.2.2) (j.2.2.2.1) ∧ FlL (j.2.2.2.2).2 ∧ Own encCell 8 66 (j.2.1) (j.2.2.2.2).2 (j.2.2.1)) (fun j => n - (j.1)) (fun j => [(0, .int .i64 (step : Nat)), (1, .int .i64 (n : Nat)), (8, .string (cutS s20 20)), (9, .pointer (some ⟨b1, 0, none⟩)), (10, (j.2.1)), (11, .int .i64 ((j.1) : Nat))]) (fun j => (j.2.2.1) :: (j.2.2.2.1) :: hs) (0, .slice none 0 0, [], HS0, ([], [])) ?_ (SubR.cons rfl (SubR.cons rfl (SubR.cons rfl (SubR.cons rfl (SubR.cons rfl (SubR.cons rfl (SubR.nil _))))))) (.empty sl) ?_)))))))))))))))
          · dsimp only
            exact ⟨Nat.zero_le _, hS0, (fun c hc => by cases hc), Own.nil⟩
          rintro ⟨i, w, K, HS, g⟩ hI
          dsimp only at hI
          obtain ⟨hi, hS, hO, hoK⟩ := hI
          show TT _ _ _ [(0, .int .i64 (step : Nat)), (1, .int .i64 (n : Nat)), (8, .string (cutS s20 20)), (9, .pointer (some ⟨b1, 0, none⟩)), (10, w), (11, .int .i64 (i : Nat))] (K :: HS :: hs)
          refine TT.seq (.seq (.region (.pures hT 3 rfl (.nil (.seq (.cond rfl (fun c45 => ?_) (fun c45 => ?_)))))))
          ·
            have c45 := of_decide_eq_true c45
            obtain ⟨_, hsm, hri, _, _⟩ := hS.small
            have hmod := Nat.mod_lt (i * step) (show 0 < 211 by decide)
            refine TT.skip (.seq (.seq (.block (.seq (.region (.pures hT 4 rfl (.reg 51 rfl (v := .int .i64 ((i * step % 211 : Nat) : Int)) (int_eq (by rw [w_mul (by omega) (by omega), show (211 : Int) = ((211 : Nat) : Int) from rfl, tmod_nat])) (.call Tryz.call16 rfl rfl rfl rfl (law14_keyOf (by omega)) ?_))))))))
            rintro v_52 hs_52 ⟨rfl, rfl⟩
            refine OT.pures hT 1 rfl (.build (cs := encVl (textC (i * step % 211) (cutS s20 20)).val) hT rfl Tryz.zeroValue35 rfl rfl rfl rfl (.build (cs := encCell (textC (i * step % 211) (cutS s20 20))) hT rfl Tryz.zeroValue66 rfl rfl rfl rfl (.alloc Tryz.zeroValue66 rfl rfl (fun b_12 => ?_))))
            refine OT.store_all hT rfl rfl rfl rfl pl rfl rfl rfl (.inl (Nat.le_refl _)) ?_
            refine OT.nil (.seq (.seq (.region (.pures hT 1 rfl (.load rfl rfl (Ld.struct_all hT rfl hz rfl) rfl ?_)))))
            refine OT.call Tryz.call29 rfl rfl rfl rfl (law10_Of) ?_
            rintro v_58 hs_58 ⟨rfl, rfl⟩
            refine OT.call Tryz.call15 rfl rfl rfl rfl (Fun.pull pl (tk_Put hS (x := (textC (i * step % 211) (cutS s20 20))) (textC_fl _ _))) ?_
            rintro v_59 hs_59 ⟨HS1, g1, e1, rfl, rfl, hS1, hp⟩
            have hq := put_may (textC_may htx) hp
            refine OT.pures hT 1 rfl (.nil (.seq (.seq (.region (.pures hT 2 rfl (.nil (.seq (.cond rfl (fun c61 => ?_) (fun c61 => ?_)))))))))
            ·
              obtain ⟨rfl, hg1⟩ := hq.resolve_right (fun h => by rw [h.1] at c61; simp at c61)
              refine TT.region (.pures hT 1 rfl (.load rfl rfl (Ld.struct_all hT rfl hz rfl) rfl ?_))
              refine OT.call Tryz.call31 rfl rfl rfl rfl (Fun.pull pl (law14_put hoK (by omega))) ?_
              rintro v_64 hs_64 ⟨K1, rfl, hoK1⟩
              refine OT.pures hT 1 rfl (.nil (.blk (.seq (.region (.pures hT 3 rfl (.nil (.loop (i + 1, v_64, K1, HS1, g1) ?_ ?_ (SubR.cons rfl (SubR.cons rfl (SubR.cons rfl (SubR.cons rfl (SubR.cons rfl (SubR.cons' rfl (by (try dsimp only); exact (int_eq (by rw [wrap_i64 (by omega) (by omega)]; omega))) (SubR.nil _))))))) sl)))))))
              · dsimp only
                exact ⟨by omega, hS1, by rw [hg1]; exact hO.put hri (textC_fl _ _), by rw [lawPut_is hri, ← hg1] at hoK1; exact hoK1⟩
              · dsimp only
                omega
            ·
              obtain ⟨rfl, rfl, hf1, hl1⟩ := hq.resolve_left (fun h => by rw [h.1] at c61; simp at c61)
              refine TT.seq (.region (.pures hT 3 rfl (.pures hT 1 rfl (.mkiface Tryz.underlying23 rfl rfl rfl rfl (.call Tryz.call27 rfl rfl rfl rfl (Fun.pull pl (law14_much hS1)) ?_)))))
              rintro v_70 hs_70 ⟨HS2, rfl, rfl, hS2⟩
              rw [decide_eq_true (show 24 ≤ _ by omega)]
              refine OT.pures hT 2 rfl (.nil (.seq (.cond_false rfl (.skip (.blk (.seq (.region (.pures hT 3 rfl (.nil (.loop (i + 1, w, K, HS2, g1) ?_ ?_ (SubR.cons rfl (SubR.cons rfl (SubR.cons rfl (SubR.cons rfl (SubR.cons rfl (SubR.cons' rfl (by (try dsimp only); exact (int_eq (by rw [wrap_i64 (by omega) (by omega)]; omega))) (SubR.nil _))))))) sl))))))))))
              · dsimp only
                exact ⟨by omega, hS2, hO, hoK⟩
              · dsimp only
                omega
          ·
            have c45 := of_decide_eq_false c45
            obtain rfl : i = n := by omega
            obtain ⟨_, hsm, hri, _, _⟩ := hS.small
            obtain ⟨aL, cL, hwL⟩ := (hoK.row (hs := [])).len
            subst hwL
            have hLn : g.2.length ≤ 8192 := hsm
            refine TT.exit (.seq (.loop (.here (.seq (.seq (.seq (.region (.pures hT 1 rfl (.mkiface Tryz.underlying23 rfl rfl rfl rfl (.pures hT 1 rfl (.call Tryz.call37 rfl rfl rfl rfl (Fun.pull pl (law14_same hS (v := .slice aL g.2.length cL) (Row.mono hoK.row (fun b o hb => Has.sel sl hb)) hO)) ?_)))))))))))
            rintro v_76 hs_76 ⟨HS3, rfl, rfl, hS3⟩
            refine OT.pures hT 1 rfl (.nil (.seq (.cond_false rfl (.skip (.seq (.seq (.seq (.region (.pures hT 1 rfl (.nil (.seq (.block (.loop (ι := Nat × Chunk × Gone) (fun j => (j.1) ≤ g.2.length ∧ TrS b1 (j.2.2) (j.2.1) ∧ Sevens g.2 (j.1) (j.2.2).2) (fun j => g.2.length - (j.1)) (fun j => [(9, .pointer (some ⟨b1, 0, none⟩)), (10, .slice aL g.2.length cL), (14, .int .i64 ((j.1) : Nat))]) (fun j => K :: (j.2.1) :: hs) (0, HS3, g) ?_ (SubR.cons rfl (SubR.cons rfl (SubR.cons rfl (SubR.nil _)))) sl ?_)))))))))))))
            · dsimp only
              exact ⟨Nat.zero_le _, hS3, sevens_zero _⟩
            rintro ⟨q, HS, g2⟩ hI
            dsimp only at hI
            obtain ⟨hq1, hS4, hSv⟩ := hI
            show TT _ _ _ [(9, .pointer (some ⟨b1, 0, none⟩)), (10, .slice aL g.2.length cL), (14, .int .i64 (q : Nat))] (K :: HS :: hs)
            refine TT.seq (.seq (.region (.pures hT 4 rfl (.nil (.seq (.cond rfl (fun c81 => ?_) (fun c81 => ?_)))))))
            ·
              have c81 := of_decide_eq_true c81
              have hmod := Nat.mod_lt (q * 7 + 3) (show 0 < g.2.length by omega)
              obtain ⟨z, hz⟩ := nth (l := g.2) (i := (q * 7 + 3) % g.2.length) hmod
              have hhas := hSv.has hri hz
              refine TT.skip (.seq (.seq (.block (.seq (.region (.pures hT 7 rfl (.rem hT rfl rfl rfl (by omega) rfl (.reg 92 rfl (v := .int .i64 (((q * 7 + 3) % g.2.length : Nat) : Int)) (int_eq (seven (by omega))) (.index hT rfl rfl rfl rfl hoK.row (by omega) (by rw [Int.toNat_natCast]; exact hz) rfl (fun ad_93 hel_93 => ?_))))))))))
              obtain ⟨eb_93, eo_93, rfl, hfld_93⟩ := hel_93.at (P := Tryz.prog)
              refine OT.pures hT 1 rfl (.load rfl rfl (hfld_93 hT rfl rfl) rfl (.call Tryz.call26 rfl rfl rfl rfl (Fun.pull pl (tk_Del hS4)) ?_))
              rintro v_96 hs_96 ⟨HS5, g3, rfl, rfl, hS5, hg3, _⟩
              rw [hhas]
              refine OT.pures hT 5 rfl (.nil (.seq (.seq (.region (.pures hT 3 rfl (.pures hT 4 rfl (.call Tryz.call38 rfl rfl rfl rfl (law14_gone (by omega) (by omega) (by omega)) ?_)))))))
              rintro v_106 hs_106 ⟨rfl, rfl⟩
              refine OT.pures hT 2 rfl (.nil (.seq (.cond rfl (fun c108 => ?_) (fun c108 => ?_))))
              ·
                exact absurd c108 (by cases goneN q g.2.length <;> simp)
              ·
                refine TT.skip (.blk (.seq (.region (.pures hT 3 rfl (.nil (.loop (q + 1, HS5, g3) ?_ ?_ (SubR.cons rfl (SubR.cons rfl (SubR.cons' rfl (by (try dsimp only); exact (int_eq (by rw [wrap_i64 (by omega) (by omega)]; omega))) (SubR.nil _)))) sl))))))
                · dsimp only
                  exact ⟨by omega, hS5, by rw [hg3]; exact hSv.cut hri hz⟩
                · dsimp only
                  omega
            ·
              have c81 := of_decide_eq_false c81
              refine TT.exit (.seq (.loop (.here (.seq (.seq (.seq (.region (.pures hT 1 rfl (.nil (.seq (.block (.loop (ι := Nat × Chunk × Gone) (fun j => (j.1) ≤ g.2.length ∧ TrS b1 (j.2.2) (j.2.1) ∧ FromOn g.2 (j.1) (j.2.2).2) (fun j => g.2.length - (j.1)) (fun j => [(9, .pointer (some ⟨b1, 0, none⟩)), (10, .slice aL g.2.length cL), (17, .int .i64 ((j.1) : Nat))]) (fun j => K :: (j.2.1) :: hs) (0, HS, g2) ?_ (SubR.cons rfl (SubR.cons rfl (SubR.cons rfl (SubR.nil _)))) sl ?_))))))))))))
              · dsimp only
                exact ⟨Nat.zero_le _, hS4, hSv.from⟩
              rintro ⟨q, HS, g2⟩ hI
              dsimp only at hI
              obtain ⟨hq2, hS6, hFr⟩ := hI
              show TT _ _ _ [(9, .pointer (some ⟨b1, 0, none⟩)), (10, .slice aL g.2.length cL), (17, .int .i64 (q : Nat))] (K :: HS :: hs)
              refine TT.seq (.seq (.region (.pures hT 4 rfl (.nil (.seq (.cond rfl (fun c112 => ?_) (fun c112 => ?_)))))))
              ·
                have c112 := of_decide_eq_true c112
                obtain ⟨z2, hz2⟩ := nth (l := g.2) (i := q) (by omega)
                refine TT.skip (.seq (.seq (.block (.region (.pures hT 3 rfl (.index hT rfl rfl rfl rfl hoK.row (by omega) (by rw [Int.toNat_natCast]; exact hz2) rfl (fun ad_118 hel_118 => ?_)))))))
                obtain ⟨eb_118, eo_118, rfl, hfld_118⟩ := hel_118.at (P := Tryz.prog)
                refine OT.pures hT 1 rfl (.load rfl rfl (hfld_118 hT rfl rfl) rfl (.call Tryz.call26 rfl rfl rfl rfl (Fun.pull pl (tk_Del hS6)) ?_))
                rintro v_121 hs_121 ⟨HS7, g4, rfl, rfl, hS7, hg4, _⟩
                refine OT.nil (.blk (.seq (.region (.pures hT 3 rfl (.nil (.loop (q + 1, HS7, g4) ?_ ?_ (SubR.cons rfl (SubR.cons rfl (SubR.cons' rfl (by (try dsimp only); exact (int_eq (by rw [wrap_i64 (by omega) (by omega)]; omega))) (SubR.nil _)))) sl))))))
                · dsimp only
                  exact ⟨by omega, hS7, by rw [hg4]; exact hFr.cut hz2⟩
                · dsimp only
                  omega
              ·
                have c112 := of_decide_eq_false c112
                obtain rfl : q = g.2.length := by omega
                have hnil := hS6.nil hFr.none
                subst hnil
                refine TT.exit (.seq (.loop (.here (.seq (.seq (.region (.pures hT 1 rfl (.mkiface Tryz.underlying23 rfl rfl rfl rfl (.call Tryz.call39 rfl rfl rfl rfl (Fun.pull pl (tk_Count hS6)) ?_)))))))))
                rintro v_125 hs_125 ⟨HS8, rfl, rfl, hS8⟩
                refine OT.pures hT 5 rfl (.nil (.seq (.seq (.region (.pures hT 1 rfl (.mkiface Tryz.underlying23 rfl rfl rfl rfl (.call Tryz.call37 rfl rfl rfl rfl (Fun.pull pl (law14_same hS8 (v := .slice none 0 0) Row.nil (fun x hx => by cases hx))) ?_)))))))
                rintro v_130 hs_130 ⟨HS9, rfl, rfl, _⟩
                refine OT.pures hT 1 rfl (.pures hT 4 rfl (.pures hT 4 rfl (.nil (.seq (.ret (.of (rs := [.tmp 6]) [_] hs rfl (.tmp rfl .nil) sl ?_))))))
                try dsimp only [one]
                exact ⟨rfl, rfl⟩

end Go.Proofs.YtmkandddjcncfaaGreat.Sx
end

section
namespace Go.Proofs.YtmkandddjcncfaaGreat.Sx
open Go Go.Sx Go.Pl
variable [Outer]

set_option maxHeartbeats 8000000 in
set_option maxRecDepth 100000 in
theorem law_TreeOrder {n a b : Int} (hr1 : -9223372036854775808 ≤ n ∧ n ≤ 9223372036854775807) (hr2 : -9223372036854775808 ≤ a ∧ a ≤ 9223372036854775807) (hr3 : -9223372036854775808 ≤ b ∧ b ≤ 9223372036854775807) {hs : List Chunk} : Fun Tryz.prog 12 [.int .i64 n, .int .i64 a, .int .i64 b] hs (fun v' hs' => v' = .bool true ∧ hs = hs') := by
  refine Fun.enter 135 Tryz.func12 rfl Tryz.ntmps12 rfl ?_
  refine TT.seq (.region (.pures hT 1 rfl (.nil (.seq (.seq (.region (.call Tryz.call13 rfl rfl rfl rfl (law14_begun) ?_)))))))
  rintro v_17 hs_17 ⟨rfl, rfl⟩
  refine OT.pures hT 1 rfl (.nil (.seq (.seq (.seq (.region (.pures hT 2 rfl (.nil (.seq (.cond_false rfl (.skip (.seq (.seq (.seq (.region (.pures hT 3 rfl (.split 22 rfl (fun g22 => ?_) (fun g22 => ?_)))))))))))))))))
  ·
    have g22 := of_decide_eq_true g22
    refine OT.pures hT 19 rfl (.nil (.seq (.cond_true rfl (.seq (.region (.pures hT 1 rfl (.nil (.seq (.ret (.of (rs := [.tmp 6]) [_] hs rfl (.tmp rfl .nil) sl ?_))))))))))
    try dsimp only [one]
    exact ⟨rfl, rfl⟩
  ·
    have g22 := of_decide_eq_false g22
    refine OT.pures hT 4 rfl (.split 26 rfl (fun g26 => ?_) (fun g26 => ?_))
    ·
      have g26 := of_decide_eq_true g26
      refine OT.pures hT 15 rfl (.nil (.seq (.cond_true rfl (.seq (.region (.pures hT 1 rfl (.nil (.seq (.ret (.of (rs := [.tmp 6]) [_] hs rfl (.tmp rfl .nil) sl ?_))))))))))
      try dsimp only [one]
      exact ⟨rfl, rfl⟩
    ·
      have g26 := of_decide_eq_false g26
      refine OT.pures hT 4 rfl (.split 30 rfl (fun g30 => ?_) (fun g30 => ?_))
      ·
        have g30 := of_decide_eq_true g30
        refine OT.pures hT 11 rfl (.nil (.seq (.cond_true rfl (.seq (.region (.pures hT 1 rfl (.nil (.seq (.ret (.of (rs := [.tmp 6]) [_] hs rfl (.tmp rfl .nil) sl ?_))))))))))
        try dsimp only [one]
        exact ⟨rfl, rfl⟩
      ·
        have g30 := of_decide_eq_false g30
        refine OT.pures hT 4 rfl (.split 34 rfl (fun g34 => ?_) (fun g34 => ?_))
        ·
          have g34 := of_decide_eq_true g34
          refine OT.pures hT 7 rfl (.nil (.seq (.cond_true rfl (.seq (.region (.pures hT 1 rfl (.nil (.seq (.ret (.of (rs := [.tmp 6]) [_] hs rfl (.tmp rfl .nil) sl ?_))))))))))
          try dsimp only [one]
          exact ⟨rfl, rfl⟩
        ·
          have g34 := of_decide_eq_false g34
          refine OT.pures hT 4 rfl (.split 38 rfl (fun g38 => ?_) (fun g38 => ?_))
          ·
            have g38 := of_decide_eq_true g38
            refine OT.pures hT 3 rfl (.nil (.seq (.cond_true rfl (.seq (.region (.pures hT 1 rfl (.nil (.seq (.ret (.of (rs := [.tmp 6]) [_] hs rfl (.tmp rfl .nil) sl ?_))))))))))
            try dsimp only [one]
            exact ⟨rfl, rfl⟩
          ·
            have g38 := of_decide_eq_false g38
            refine OT.pures hT 3 rfl (.nil (.seq (.cond rfl (fun c41 => ?_) (fun c41 => ?_))))
            ·
              have c41 := of_decide_eq_true c41
              refine TT.seq (.region (.pures hT 1 rfl (.nil (.seq (.ret (.of (rs := [.tmp 6]) [_] hs rfl (.tmp rfl .nil) sl ?_))))))
              try dsimp only [one]
              exact ⟨rfl, rfl⟩
            ·
              have c41 := of_decide_eq_false c41
              obtain ⟨n, rfl⟩ : ∃ m : Nat, n = m := ⟨n.toNat, by omega⟩
              obtain ⟨a, rfl⟩ : ∃ m : Nat, a = m := ⟨a.toNat, by omega⟩
              obtain ⟨b, rfl⟩ : ∃ m : Nat, b = m := ⟨b.toNat, by omega⟩
              refine TT.skip (.seq (.seq (.region (.build (cs := bkCells (List.replicate 96 (.slice none 0 0))) hT rfl Tryz.zeroValue29 rfl rfl rfl rfl (.box rfl rfl rfl (fun b_43 => ?_))))))
              refine OT.mkiface Tryz.underlying25 rfl rfl rfl rfl ?_
              have hB0 : BkAt 29 b_43 noP [(b_43, blk (bkCells (List.replicate 96 (.slice none 0 0))) 29 (0, 0))] := BkAt.one (Slots.zero [[]])
              show OT _ _ _ _ _ ([(b_43, blk (bkCells (List.replicate 96 (.slice none 0 0))) 29 (0, 0))] :: hs)
              generalize ([(b_43, blk (bkCells (List.replicate 96 (.slice none 0 0))) 29 (0, 0))] : Chunk) = HB at hB0 ⊢
              refine OT.call Tryz.call14 rfl rfl rfl rfl (tk_New hB0) ?_
              rintro v_45 hs_45 ⟨b1, HS0, rfl, rfl, hS0⟩
              refine OT.build (cs := bkCells (List.replicate 96 (.slice none 0 0))) hT rfl Tryz.zeroValue29 rfl rfl rfl rfl (.box rfl rfl rfl (fun b_47 => ?_))
              refine OT.mkiface Tryz.underlying25 rfl rfl rfl rfl ?_
              have hB1 : BkAt 29 b_47 noP [(b_47, blk (bkCells (List.replicate 96 (.slice none 0 0))) 29 (0, 0))] := BkAt.one (Slots.zero [[]])
              show OT _ _ _ _ _ ([(b_47, blk (bkCells (List.replicate 96 (.slice none 0 0))) 29 (0, 0))] :: HS0 :: hs)
              generalize ([(b_47, blk (bkCells (List.replicate 96 (.slice none 0 0))) 29 (0, 0))] : Chunk) = HB2 at hB1 ⊢
              refine OT.call Tryz.call14 rfl rfl rfl rfl (tk_New hB1) ?_
              rintro v_49 hs_49 ⟨b2, HT0, rfl, rfl, hT0⟩
              refine OT.pures hT 2 rfl (.nil (.seq (.seq (.region (.pures hT 2 rfl (.nil (.seq (.seq (.seq (.region (.pures hT 1 rfl (.nil (.seq (.block (.chunk0 (TT.chunk0 ?_))))))))))))))))
              refine TT.loop (ι := Nat × Value × Value × Chunk × Chunk × Chunk × Chunk × Gone × Gone) (fun j => (j.1) ≤ n ∧ TrS b1 (j.2.2.2.2.2.2.2.1) (j.2.2.2.2.2.1) ∧ (j.2.2.2.2.2.2.2.1).2 = fillL (fun j => oneC' (j * a % 41) (j * a % 41 % 20)) (j.1) ∧ TrS b2 (j.2.2.2.2.2.2.2.2) (j.2.2.2.2.2.2.1) ∧ (j.2.2.2.2.2.2.2.2).2 = fillL (fun j => oneC' (j * b % 41) (j * b % 41 % 20)) (j.1) ∧ Own encCell 8 66 (j.2.1) (fillL (fun j => oneC' (j * a % 41) (j * a % 41 % 20)) (j.1)) (j.2.2.2.1) ∧ Own encCell 8 66 (j.2.2.1) (fillL (fun j => oneC' (j * b % 41) (j * b % 41 % 20)) (j.1)) (j.2.2.2.2.1)) (fun j => n - (j.1)) (fun j => [(0, .int .i64 (n : Nat)), (1, .int .i64 (a : Nat)), (2, .int .i64 (b : Nat)), (8, .pointer (some ⟨b1, 0, none⟩)), (9, .pointer (some ⟨b2, 0, none⟩)), (10, (j.2.1)), (11, (j.2.2.1)), (12, .int .i64 ((j.1) : Nat))]) (fun j => (j.2.2.2.1) :: (j.2.2.2.2.1) :: (j.2.2.2.2.2.1) :: (j.2.2.2.2.2.2.1) :: hs) (0, .slice none 0 0, .slice none 0 0, [], [], HS0, HT0, ([], []), ([], [])) ?_ (SubR.cons rfl (SubR.cons rfl (SubR.cons rfl (SubR.cons rfl (SubR.cons rfl (SubR.cons rfl (SubR.cons rfl (SubR.cons rfl (SubR.nil _))))))))) sl ?_
              · dsimp only
                exact ⟨Nat.zero_le _, hS0, rfl, hT0, rfl, Own.nil, Own.nil⟩
              rintro ⟨i, w1, w2, K1, K2, HS, HT, g1, g2⟩ hI
              dsimp only at hI
              obtain ⟨hi, hS, hgS, hTT, hgT, hoS, hoT⟩ := hI
              show TT _ _ _ [(0, .int .i64 (n : Nat)), (1, .int .i64 (a : Nat)), (2, .int .i64 (b : Nat)), (8, .pointer (some ⟨b1, 0, none⟩)), (9, .pointer (some ⟨b2, 0, none⟩)), (10, w1), (11, w2), (12, .int .i64 (i : Nat))] (K1 :: K2 :: HS :: HT :: hs)
              refine TT.seq (.seq (.region (.pures hT 3 rfl (.nil (.seq (.cond rfl (fun c52 => ?_) (fun c52 => ?_)))))))
              ·
                have c52 := of_decide_eq_true c52
                have hlS := fillL_len (fun j => oneC' (j * a % 41) (j * a % 41 % 20)) i
                have hlT := fillL_len (fun j => oneC' (j * b % 41) (j * b % 41 % 20)) i
                have hm1 := Nat.mod_lt (i * a) (show 0 < 41 by decide)
                have hm2 := Nat.mod_lt (i * b) (show 0 < 41 by decide)
                refine TT.skip (.seq (.seq (.block (.seq (.region (.pures hT 4 rfl (.reg 58 rfl (v := .int .i64 ((i * a % 41 : Nat) : Int)) (int_eq (by rw [w_mul (by omega) (by omega), show (41 : Int) = ((41 : Nat) : Int) from rfl, tmod_nat])) (.call Tryz.call16 rfl rfl rfl rfl (law14_keyOf (by omega)) ?_))))))))
                rintro v_59 hs_59 ⟨rfl, rfl⟩
                refine OT.pures hT 5 rfl (.reg 64 rfl (v := .int .i64 ((i * a % 41 % 20 : Nat) : Int)) (int_eq (by rw [w_mul (by omega) (by omega), show (41 : Int) = ((41 : Nat) : Int) from rfl, tmod_nat, show (20 : Int) = ((20 : Nat) : Int) from rfl, tmod_nat])) (.call Tryz.call17 rfl rfl rfl rfl (law14_val (by omega)) ?_))
                rintro v_65 hs_65 ⟨rfl, rfl⟩
                refine OT.build (cs := encCell (oneC' (i * a % 41) (i * a % 41 % 20))) hT rfl Tryz.zeroValue66 rfl rfl rfl rfl (.alloc Tryz.zeroValue66 rfl rfl (fun b_13 => ?_))
                refine OT.store_all hT rfl rfl rfl rfl pl rfl rfl rfl (.inl (Nat.le_refl _)) ?_
                refine OT.nil (.seq (.seq (.region (.pures hT 4 rfl (.reg 70 rfl (v := .int .i64 ((i * b % 41 : Nat) : Int)) (int_eq (by rw [w_mul (by omega) (by omega), show (41 : Int) = ((41 : Nat) : Int) from rfl, tmod_nat])) (.call Tryz.call16 rfl rfl rfl rfl (law14_keyOf (by omega)) ?_))))))
                rintro v_71 hs_71 ⟨rfl, rfl⟩
                refine OT.pures hT 5 rfl (.reg 76 rfl (v := .int .i64 ((i * b % 41 % 20 : Nat) : Int)) (int_eq (by rw [w_mul (by omega) (by omega), show (41 : Int) = ((41 : Nat) : Int) from rfl, tmod_nat, show (20 : Int) = ((20 : Nat) : Int) from rfl, tmod_nat])) (.call Tryz.call17 rfl rfl rfl rfl (law14_val (by omega)) ?_))
                rintro v_77 hs_77 ⟨rfl, rfl⟩
                refine OT.build (cs := encCell (oneC' (i * b % 41) (i * b % 41 % 20))) hT rfl Tryz.zeroValue66 rfl rfl rfl rfl (.alloc Tryz.zeroValue66 rfl rfl (fun b_14 => ?_))
                refine OT.store_all hT rfl rfl rfl rfl pl rfl rfl rfl (.inl (Nat.le_refl _)) ?_
                refine OT.nil (.seq (.seq (.draw (([(b_13, blk (encCell (oneC' (i * a % 41) (i * a % 41 % 20))) 66 (0, 0))] :: [(b_14, blk (encCell (oneC' (i * b % 41) (i * b % 41 % 20))) 66 (0, 0))] ::  hs)) mixed (.takes (fuel := 10) hT [0, 1, 3, 7, 8, 10] kr kr rfl (.take (fuel := 9) hT 2 rfl rfl kr kr kr rfl (.load rfl (Ld.one hT rfl hz rfl)) rfl ?_)))))
                refine AT.take (fuel := 8) hT 4 rfl rfl kr kr kr rfl (.load rfl (Ld.struct (vs := encVl ((oneC' (i * a % 41) (i * a % 41 % 20))).val) hT rfl hz rfl rfl)) rfl ?_
                refine AT.take (fuel := 7) hT 9 rfl rfl kr kr kr rfl (.load rfl (Ld.one hT rfl hz rfl)) rfl ?_
                refine AT.take (fuel := 6) hT 11 rfl rfl kr kr kr rfl (.load rfl (Ld.struct (vs := encVl ((oneC' (i * b % 41) (i * b % 41 % 20))).val) hT rfl hz rfl rfl)) rfl ?_
                refine AT.take (fuel := 5) hT 5 rfl rfl kr kr kr rfl (fl_build (cs := encCell (oneC' (i * a % 41) (i * a % 41 % 20))) hT rfl Tryz.zeroValue38 rfl rfl) rfl (.take (fuel := 4) hT 12 rfl rfl kr kr kr rfl (fl_build (cs := encCell (oneC' (i * b % 41) (i * b % 41 % 20))) hT rfl Tryz.zeroValue38 rfl rfl) rfl (.op (fuel := 3) 6 kr rfl sl (.call Tryz.call15 rfl rfl rfl rfl (Fun.pull pl (tk_Put hS (x := (oneC' (i * a % 41) (i * a % 41 % 20))) (one_fl _ _))) ?_)))
                rintro v_85 hs_85 ⟨HS1, g3, e3, rfl, rfl, hS1, hp3⟩
                have hq3 := put_may (one_may (by omega)) hp3
                refine OT.nil (.any (.op (fuel := 2) 13 kr rfl sl (.call Tryz.call15 rfl rfl rfl rfl (Fun.pull pl (tk_Put hTT (x := (oneC' (i * b % 41) (i * b % 41 % 20))) (one_fl _ _))) ?_)))
                rintro v_92 hs_92 ⟨HT1, g4, e4, rfl, rfl, hT1, hp4⟩
                have hq4 := put_may (one_may (by omega)) hp4
                refine OT.nil (.any (.takes (fuel := 0) hT [14, 15] kr kr rfl (.done kr sl (.seq (.seq (.seq (.region (.pures hT 3 rfl (.split 95 rfl (fun g95 => ?_) (fun g95 => ?_))))))))))
                ·
                  obtain ⟨rfl, rfl, hf3, hl3⟩ := hq3.resolve_left (fun h => by rw [h.1] at g95; simp at g95)
                  refine OT.pures hT 3 rfl (.nil (.seq (.cond_true rfl (.seq (.region (.pures hT 3 rfl (.split 101 rfl (fun g101 => ?_) (fun g101 => ?_))))))))
                  ·
                    refine OT.pures hT 3 rfl (.pures hT 1 rfl (.mkiface Tryz.underlying23 rfl rfl rfl rfl (.call Tryz.call27 rfl rfl rfl rfl (Fun.pull pl (law14_much hS1)) ?_)))
                    rintro v_107 hs_107 ⟨HS2, rfl, rfl, hS2⟩
                    rw [decide_eq_true (show 24 ≤ _ by omega)]
                    refine OT.pures hT 3 rfl (.pures hT 3 rfl (.split 113 rfl (fun g113 => ?_) (fun g113 => ?_)))
                    ·
                      refine OT.pures hT 6 rfl (.nil (.seq (.ret (.of (rs := [.tmp 6]) [_] hs rfl (.tmp rfl .nil) sl ?_))))
                      try dsimp only [one]
                      exact ⟨rfl, rfl⟩
                    ·
                      obtain ⟨rfl, rfl, hf4, hl4⟩ := hq4.resolve_left (fun h => by rw [h.1] at g113; simp at g113)
                      refine OT.pures hT 1 rfl (.mkiface Tryz.underlying23 rfl rfl rfl rfl (.call Tryz.call27 rfl rfl rfl rfl (Fun.pull pl (law14_much hT1)) ?_))
                      rintro v_116 hs_116 ⟨HT2, rfl, rfl, hT2⟩
                      rw [decide_eq_true (show 24 ≤ _ by omega)]
                      refine OT.pures hT 3 rfl (.nil (.seq (.ret (.of (rs := [.tmp 6]) [_] hs rfl (.tmp rfl .nil) sl ?_))))
                      try dsimp only [one]
                      exact ⟨rfl, rfl⟩
                  ·
                    have g101 := of_decide_eq_false g101; first | (rw [hgS] at hl3; omega) | (rw [hgT] at hl4; omega)
                ·
                  obtain ⟨rfl, hg3⟩ := hq3.resolve_right (fun h => by rw [h.1] at g95; simp at g95)
                  refine OT.pures hT 3 rfl (.nil (.seq (.cond rfl (fun c98 => ?_) (fun c98 => ?_))))
                  ·
                    obtain ⟨rfl, rfl, hf4, hl4⟩ := hq4.resolve_left (fun h => by rw [h.1] at c98; simp at c98)
                    refine TT.seq (.region (.pures hT 3 rfl (.split 101 rfl (fun g101 => ?_) (fun g101 => ?_))))
                    ·
                      refine OT.pures hT 3 rfl (.pures hT 9 rfl (.pures hT 1 rfl (.mkiface Tryz.underlying23 rfl rfl rfl rfl (.call Tryz.call27 rfl rfl rfl rfl (Fun.pull pl (law14_much hT1)) ?_))))
                      rintro v_116 hs_116 ⟨HT2, rfl, rfl, hT2⟩
                      rw [decide_eq_true (show 24 ≤ _ by omega)]
                      refine OT.pures hT 3 rfl (.nil (.seq (.ret (.of (rs := [.tmp 6]) [_] hs rfl (.tmp rfl .nil) sl ?_))))
                      try dsimp only [one]
                      exact ⟨rfl, rfl⟩
                    ·
                      have g101 := of_decide_eq_false g101; first | (rw [hgS] at hl3; omega) | (rw [hgT] at hl4; omega)
                  ·
                    obtain ⟨rfl, hg4⟩ := hq4.resolve_right (fun h => by rw [h.1] at c98; simp at c98)
                    refine TT.skip (.seq (.draw (([(b_13, blk (encCell (oneC' (i * a % 41) (i * a % 41 % 20))) 66 (0, 0))] :: [(b_14, blk (encCell (oneC' (i * b % 41) (i * b % 41 % 20))) 66 (0, 0))] ::  hs)) mixed (.takes (fuel := 6) hT [0, 3] kr kr rfl (.take (fuel := 5) hT 1 rfl rfl kr kr kr rfl (.load rfl (Ld.struct_all hT rfl hz rfl)) rfl ?_))))
                    refine AT.take (fuel := 4) hT 4 rfl rfl kr kr kr rfl (.load rfl (Ld.struct_all hT rfl hz rfl)) rfl ?_
                    refine AT.op (fuel := 3) 2 kr rfl sl (.call Tryz.call31 rfl rfl rfl rfl (Fun.pull pl (law14_put hoS (by omega))) ?_)
                    rintro v_121 hs_121 ⟨K3, rfl, hoS1⟩
                    refine OT.nil (.any (.op (fuel := 2) 5 kr rfl sl (.call Tryz.call31 rfl rfl rfl rfl (Fun.pull pl (law14_put hoT (by omega))) ?_)))
                    rintro v_124 hs_124 ⟨K4, rfl, hoT1⟩
                    refine OT.nil (.any (.takes (fuel := 0) hT [6, 7] kr kr rfl (.done kr sl (.blk (.seq (.region (.pures hT 3 rfl (.nil (.loop (i + 1, v_121, v_124, K3, K4, HS1, HT1, g3, g4) ?_ ?_ (SubR.cons rfl (SubR.cons rfl (SubR.cons rfl (SubR.cons rfl (SubR.cons rfl (SubR.cons rfl (SubR.cons rfl (SubR.cons' rfl (by (try dsimp only); exact (int_eq (by rw [wrap_i64 (by omega) (by omega)]; omega))) (SubR.nil _))))))))) sl)))))))))
                    · dsimp only
                      exact ⟨by omega, hS1, by rw [hg3, hgS]; rfl, hT1, by rw [hg4, hgT]; rfl, by rw [fillL_put (f := (fun j => oneC' (j * a % 41) (j * a % 41 % 20)))] at hoS1; exact hoS1, by rw [fillL_put (f := (fun j => oneC' (j * b % 41) (j * b % 41 % 20)))] at hoT1; exact hoT1⟩
                    · dsimp only
                      omega
              ·
                have c52 := of_decide_eq_false c52
                obtain rfl : i = n := by omega
                refine TT.exit (.seq (.loop (.here (.seq (.seq (.region (.pures hT 1 rfl (.mkiface Tryz.underlying23 rfl rfl rfl rfl (.pures hT 1 rfl ?_)))))))))
                refine OT.call Tryz.call37 rfl rfl rfl rfl (Fun.pull pl (law14_same hS (v := w1) (by rw [hgS]; exact Row.mono hoS.row (fun b o hb => Has.sel sl hb)) (fun x hx => by
                  rw [hgS] at hx
                  obtain ⟨j, _, rfl⟩ := fillL_mem hx
                  exact one_fl _ _))) ?_
                rintro v_128 hs_128 ⟨HS2, rfl, rfl, _⟩
                refine OT.pures hT 1 rfl (.pures hT 1 rfl (.mkiface Tryz.underlying23 rfl rfl rfl rfl (.pures hT 1 rfl ?_)))
                refine OT.call Tryz.call37 rfl rfl rfl rfl (Fun.pull pl (law14_same hTT (v := w2) (by rw [hgT]; exact Row.mono hoT.row (fun b o hb => Has.sel sl hb)) (fun x hx => by
                  rw [hgT] at hx
                  obtain ⟨j, _, rfl⟩ := fillL_mem hx
                  exact one_fl _ _))) ?_
                rintro v_133 hs_133 ⟨HT2, rfl, rfl, _⟩
                refine OT.pures hT 2 rfl (.nil (.seq (.ret (.of (rs := [.tmp 6]) [_] hs rfl (.tmp rfl .nil) sl ?_))))
                try dsimp only [one]
                exact ⟨rfl, rfl⟩

end Go.Proofs.YtmkandddjcncfaaGreat.Sx
end
