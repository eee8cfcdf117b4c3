/- Several texts in one. A cell taken out of a page's part of a tree. Printed by a program of ours off the loaded program and our notes; Lean checks it. Something done to a sheet, or nothing. Printed by a program of ours off the loaded program and our notes; Lean checks it. Cells put, taken away. Printed by a program of ours off the loaded program and our notes; Lean checks it. A cell looked up. Printed by a program of ours off the loaded program and our notes; Lean checks it. All a tree's pages and cells. Printed by a program of ours off the loaded program and our notes; Lean checks it. All a tree's pages and cells. Printed by a program of ours off the loaded program and our notes; Lean checks it. slices.Sort of whole numbers, in the words of the small logic: the shelf's contract is turned. A tree's cells in order, its pages. Printed by a program of ours off the loaded program and our notes; Lean checks it. A tree's order checked. Printed by a program of ours off the loaded program and our notes; Lean checks it. A whole tree checked. Printed by a program of ours off the loaded program and our notes; Lean checks it. A right book: cells laid, taken away, asked. Printed by a program of ours off the loaded program and our notes; Lean checks it. Right books on sheets above pages that never fail. Printed by a program of ours off the loaded program and our notes; Lean checks it. -/
import Derived.Test.YtihpkgmfkbkffaaGreatWH
import Derived.Test.YtihpkgmfkbkffaaGreatWC
import Derived.Test.YtihpkgmfkbkffaaGreatWB
import Derived.Test.YtihpkgmfkbkffaaGreatWD
import Derived.Test.YtihpkgmfkbkffaaGreatWA
import Derived.Test.YtihpkgmfkbkffaaGreatShelf
import Derived.Sort.Grow
import Derived.Test.YtihpkgmfkbkffaaGreatWG
import Derived.Test.YtihpkgmfkbkffaaGreatWF
import Derived.Test.YtihpkgmfkbkffaaGreatWE
set_option linter.unusedVariables false
set_option linter.unusedSimpArgs false
set_option linter.unusedSectionVars false

section
namespace Go.Proofs.YtihpkgmfkbkffaaGreat.Sx
open Go Go.Sx Go.Pl
variable [Outer]

set_option maxHeartbeats 1000000 in
set_option maxRecDepth 100000 in
theorem tr_rest {b : Nat} {P : Value} {I : Chunk → Prop} {E : Int → Chunk → Prop} {Qb : Pages} (hP : PgsA Tryz.prog 5 P I E (pgOf Qb)) (hQ : Long Qb) {Qt : Pages} {H : Chunk} {r : List Chunk} (hH : ShAt 110 b P I Qb Qt H) {cs : List Value} {n : Nd} (h : NdAt r cs n) (hlc : n.cells.length ≤ 1000) (hlk : n.keys.length ≤ 1000000) (hli : n.kids.length ≤ 1000000) (hf : ∀ c ∈ n.cells, c.val.f < 2 ^ 64 ∧ c.new.f < 2 ^ 64) {no : Int} (hno : mayUse no) {left : Nat} : FunP Tryz.prog 150 [.pointer (some ⟨b, 0, none⟩), .int .i64 no, .agg ⟨cs⟩, .int .i64 (left : Nat)] (H :: r) (fun v' hs' => ∃ H' gone Q', hs' = H' :: r ∧ v' = .bool gone ∧ restT Qt no n left = .ok (gone, Q') ∧ ShAt 110 b P I Qb Q' H') (Broke (fun H => ∃ Q', ShAt 110 b P I Qb Q' H) (ShBad 110 b P E) (fun e => restT Qt no n left = .error e) r) := by
  refine FunP.enter 18 Tryz.func150 rfl Tryz.ntmps150 rfl ?_
  have h4 := h.four
  have hnu := hno
  unfold mayUse at hnu
  refine TT.seq (.region (.box rfl rfl rfl (fun b_6 => ?_)))
  refine OT.pures hT 1 rfl (.nil (.seq (.seq (.seq (.region (.pures hT 2 rfl (.nil (.seq (.cond rfl (fun c10 => ?_) (fun c10 => ?_))))))))))
  ·
    have c10 : left = 0 := by simpa using c10
    refine TT.seq (.region (.pures hT 2 rfl ?_))
    refine OT.callP Tryz.call153 rfl rfl rfl rfl (FunP.pull pl (tr_free hP hQ hH (no := no) (by omega))) (fun _ _ h => by
      obtain ⟨e, H', rfl, he, rfl, ⟨h1, h2⟩ | h2⟩ := h
      · exact PP.of ⟨e, H', rfl, he, rfl, .inl ⟨(by rw [restT_gone c10]; exact bind_err h1), h2⟩⟩ sl
      · exact PP.of ⟨e, H', rfl, he, rfl, .inr h2⟩ sl) ?_
    rintro v_13 hs_13 ⟨H2, Q2, rfl, rfl, hf2, hI2⟩
    refine OT.nil (.seq (.seq (.region (.pures hT 1 rfl (.nil (.seq (.ret (.ofP (rs := [.tmp 8]) [_] (H2 :: r) rfl (.tmp rfl .nil) sl ?_))))))))
    try dsimp only [one]
    exact ⟨H2, true, Q2, rfl, rfl, by rw [restT_gone c10]; exact bind_ok hf2, hI2⟩
  ·
    have c10 : left ≠ 0 := by simpa using c10
    refine TT.skip (.seq (.seq (.region (.pures hT 2 rfl (.load rfl rfl (Ld.struct_all hT rfl hz h4) rfl ?_)))))
    refine OT.callP Tryz.call104 rfl rfl rfl rfl (FunP.pull pl (tr_set hP hQ hH (h.mono fun _ _ h => .there h) hlc hlk hli hf (may_page hno))) (fun _ _ h => by
      obtain ⟨e, H', rfl, he, rfl, ⟨h1, h2⟩ | h2⟩ := h
      · exact PP.of ⟨e, H', rfl, he, rfl, .inl ⟨(by rw [restT_left c10]; exact bind_err h1), h2⟩⟩ sl
      · exact PP.of ⟨e, H', rfl, he, rfl, .inr h2⟩ sl) ?_
    rintro v_17 hs_17 ⟨H2, Q2, rfl, rfl, hf2, hI2⟩
    refine OT.nil (.seq (.seq (.region (.pures hT 1 rfl (.nil (.seq (.ret (.ofP (rs := [.tmp 8]) [_] (H2 :: r) rfl (.tmp rfl .nil) sl ?_))))))))
    try dsimp only [one]
    exact ⟨H2, false, Q2, rfl, rfl, by rw [restT_left c10]; exact bind_ok hf2, hI2⟩

set_option maxHeartbeats 1000000 in
set_option maxRecDepth 100000 in
theorem tr_remove0 {b : Nat} {P : Value} {I : Chunk → Prop} {E : Int → Chunk → Prop} {Qb : Pages} (hP : PgsA Tryz.prog 5 P I E (pgOf Qb)) (hQ : Long Qb) {k : ByteArray} {Qt : Pages} {H : Chunk} {r : List Chunk} {no : Int} (hH : ShAt 110 b P I Qb Qt H) : FunP Tryz.prog 107 [.pointer (some ⟨b, 0, none⟩), .int .i64 no, .string k, .int .i64 32] (H :: r) (fun v' hs' => ∃ H' y Q', hs' = H' :: r ∧ v' = .tuple ⟨[.bool y.1, .bool y.2]⟩ ∧ removeT k 0 Qt no = .ok (y, Q') ∧ ShAt 110 b P I Qb Q' H') (Broke (fun H => ∃ Q', ShAt 110 b P I Qb Q' H) (ShBad 110 b P E) (fun e => removeT k 0 Qt no = .error e) r) := by
  refine FunP.enter 96 Tryz.func107 rfl Tryz.ntmps107 rfl ?_
  refine TT.seq (.region (.pures hT 2 rfl (.nil (.seq (.seq (.region (.pures hT 2 rfl ?_)))))))
  refine OT.callP Tryz.call118 rfl rfl rfl rfl (guard_Fails) (fun _ _ h => by
    obtain ⟨rfl, rfl⟩ := h
    exact PP.of ⟨8, H, by rw [brk_same (by decide)], by decide, rfl, .inl ⟨rfl, Qt, hH⟩⟩ sl) ?_
  rintro v_19 hs_19 ⟨hb, _⟩
  exact hb.elim

set_option maxHeartbeats 4000000 in
set_option maxRecDepth 100000 in
theorem tr_removeS {b : Nat} {P : Value} {I : Chunk → Prop} {E : Int → Chunk → Prop} {Qb : Pages} (hP : PgsA Tryz.prog 5 P I E (pgOf Qb)) (hQ : Long Qb) {k : ByteArray} {d f : Nat} (hd : d < 32) (ih : ∀ {Q : Pages} {H : Chunk} {r : List Chunk} {no : Int}, mayUse no → ShAt 110 b P I Qb Q H → FunP Tryz.prog 107 [.pointer (some ⟨b, 0, none⟩), .int .i64 no, .string k, .int .i64 ((d + 1 : Nat) : Int)] (H :: r) (fun v' hs' => ∃ H' y Q', hs' = H' :: r ∧ v' = .tuple ⟨[.bool y.1, .bool y.2]⟩ ∧ removeT k f Q no = .ok (y, Q') ∧ ShAt 110 b P I Qb Q' H') (Broke (fun H => ∃ Q', ShAt 110 b P I Qb Q' H) (ShBad 110 b P E) (fun e => removeT k f Q no = .error e) r)) {Qt : Pages} {H : Chunk} {r : List Chunk} {no : Int} (hno : mayUse no) (hH : ShAt 110 b P I Qb Qt H) : FunP Tryz.prog 107 [.pointer (some ⟨b, 0, none⟩), .int .i64 no, .string k, .int .i64 (d : Nat)] (H :: r) (fun v' hs' => ∃ H' y Q', hs' = H' :: r ∧ v' = .tuple ⟨[.bool y.1, .bool y.2]⟩ ∧ removeT k (f + 1) Qt no = .ok (y, Q') ∧ ShAt 110 b P I Qb Q' H') (Broke (fun H => ∃ Q', ShAt 110 b P I Qb Q' H) (ShBad 110 b P E) (fun e => removeT k (f + 1) Qt no = .error e) r) := by
  refine FunP.enter 96 Tryz.func107 rfl Tryz.ntmps107 rfl ?_
  refine TT.seq (.region (.pures hT 2 rfl (.nil (.seq (.seq (.region (.pures hT 2 rfl ?_)))))))
  refine OT.callP Tryz.call118 rfl rfl rfl rfl (guard_CheckB) (fun _ _ h => by
    obtain ⟨hb, _⟩ := h
    exact absurd (of_decide_eq_false hb) (by omega)) ?_
  rintro v_19 hs_19 ⟨hb, rfl, rfl⟩
  refine OT.nil (.seq (.seq (.region (.pures hT 1 rfl (.mkiface Tryz.underlying24 rfl rfl rfl rfl (.pures hT 1 rfl ?_))))))
  refine OT.callP Tryz.call95 rfl rfl rfl rfl (FunP.pull pl (tr_read (sheet_Pgs hP hQ).pgs hH (use_bound hno))) (fun _ _ h => by
    obtain ⟨e, H', rfl, he, rfl, ⟨h1, h2⟩ | ⟨_, e0, h2⟩⟩ := h
    · exact PP.of ⟨e, H', rfl, he, rfl, .inl ⟨removeT_err h1, _, h2⟩⟩ sl
    · exact PP.of ⟨e, H', rfl, he, rfl, .inr ⟨_, h2⟩⟩ sl) ?_
  rintro v_23 hs_23 ⟨H1, K, cs, n, rfl, rfl, hN, hI1, hrd⟩
  have hni := (readT_is hrd).nd
  have hnc := hni.cells
  have hnk := hni.keys
  have hnd := hni.kids
  obtain ⟨vc, vk, vi, KA, KB, KC, rfl, rfl, hoA, hoB, hoC⟩ := hN.is
  obtain ⟨ac, cc, e1⟩ := (hoA.row (hs := [])).len
  obtain ⟨ak, ck, e2⟩ := (hoB.row (hs := [])).len
  obtain ⟨ai, ci, e3⟩ := (hoC.row (hs := [])).len
  subst e1 e2 e3
  refine OT.perm kid_split ?_
  have hNa : ∀ hs, NdAt (KA :: KB :: KC :: hs) [.bool n.leaf, .slice ac n.cells.length cc, .slice ak n.keys.length ck, .slice ai n.kids.length ci] n := fun hs => ⟨_, _, _, rfl, hoA.row, hoB.row.there, hoC.row.there.there⟩
  refine OT.alloc Tryz.zeroValue159 rfl rfl (fun b_10 => ?_)
  refine OT.store_all hT rfl rfl rfl rfl pl rfl rfl rfl (.inl (Nat.le_refl _)) ?_
  refine OT.nil (.seq (.seq (.seq (.region (.pures hT 1 rfl (.load rfl rfl (Ld.one hT rfl hz rfl) rfl ?_))))))
  refine OT.nil (.seq (.cond rfl (fun c25 => ?_) (fun c25 => ?_)))
  ·
    have hlf : n.leaf = true := c25
    refine TT.seq (.region (.load rfl rfl (Ld.struct_all hT rfl hz rfl) rfl ?_))
    refine OT.pures hT 1 rfl (.call Tryz.call96 rfl rfl rfl rfl (tr_find ((hNa _).mono fun _ _ h => (.there (.there h))) (by omega) hni.rise) ?_)
    rintro v_29 hs_29 ⟨rfl, rfl⟩
    refine OT.pures hT 5 rfl (.nil (.seq (.seq (.seq (.region (.pures hT 2 rfl (.nil (.seq (.cond rfl (fun c33 => ?_) (fun c33 => ?_))))))))))
    ·
      have c33 : ¬ (keysOf n.cells)[findI (keysOf n.cells) k]? = some k := by simpa using c33
      refine TT.seq (.region (.pures hT 2 rfl (.nil (.seq (.ret (.ofP (rs := [.tmp 8, .tmp 9]) [_, _] (H1 :: r) rfl (.tmp rfl (.tmp rfl .nil)) sl ?_))))))
      try dsimp only [one]
      exact ⟨H1, (false, false), Qt, rfl, rfl, removeT_none hrd hlf c33, hI1⟩
    ·
      have c33 : (keysOf n.cells)[findI (keysOf n.cells) k]? = some k := by simpa using c33
      obtain ⟨z, hz1, hz2⟩ := key_cell c33
      have hzl := (List.getElem?_eq_some_iff.1 hz1).1
      refine TT.skip (.seq (.seq (.region (.pures hT 1 rfl (.load rfl rfl (Ld.slc hT rfl hz rfl) rfl ?_)))))
      refine OT.pures hT 3 rfl (.reg 38 rfl (v := .int .i64 (((findI (keysOf n.cells) k) + 1 : Nat) : Int)) (int_eq (by rw [wrap_i64 (by omega) (by omega)]; omega)) (.call Tryz.call149 rfl rfl rfl rfl (Fun.weaken sl (sl_DeleteC hoA (i := (findI (keysOf n.cells) k)) (j := (findI (keysOf n.cells) k) + 1) (by omega) (by omega) (by omega))) ?_))
      rintro v_39 hs_39 ⟨H7, rfl, ho7⟩
      obtain ⟨a7, c7, rfl⟩ := (ho7.row (hs := [])).len
      have hl7 : (n.cells.take (findI (keysOf n.cells) k) ++ n.cells.drop ((findI (keysOf n.cells) k) + 1)).length = n.cells.length - 1 := delAt_len hzl
      refine OT.pures hT 1 rfl (.store hT rfl rfl rfl rfl pl rfl (Nat.le_of_ble_eq_true rfl) rfl (.inl (Nat.le_refl _)) rfl ?_)
      refine OT.nil (.seq (.seq (.region (.pures hT 2 rfl (.load rfl rfl (Ld.struct_all hT rfl hz rfl) rfl ?_)))))
      refine OT.pures hT 1 rfl (.load rfl rfl (Ld.slc hT rfl hz rfl) rfl ?_)
      refine OT.pures hT 1 rfl (.reg 46 rfl (v := .int .i64 ((n.cells.length - 1 : Nat) : Int)) (int_eq (by rw [hl7])) ?_)
      refine OT.callP Tryz.call150 rfl rfl rfl rfl (FunP.pull pl (tr_rest hP hQ hI1 (n := { n with cells := delAt n.cells (findI (keysOf n.cells) k) }) ⟨_, _, _, rfl, ho7.row.there, hoB.row.there.there, hoC.row.there.there.there⟩ (by show (delAt n.cells _).length ≤ 1000; rw [delAt_len hzl]; omega) (by dsimp only; omega) (by dsimp only; omega) (fun c hc => hni.fl c (mem_delAt hc)) hno)) (fun _ _ h => by
        obtain ⟨e, H', rfl, he, rfl, ⟨h1, h2⟩ | h2⟩ := h
        · exact PP.of ⟨e, H', rfl, he, rfl, .inl ⟨(by rw [removeT_leaf hrd hlf c33]; exact bind_err h1), h2⟩⟩ sl
        · exact PP.of ⟨e, H', rfl, he, rfl, .inr h2⟩ sl) ?_
      rintro v_47 hs_47 ⟨H2, gn, Q2, rfl, rfl, hr2, hI2⟩
      refine OT.pures hT 2 rfl (.nil (.seq (.ret (.ofP (rs := [.tmp 8, .tmp 9]) [_, _] (H2 :: r) rfl (.tmp rfl (.tmp rfl .nil)) sl ?_))))
      try dsimp only [one]
      exact ⟨H2, (true, gn), Q2, rfl, rfl, by rw [removeT_leaf hrd hlf c33]; exact bind_ok hr2, hI2⟩
  ·
    have hlf : n.leaf = false := c25
    obtain ⟨kd, hkd, hkg, hkm⟩ := hni.kid hlf k
    have hkl := kidI_le n.keys k
    have hkk := (hni.ways hlf).1
    refine TT.skip (.seq (.seq (.region (.load rfl rfl (Ld.struct_all hT rfl hz rfl) rfl ?_))))
    refine OT.pures hT 1 rfl (.call Tryz.call97 rfl rfl rfl rfl (tr_Kid ((hNa _).mono fun _ _ h => (.there (.there h))) hni hlf) ?_)
    rintro v_50 hs_50 ⟨rfl, rfl⟩
    refine OT.pures hT 1 rfl (.nil (.seq (.seq (.region (.pures hT 2 rfl (.load rfl rfl (Ld.slc hT rfl hz rfl) rfl ?_))))))
    refine OT.pures hT 1 rfl (.index hT rfl rfl rfl rfl hoC.row.there.there.there.there (by omega) (by rw [Int.toNat_natCast]; exact hkd) rfl (fun ad_56 hel_56 => ?_))
    refine OT.load rfl rfl (hel_56.ld_one hT rfl rfl) rfl (.pures hT 3 rfl (.reg 60 rfl (v := .int .i64 ((d + 1 : Nat) : Int)) (int_eq (by rw [wrap_i64 (by omega) (by omega)]; omega)) ?_))
    refine OT.callP Tryz.call107 rfl rfl rfl rfl (FunP.pull pl (ih hkm hI1)) (fun _ _ h => by
      obtain ⟨e, H', rfl, he, rfl, ⟨h1, h2⟩ | h2⟩ := h
      · exact PP.of ⟨e, H', rfl, he, rfl, .inl ⟨removeT_kid_err hrd hlf (by rw [hkg]; exact h1), h2⟩⟩ sl
      · exact PP.of ⟨e, H', rfl, he, rfl, .inr h2⟩ sl) ?_
    rintro v_61 hs_61 ⟨H2, y, Q2, rfl, rfl, hp2, hI2⟩
    refine OT.pures hT 5 rfl (.nil (.seq (.seq (.seq (.region (.pures hT 2 rfl (.nil (.seq (.cond rfl (fun c65 => ?_) (fun c65 => ?_))))))))))
    ·
      have c65 : y.2 = false := by simpa using c65
      refine TT.seq (.region (.pures hT 3 rfl (.nil (.seq (.ret (.ofP (rs := [.tmp 8, .tmp 9]) [_, _] (H2 :: r) rfl (.tmp rfl (.tmp rfl .nil)) sl ?_))))))
      try dsimp only [one]
      exact ⟨H2, (y.1, false), Q2, rfl, rfl, removeT_kid_stay hrd hlf (by rw [hkg]; exact hp2) c65, hI2⟩
    ·
      have c65 : y.2 ≠ false := by simpa using c65
      refine TT.skip (.seq (.seq (.region (.pures hT 1 rfl (.load rfl rfl (Ld.slc hT rfl hz rfl) rfl ?_)))))
      refine OT.pures hT 3 rfl (.reg 71 rfl (v := .int .i64 (((kidI n.keys k) + 1 : Nat) : Int)) (int_eq (by rw [wrap_i64 (by omega) (by omega)]; omega)) (.call Tryz.call151 rfl rfl rfl rfl (Fun.weaken sl (sl_DeleteI hoC (i := (kidI n.keys k)) (j := (kidI n.keys k) + 1) (by omega) (by omega) (by omega))) ?_))
      rintro v_72 hs_72 ⟨H7, rfl, ho7⟩
      obtain ⟨a7, c7, rfl⟩ := (ho7.row (hs := [])).len
      have hl7 : (n.kids.take (kidI n.keys k) ++ n.kids.drop ((kidI n.keys k) + 1)).length = n.kids.length - 1 := delAt_len (by omega)
      refine OT.pures hT 1 rfl (.store hT rfl rfl rfl rfl pl rfl (Nat.le_of_ble_eq_true rfl) rfl (.inl (Nat.le_refl _)) rfl ?_)
      refine OT.nil (.seq (.cut (ι := Value × Chunk) (fun j => Own Go.Sx.encS 1 9 (j.1) (cutKid n (kidI n.keys k)).keys (j.2)) (fun j => [(0, .pointer (some ⟨b, 0, none⟩)), (1, .int .i64 no), (10, .pointer (some ⟨b_10, 0, none⟩)), (14, .bool y.1)]) (fun j => [(b_10, blk [.bool n.leaf, .slice ac n.cells.length cc, (j.1), .slice a7 (n.kids.take (kidI n.keys k) ++ n.kids.drop ((kidI n.keys k) + 1)).length c7] 159 (0, 0))] :: H2 :: KA :: (j.2) :: H7 :: r) ?_ ?_))
      ·
        refine TT.seq (.region (.pures hT 1 rfl (.load rfl rfl (Ld.slc hT rfl hz rfl) rfl ?_)))
        refine OT.pures hT 2 rfl (.nil (.seq (.cond rfl (fun c77 => ?_) (fun c77 => ?_))))
        ·
          have c77 : 0 < n.keys.length := by have := of_decide_eq_true c77; omega
          refine TT.seq (.region (.pures hT 4 rfl (.nil (.seq (.region (.pures hT 1 rfl (.load rfl rfl (Ld.slc hT rfl hz rfl) rfl ?_)))))))
          refine OT.pures hT 3 rfl (.reg 83 rfl (v := .int .i64 (((kidI n.keys k) - 1 : Nat) : Int)) (int_eq (by rw [wrap_i64 (by omega) (by omega)]; omega)) (.reg 85 rfl (v := .int .i64 (((kidI n.keys k) - 1 + 1 : Nat) : Int)) (int_eq (by rw [wrap_i64 (n := ((kidI n.keys k) : Int) - 1) (by omega) (by omega), wrap_i64 (by omega) (by omega)]; omega)) (.call Tryz.call152 rfl rfl rfl rfl (Fun.weaken sl (sl_DeleteS hoB (i := (kidI n.keys k) - 1) (j := (kidI n.keys k) - 1 + 1) (by omega) (by omega) (by omega))) ?_)))
          rintro v_86 hs_86 ⟨H8, rfl, ho8⟩
          obtain ⟨a8, c8, rfl⟩ := (ho8.row (hs := [])).len
          refine OT.pures hT 1 rfl (.store hT rfl rfl rfl rfl pl rfl (Nat.le_of_ble_eq_true rfl) rfl (.inl (Nat.le_refl _)) rfl ?_)
          refine OT.nil (.cut (_, H8) ?_ (SubR.cons rfl (SubR.cons rfl (SubR.cons rfl (SubR.cons rfl (SubR.nil _))))) sl)
          · dsimp only
            unfold cutKid; dsimp only; rw [if_pos c77]; exact ho8
        ·
          have c77 : ¬ 0 < n.keys.length := by have := of_decide_eq_false c77; omega
          refine TT.skip (.cut (_, KB) ?_ (SubR.cons rfl (SubR.cons rfl (SubR.cons rfl (SubR.cons rfl (SubR.nil _))))) sl)
          · dsimp only
            unfold cutKid; dsimp only; rw [if_neg c77]; exact hoB
      ·
        rintro ⟨vk2, K2⟩ hI
        dsimp only at hI
        have hoB2 := hI
        show TT _ _ _ [(0, .pointer (some ⟨b, 0, none⟩)), (1, .int .i64 no), (10, .pointer (some ⟨b_10, 0, none⟩)), (14, .bool y.1)] ([(b_10, blk [.bool n.leaf, .slice ac n.cells.length cc, vk2, .slice a7 (n.kids.take (kidI n.keys k) ++ n.kids.drop ((kidI n.keys k) + 1)).length c7] 159 (0, 0))] :: H2 :: KA :: K2 :: H7 :: r)
        refine TT.seq (.region (.pures hT 3 rfl (.load rfl rfl (Ld.struct_all hT rfl hz rfl) rfl ?_)))
        refine OT.pures hT 1 rfl (.load rfl rfl (Ld.slc hT rfl hz rfl) rfl ?_)
        refine OT.pures hT 1 rfl (.reg 94 rfl (v := .int .i64 ((n.kids.length - 1 : Nat) : Int)) (int_eq (by rw [hl7])) ?_)
        refine OT.callP Tryz.call150 rfl rfl rfl rfl (FunP.pull pl (tr_rest hP hQ hI2 (n := cutKid n (kidI n.keys k)) ⟨_, _, _, rfl, hoA.row.there, hoB2.row.there.there, ho7.row.there.there.there⟩ (by show n.cells.length ≤ 1000; omega) (by have := cutKid_keys n (kidI n.keys k); omega) (by show (delAt n.kids _).length ≤ _; rw [delAt_len (by omega)]; omega) hni.fl hno)) (fun _ _ h => by
          obtain ⟨e, H', rfl, he, rfl, ⟨h1, h2⟩ | h2⟩ := h
          · exact PP.of ⟨e, H', rfl, he, rfl, .inl ⟨(by rw [removeT_kid hrd hlf (by rw [hkg]; exact hp2) c65]; exact bind_err h1), h2⟩⟩ sl
          · exact PP.of ⟨e, H', rfl, he, rfl, .inr h2⟩ sl) ?_
        rintro v_95 hs_95 ⟨H3, gn, Q3, rfl, rfl, hr3, hI3⟩
        refine OT.pures hT 2 rfl (.nil (.seq (.ret (.ofP (rs := [.tmp 8, .tmp 9]) [_, _] (H3 :: r) rfl (.tmp rfl (.tmp rfl .nil)) sl ?_))))
        try dsimp only [one]
        exact ⟨H3, (y.1, gn), Q3, rfl, rfl, by rw [removeT_kid hrd hlf (by rw [hkg]; exact hp2) c65]; exact bind_ok hr3, hI3⟩

theorem tr_remove {b : Nat} {P : Value} {I : Chunk → Prop} {E : Int → Chunk → Prop} {Qb : Pages} (hP : PgsA Tryz.prog 5 P I E (pgOf Qb)) (hQ : Long Qb) {k : ByteArray} : ∀ (f d : Nat), d + f = 32 → ∀ {Qt : Pages} {H : Chunk} {r : List Chunk} {no : Int}, mayUse no → ShAt 110 b P I Qb Qt H → FunP Tryz.prog 107 [.pointer (some ⟨b, 0, none⟩), .int .i64 no, .string k, .int .i64 ((d : Nat) : Int)] (H :: r) (fun v' hs' => ∃ H' y Q', hs' = H' :: r ∧ v' = .tuple ⟨[.bool y.1, .bool y.2]⟩ ∧ removeT k f Qt no = .ok (y, Q') ∧ ShAt 110 b P I Qb Q' H') (Broke (fun H => ∃ Q', ShAt 110 b P I Qb Q' H) (ShBad 110 b P E) (fun e => removeT k f Qt no = .error e) r) := by
  intro f
  induction f with
  | zero =>
    intro d hd Qt H r no _ hH
    obtain rfl : d = 32 := by omega
    exact tr_remove0 hP hQ hH
  | succ f ih =>
    intro d hd Qt H r no hno hH
    exact tr_removeS hP hQ (by omega) (fun h1 h2 => ih (d + 1) (by omega) h1 h2) hno hH

set_option maxHeartbeats 2000000 in
set_option maxRecDepth 100000 in
theorem tr_shrink {b : Nat} {P : Value} {I : Chunk → Prop} {E : Int → Chunk → Prop} {Qb : Pages} (hP : PgsA Tryz.prog 5 P I E (pgOf Qb)) (hQ : Long Qb) {Qt : Pages} {H : Chunk} {r : List Chunk} (hH : ShAt 110 b P I Qb Qt H) {no : Int} (hno : mayUse no) : FunP Tryz.prog 108 [.pointer (some ⟨b, 0, none⟩), .int .i64 no] (H :: r) (fun v' hs' => ∃ H' Q', hs' = H' :: r ∧ v' = .tuple ⟨[]⟩ ∧ shrinkT 32 Qt no = .ok Q' ∧ ShAt 110 b P I Qb Q' H') (Broke (fun H => ∃ Q', ShAt 110 b P I Qb Q' H) (ShBad 110 b P E) (fun e => shrinkT 32 Qt no = .error e) r) := by
  refine FunP.enter 31 Tryz.func108 rfl Tryz.ntmps108 rfl ?_
  refine TT.seq (.seq (.region (.pures hT 1 rfl (.nil (.seq (.block (.loop (ι := Nat × Int × Pages × Chunk) (fun j => (j.1) ≤ 32 ∧ mayUse (j.2.1) ∧ shrinkT 32 Qt no = shrinkT (32 - (j.1)) (j.2.2.1) (j.2.1) ∧ ShAt 110 b P I Qb (j.2.2.1) (j.2.2.2)) (fun j => 32 - (j.1)) (fun j => [(0, .pointer (some ⟨b, 0, none⟩)), (1, .int .i64 (j.2.1)), (5, .int .i64 ((j.1) : Nat))]) (fun j => (j.2.2.2) :: r) (0, no, Qt, H) ?_ (SubR.cons rfl (SubR.cons rfl (SubR.cons rfl (SubR.nil _)))) sl ?_)))))))
  · dsimp only
    exact ⟨by omega, hno, rfl, hH⟩
  rintro ⟨i, no1, Q1, H1⟩ hI
  dsimp only at hI
  obtain ⟨hi, hn1, hsh, hH1⟩ := hI
  show TT _ _ _ [(0, .pointer (some ⟨b, 0, none⟩)), (1, .int .i64 no1), (5, .int .i64 (i : Nat))] (H1 :: r)
  refine TT.seq (.region (.pures hT 1 rfl (.nil (.seq (.seq (.cond rfl (fun c6 => ?_) (fun c6 => ?_)))))))
  ·
    have c6 := of_decide_eq_true c6
    obtain ⟨f, hf⟩ : ∃ f, 32 - i = f + 1 := ⟨31 - i, by omega⟩
    rw [hf] at hsh
    have hnu := hn1
    unfold mayUse at hnu
    refine TT.skip (.seq (.seq (.block (.seq (.region (.pures hT 1 rfl (.mkiface Tryz.underlying24 rfl rfl rfl rfl (.pures hT 1 rfl ?_))))))))
    refine OT.callP Tryz.call95 rfl rfl rfl rfl (tr_read (sheet_Pgs hP hQ).pgs hH1 (use_bound hn1)) (fun _ _ h => by
      obtain ⟨e, H', rfl, he, rfl, ⟨h1, h2⟩ | ⟨_, e0, h2⟩⟩ := h
      · exact PP.of ⟨e, H', rfl, he, rfl, .inl ⟨(by rw [hsh]; exact shrinkT_err h1), _, h2⟩⟩ sl
      · exact PP.of ⟨e, H', rfl, he, rfl, .inr ⟨_, h2⟩⟩ sl) ?_
    rintro v_10 hs_10 ⟨H2, K, cs, n, rfl, rfl, hN, hI2, hrd⟩
    have hni := (readT_is hrd).nd
    obtain ⟨vc, vk, vi, KA, KB, KC, rfl, rfl, hoA, hoB, hoC⟩ := hN.is
    obtain ⟨ac, cc, e1⟩ := (hoA.row (hs := [])).len
    obtain ⟨ak, ck, e2⟩ := (hoB.row (hs := [])).len
    obtain ⟨ai, ci, e3⟩ := (hoC.row (hs := [])).len
    subst e1 e2 e3
    refine OT.perm kid_split (.alloc Tryz.zeroValue159 rfl rfl (fun b_4 => ?_))
    refine OT.store_all hT rfl rfl rfl rfl pl rfl rfl rfl (.inl (Nat.le_refl _)) ?_
    refine OT.nil (.seq (.seq (.seq (.region (.pures hT 1 rfl (.load rfl rfl (Ld.one hT rfl hz rfl) rfl ?_))))))
    refine OT.pures hT 1 rfl (.split 13 rfl (fun g13 => ?_) (fun g13 => ?_))
    ·
      have hlf : n.leaf = true := g13
      refine OT.pures hT 5 rfl (.nil (.seq (.cond_true rfl (.ret (.ofP (rs := []) [] (H2 :: r) rfl .nil sl ?_)))))
      try dsimp only [one]
      exact ⟨H2, Q1, rfl, rfl, by rw [hsh]; exact shrinkT_done hrd (.inl hlf), hI2⟩
    ·
      have hlf : n.leaf = false := g13
      have hkk := (hni.ways hlf).1
      refine OT.pures hT 1 rfl (.load rfl rfl (Ld.slc hT rfl hz rfl) rfl ?_)
      refine OT.pures hT 3 rfl (.nil (.seq (.cond rfl (fun c18 => ?_) (fun c18 => ?_))))
      ·
        have c18 : 1 < n.kids.length := by have := of_decide_eq_true c18; omega
        refine TT.ret (.ofP (rs := []) [] (H2 :: r) rfl .nil sl ?_)
        try dsimp only [one]
        exact ⟨H2, Q1, rfl, rfl, by rw [hsh]; exact shrinkT_done hrd (.inr c18), hI2⟩
      ·
        have c18 : ¬ 1 < n.kids.length := by have := of_decide_eq_false c18; omega
        have hno2 : ¬ (n.leaf = true ∨ 1 < n.kids.length) := fun h => h.elim (fun h => by rw [hlf] at h; cases h) c18
        obtain ⟨kd, hkd⟩ : ∃ x, n.kids[0]? = some x := ⟨_, List.getElem?_eq_getElem (by omega)⟩
        have hkg : n.kids.getD 0 0 = kd := by rw [List.getD_eq_getElem?_getD, hkd]; rfl
        have hkm : mayUse kd := (hni.ways hlf).2 kd (List.mem_of_getElem? hkd)
        refine TT.skip (.seq (.seq (.region (.pures hT 2 rfl ?_))))
        refine OT.callP Tryz.call153 rfl rfl rfl rfl (FunP.pull pl (tr_free hP hQ hI2 (no := no1) (by omega))) (fun _ _ h => by
          obtain ⟨e, H', rfl, he, rfl, ⟨h1, h2⟩ | h2⟩ := h
          · exact PP.of ⟨e, H', rfl, he, rfl, .inl ⟨(by rw [hsh, shrinkT_more hrd hno2]; exact bind_err h1), h2⟩⟩ sl
          · exact PP.of ⟨e, H', rfl, he, rfl, .inr h2⟩ sl) ?_
        rintro v_21 hs_21 ⟨H3, Q3, rfl, rfl, hf3, hI3⟩
        refine OT.nil (.seq (.seq (.region (.pures hT 1 rfl (.load rfl rfl (Ld.slc hT rfl hz rfl) rfl ?_)))))
        refine OT.index hT rfl rfl rfl rfl hoC.row.there.there.there.there (by omega) (by exact hkd) rfl (fun ad_24 hel_24 => ?_)
        refine OT.load rfl rfl (hel_24.ld_one hT rfl rfl) rfl (.pures hT 1 rfl (.nil (.seq (.region (.pures hT 2 rfl ?_)))))
        refine OT.callP Tryz.call103 rfl rfl rfl rfl (FunP.pull pl (tr_setRoot hP hQ hI3 (.inr hkm))) (fun _ _ h => by
          obtain ⟨e, H', rfl, he, rfl, ⟨h1, h2⟩ | h2⟩ := h
          · exact PP.of ⟨e, H', rfl, he, rfl, .inl ⟨(by cases h1), h2⟩⟩ sl
          · exact PP.of ⟨e, H', rfl, he, rfl, .inr h2⟩ sl) ?_
        rintro v_28 hs_28 ⟨H4, rfl, rfl, hI4⟩
        have hsh2 : shrinkT 32 Qt no = shrinkT (32 - (i + 1)) (rootSet Q3 kd) kd := by rw [hsh, shrinkT_more hrd hno2, bind_ok hf3, hkg]; congr 1; omega
        refine OT.nil (.blk (.seq (.region (.pures hT 2 rfl (.nil (.loop (i + 1, kd, rootSet Q3 kd, H4) ?_ ?_ (SubR.cons rfl (SubR.cons rfl (SubR.cons' rfl (by (try dsimp only); exact (int_eq (by rw [wrap_i64 (by omega) (by omega)]; omega))) (SubR.nil _)))) sl))))))
        · dsimp only
          exact ⟨by omega, hkm, hsh2, hI4⟩
        · dsimp only
          omega
  ·
    have c6 := of_decide_eq_false c6
    have h0 : 32 - i = 0 := by omega
    rw [h0] at hsh
    refine TT.exit (.seq (.loop (.here (.seq (.region ?_)))))
    refine OT.callP Tryz.call98 rfl rfl rfl rfl (guard_Break) (fun _ _ h => by
      obtain ⟨rfl, rfl⟩ := h
      exact PP.of ⟨8, H1, by rw [brk_same (by decide)], by decide, rfl, .inl ⟨by rw [hsh]; rfl, Q1, hH1⟩⟩ sl) ?_
    rintro v_30 hs_30 ⟨hb, _⟩
    exact hb.elim

end Go.Proofs.YtihpkgmfkbkffaaGreat.Sx
end

section
namespace Go.Proofs.YtihpkgmfkbkffaaGreat.Sx
open Go Go.Sx Go.Pl
variable [Outer]

set_option maxHeartbeats 2000000 in
set_option maxRecDepth 100000 in
theorem tr_whole1 {b : Nat} {P : Value} {I : Chunk → Prop} {E : Int → Chunk → Prop} {Qb : Pages} (hP : PgsA Tryz.prog 5 P I E (pgOf Qb)) (hQ : Long Qb) {Qs : Pages} {H Z : Chunk} {r : List Chunk} (hH : ShAt 110 b P I Qb Qs H) {fdo : Nat} {caps : List Value} (hc : ∀ args w, (callFunc fdo args).run Tryz.prog w = .ok (.enter fdo args) w) {R : Pages → Chunk → Prop} {RE : Int → Prop} {ZE : Chunk → Prop} (hDo : ∀ {bt : Nat} {Ht : Chunk} {r' : List Chunk}, ShAt 110 bt (.iface 24 (.pointer (some ⟨b, 0, none⟩))) (ShAt 110 b P I Qb Qs) Qs Qs Ht → FunP Tryz.prog fdo (.pointer (some ⟨bt, 0, none⟩) :: caps) (Ht :: Z :: r') (fun v' hs' => ∃ Ht' Z' Q', hs' = Ht' :: Z' :: r' ∧ ShAt 110 bt (.iface 24 (.pointer (some ⟨b, 0, none⟩))) (ShAt 110 b P I Qb Qs) Qs Q' Ht' ∧ R Q' Z') (fun v' hs' => ∃ e Ht' Z', v' = flt e ∧ e ≠ 0 ∧ hs' = Ht' :: Z' :: r' ∧ ZE Z' ∧ ((RE e ∧ ∃ Q', ShAt 110 bt (.iface 24 (.pointer (some ⟨b, 0, none⟩))) (ShAt 110 b P I Qb Qs) Qs Q' Ht') ∨ ∃ e0, ShBad 110 bt (.iface 24 (.pointer (some ⟨b, 0, none⟩))) (ShBad 110 b P E) e0 Ht'))) {A : Chunk} {bs bf : Nat} : FunP Tryz.prog 141 [.pointer (some ⟨bs, 0, none⟩), .pointer (some ⟨bf, 0, none⟩)] (A :: [(bs, blk [.pointer (some ⟨b, 0, none⟩)] 24 (0, 0))] :: [(bf, blk [.func (.func fdo) ⟨[]⟩ ⟨caps⟩] 173 (0, 0))] :: H :: Z :: r) (fun _ hs' => ∃ hs1, hs' = A :: hs1 ∧ ∃ H' Z' Q', hs1 = H' :: Z' :: r ∧ R Q' Z' ∧ (ShAt 110 b P I Qb Q' H' ∨ ShBad 110 b P E 0 H')) (fun v' hs' => ∃ e hs1, hs' = A :: hs1 ∧ v' = flt e ∧ ∃ H' Z', e ≠ 0 ∧ hs1 = H' :: Z' :: r ∧ ZE Z' ∧ ((RE e ∧ ShAt 110 b P I Qb Qs H') ∨ ShBad 110 b P E 0 H')) := by
  refine FunP.enter 33 Tryz.func141 rfl Tryz.ntmps141 rfl ?_
  obtain ⟨ti, ui, hPv⟩ := hP.iface
  refine TT.seq (.region (.load rfl rfl (Ld.one hT rfl hz rfl) rfl ?_))
  refine OT.pures hT 1 rfl (.call Tryz.call118 rfl rfl rfl rfl (guard_Check) ?_)
  rintro v_8 hs_8 ⟨rfl, rfl⟩
  refine OT.nil (.seq (.seq (.region (.load rfl rfl (Ld.one hT rfl hz rfl) rfl ?_))))
  refine OT.mkiface Tryz.underlying24 rfl rfl rfl rfl (.call Tryz.call15 rfl rfl rfl rfl (Fun.pull pl (sh_New (ti := 24) (ui := .pointer (some ⟨b, 0, none⟩)) hH)) ?_)
  rintro v_11 hs_11 ⟨bt, Ht, rfl, rfl, hT0⟩
  refine OT.pures hT 1 rfl (.nil (.seq (.seq (.region (.load rfl rfl (Ld.one hT rfl hz rfl) rfl ?_)))))
  refine OT.pures hT 1 rfl ?_
  refine OT.callcP hc rfl rfl rfl rfl (FunP.weaken sl (hDo ⟨_, hT0, rfl⟩)) (fun _ _ h => by
    obtain ⟨e, Ht', Z', rfl, he, rfl, hZ, ⟨hr, Q', m, ⟨mb, M, G, rfl, _, _, hG⟩, _⟩ | ⟨_, m, mb, M, G, rfl, _, _, _, hG⟩⟩ := h
    · exact PP.of ⟨e, _, rfl, rfl, G, Z', he, rfl, hZ, .inl ⟨hr, hG⟩⟩ (.split (.split (.drop (.drop sl))))
    · exact PP.of ⟨e, _, rfl, rfl, G, Z', he, rfl, hZ, .inr hG⟩ (.split (.split (.drop (.drop sl))))) ?_
  rintro v_14 hs_14 ⟨Ht', Z', Q', rfl, hQ', hR⟩
  obtain ⟨m, hm, rfl⟩ := hQ'
  refine OT.nil (.seq (.seq (.region (.pures hT 1 rfl (.call Tryz.call47 rfl rfl rfl rfl (Fun.pull pl (sh_Changes (bd := false) (sheet_Pgs hP hQ) (hH.long hQ) hm)) ?_)))))
  rintro v_16 hs_16 ⟨bd, ts, HI, Ht2, rfl, hOI, hS2, _, hch, hmy, htl⟩
  have hmm := hm.may
  obtain ⟨mb2, M2, G2, rfl, _, _, hG2⟩ := hS2.is
  refine OT.perm sh_split ?_
  obtain ⟨m0, hm0, hl0⟩ := st_sheet hG2
  have hAt : ∀ hs, ImsAt (HI :: hs) v_16 ts := fun hs => hOI.at (by omega) (fun t ht => by have := (hmy t.img (List.mem_map.2 ⟨t, ht, rfl⟩)).2; show t.b.length ≤ _; have e : t.img.2 = t.b := rfl; rw [e] at this; omega)
  obtain ⟨a16, c16, rfl⟩ := (hAt []).row.len
  refine OT.pures hT 2 rfl (.nil (.seq (.block (.loop (ι := Nat × Chg × Chunk) (fun j => (j.1) ≤ ts.length ∧ ShOf 110 b P (St I E bd) (j.2.1) (j.2.2) ∧ (bd = false → layC Qb (j.2.1) = lay Qs ((imgs ts).take (j.1)))) (fun j => ts.length - (j.1)) (fun j => [(0, .pointer (some ⟨bs, 0, none⟩)), (16, .slice a16 ts.length c16), (17, .int .i64 (ts.length : Nat)), (18, .int .i64 ((j.1) : Nat))]) (fun j => HI :: (j.2.2) :: A :: [(bs, blk [.pointer (some ⟨b, 0, none⟩)] 24 (0, 0))] :: Z' :: r) (0, m0, G2) ?_ (SubR.cons rfl (SubR.cons rfl (SubR.cons rfl (SubR.cons rfl (SubR.nil _))))) sl ?_))))
  · dsimp only
    exact ⟨Nat.zero_le _, hm0, fun h => by rw [hl0 h]; rfl⟩
  rintro ⟨i, m1, G1⟩ hI
  dsimp only at hI
  obtain ⟨hi, hm1, hl1⟩ := hI
  show TT _ _ _ [(0, .pointer (some ⟨bs, 0, none⟩)), (16, .slice a16 ts.length c16), (17, .int .i64 (ts.length : Nat)), (18, .int .i64 (i : Nat))] (HI :: G1 :: A :: [(bs, blk [.pointer (some ⟨b, 0, none⟩)] 24 (0, 0))] :: Z' :: r)
  refine TT.seq (.region (.pures hT 1 rfl (.nil (.seq (.seq (.cond rfl (fun c19 => ?_) (fun c19 => ?_)))))))
  ·
    have c19 := of_decide_eq_true c19
    obtain ⟨x, hx⟩ := nth (l := ts) (i := i) (by omega)
    have hxm := List.mem_of_getElem? hx
    have hmx := hmy x.img (List.mem_map.2 ⟨x, hxm, rfl⟩)
    refine TT.skip (.seq (.seq (.block (.seq (.region (.index hT rfl rfl rfl rfl (hAt _).row (by omega) (by rw [Int.toNat_natCast]; exact hx) rfl (fun ad_20 hel_20 => ?_)))))))
    refine OT.load rfl rfl (hel_20.ld_struct hT rfl) rfl (.alloc Tryz.zeroValue143 rfl rfl (fun b_4 => ?_))
    refine OT.store_all hT rfl rfl rfl rfl pl rfl rfl (ones_im (hAt []) hxm) (.inl (Nat.le_refl _)) ?_
    refine OT.nil (.seq (.seq (.region (.load rfl rfl (Ld.one hT rfl hz rfl) rfl ?_))))
    refine OT.pures hT 1 rfl (.load rfl rfl (Ld.one hT rfl hz rfl) rfl ?_)
    refine OT.pures hT 1 rfl (.load rfl rfl (Ld.slc hT rfl hz rfl) rfl ?_)
    refine OT.call Tryz.call109 rfl rfl rfl rfl (Fun.pull pl (sh_SetM hPv hm1 (((hAt _).each x hxm).there) (by have h2 := hmx.2; have e : x.img.2 = x.b := rfl; rw [e] at h2; omega))) ?_
    rintro v_27 hs_27 ⟨G3, rfl, ⟨hno, _⟩ | ⟨_, hno, _⟩ | ⟨_, _, rfl, hm3⟩⟩
    ·
      exact absurd hmx.1 hno
    ·
      exact absurd hmx.2 hno
    ·
      refine OT.pures hT 1 rfl (.nil (.seq (.region (.pures hT 3 rfl (.call Tryz.call118 rfl rfl rfl rfl (guard_Check) ?_)))))
      rintro v_31 hs_31 ⟨rfl, rfl⟩
      refine OT.nil (.blk (.seq (.region (.pures hT 2 rfl (.nil (.loop (i + 1, updO m1 x.no x.b, G3) ?_ ?_ (SubR.cons rfl (SubR.cons rfl (SubR.cons rfl (SubR.cons' rfl (by (try dsimp only); exact (int_eq (by rw [wrap_i64 (by omega) (by omega)]; omega))) (SubR.nil _))))) sl))))))
      · dsimp only
        exact ⟨by omega, hm3, fun h => by rw [layC_upd, hl1 h, lay_take (imgs_at hx)]; rfl⟩
      · dsimp only
        omega
  ·
    have c19 := of_decide_eq_false c19
    obtain rfl : i = ts.length := by omega
    rw [List.take_of_length_le (by rw [imgs_length]; exact Nat.le_refl _)] at hl1
    refine TT.exit (.seq (.loop (.here (.ofP (rs := []) [] (A :: G1 :: Z' :: r) rfl .nil sl ?_))))
    try dsimp only [one]
    exact ⟨_, rfl, G1, Z', _, rfl, hR, st_out hm1 (fun h => by rw [hl1 h, hch h]; exact lay_chgs hmm)⟩

set_option maxHeartbeats 1000000 in
set_option maxRecDepth 100000 in
theorem tr_whole {b : Nat} {P : Value} {I : Chunk → Prop} {E : Int → Chunk → Prop} {Qb : Pages} (hP : PgsA Tryz.prog 5 P I E (pgOf Qb)) (hQ : Long Qb) {Qs : Pages} {H Z : Chunk} {r : List Chunk} (hH : ShAt 110 b P I Qb Qs H) {fdo : Nat} {caps : List Value} (hc : ∀ args w, (callFunc fdo args).run Tryz.prog w = .ok (.enter fdo args) w) {R : Pages → Chunk → Prop} {RE : Int → Prop} {ZE : Chunk → Prop} (hDo : ∀ {bt : Nat} {Ht : Chunk} {r' : List Chunk}, ShAt 110 bt (.iface 24 (.pointer (some ⟨b, 0, none⟩))) (ShAt 110 b P I Qb Qs) Qs Qs Ht → FunP Tryz.prog fdo (.pointer (some ⟨bt, 0, none⟩) :: caps) (Ht :: Z :: r') (fun v' hs' => ∃ Ht' Z' Q', hs' = Ht' :: Z' :: r' ∧ ShAt 110 bt (.iface 24 (.pointer (some ⟨b, 0, none⟩))) (ShAt 110 b P I Qb Qs) Qs Q' Ht' ∧ R Q' Z') (fun v' hs' => ∃ e Ht' Z', v' = flt e ∧ e ≠ 0 ∧ hs' = Ht' :: Z' :: r' ∧ ZE Z' ∧ ((RE e ∧ ∃ Q', ShAt 110 bt (.iface 24 (.pointer (some ⟨b, 0, none⟩))) (ShAt 110 b P I Qb Qs) Qs Q' Ht') ∨ ∃ e0, ShBad 110 bt (.iface 24 (.pointer (some ⟨b, 0, none⟩))) (ShBad 110 b P E) e0 Ht'))) : Fun Tryz.prog 100 [.pointer (some ⟨b, 0, none⟩), .func (.func fdo) ⟨[]⟩ ⟨caps⟩] (H :: Z :: r) (fun v' hs1 => (v' = .int .i64 0 ∧ ∃ H' Z' Q', hs1 = H' :: Z' :: r ∧ R Q' Z' ∧ (ShAt 110 b P I Qb Q' H' ∨ ShBad 110 b P E 0 H')) ∨ ∃ e, v' = .int .i64 e ∧ ∃ H' Z', e ≠ 0 ∧ hs1 = H' :: Z' :: r ∧ ZE Z' ∧ ((RE e ∧ ShAt 110 b P I Qb Qs H') ∨ ShBad 110 b P E 0 H')) := by
  refine Fun.enter 7 Tryz.func100 rfl Tryz.ntmps100 rfl ?_
  refine TT.seq (.region (.box rfl rfl rfl (fun b_2 => ?_)))
  refine OT.box rfl rfl rfl (fun b_3 => ?_)
  refine OT.pures hT 1 rfl (.nil (.seq (.seq (.region (.pures hT 1 rfl (.call Tryz.call84 rfl rfl rfl rfl ((guard_Try (N := fun _ hs1 => ∃ H' Z' Q', hs1 = H' :: Z' :: r ∧ R Q' Z' ∧ (ShAt 110 b P I Qb Q' H' ∨ ShBad 110 b P E 0 H')) (E := fun e hs1 => ∃ H' Z', e ≠ 0 ∧ hs1 = H' :: Z' :: r ∧ ZE Z' ∧ ((RE e ∧ ShAt 110 b P I Qb Qs H') ∨ ShBad 110 b P E 0 H')) Tryz.call141 (fun A => FunP.weaken (by repeat (first | exact Sel.refl _ | refine Sel.pull (by repeat (first | exact Pull.head | apply Pull.tail)) ?_)) (tr_whole1 (A := A) hP hQ hH hc hDo)))) ?_))))))
  rintro v_6 hs_6 h5
  refine OT.pures hT 1 rfl (.nil (.seq (.ret (.of (rs := [.tmp 4]) [_] hs_6 rfl (.tmp rfl .nil) (.refl _) ?_))))
  try dsimp only [one]
  rcases h5 with ⟨rfl, _, h⟩ | ⟨e, rfl, h⟩
  · exact .inl ⟨rfl, h⟩
  · exact .inr ⟨e, rfl, h⟩

end Go.Proofs.YtihpkgmfkbkffaaGreat.Sx
end

section
namespace Go.Proofs.YtihpkgmfkbkffaaGreat.Sx
open Go Go.Sx Go.Pl
variable [Outer]

set_option maxHeartbeats 2000000 in
set_option maxRecDepth 100000 in
theorem tr_Put1 {b : Nat} {P : Value} {I : Chunk → Prop} {E : Int → Chunk → Prop} {Qb : Pages} (hP : PgsA Tryz.prog 5 P I E (pgOf Qb)) (hQ : Long Qb) {Qt : Pages} {H : Chunk} {r : List Chunk} (hH : ShAt 110 b P I Qb Qt H) {x : Cell} (hx : mayCell x = true) (hxf : x.val.f < 2 ^ 64 ∧ x.new.f < 2 ^ 64) {bc : Nat} : FunP Tryz.prog 101 [.pointer (some ⟨b, 0, none⟩), .pointer (some ⟨bc, 0, none⟩)] (H :: [(bc, blk (encCell x) 113 (0, 0))] :: r) (fun v' hs' => ∃ H' Z' Q', hs' = H' :: Z' :: r ∧ ShAt 110 b P I Qb Q' H' ∧ putTop Qt x = .ok Q') (fun v' hs' => ∃ e H' Z', v' = flt e ∧ e ≠ 0 ∧ hs' = H' :: Z' :: r ∧ True ∧ ((putTop Qt x = .error e ∧ (fun H => ∃ Q', ShAt 110 b P I Qb Q' H) H') ∨ ∃ e0, ShBad 110 b P E e0 H')) := by
  refine FunP.enter 45 Tryz.func101 rfl Tryz.ntmps101 rfl ?_
  refine TT.seq (.region (.pures hT 1 rfl (.mkiface Tryz.underlying24 rfl rfl rfl rfl ?_)))
  refine OT.callP Tryz.call94 rfl rfl rfl rfl (tr_root (sheet_Pgs hP hQ).pgs hH) (fun _ _ h => by
    obtain ⟨e, H', rfl, he, rfl, ⟨h1, h2⟩ | ⟨_, e0, h2⟩⟩ := h
    · exact PP.of ⟨e, H', [(bc, blk (encCell x) 113 (0, 0))], rfl, he, rfl, trivial, .inl ⟨putTop_err h1, _, h2⟩⟩ sl
    · exact PP.of ⟨e, H', [(bc, blk (encCell x) 113 (0, 0))], rfl, he, rfl, trivial, .inr ⟨_, h2⟩⟩ sl) ?_
  rintro v_8 hs_8 ⟨H1, no, rfl, rfl, hI1, hrt⟩
  have hnu := rootT_use hrt
  refine OT.pures hT 1 rfl (.nil (.seq (.seq (.seq (.region (.pures hT 2 rfl (.nil (.seq (.cond rfl (fun c10 => ?_) (fun c10 => ?_))))))))))
  ·
    have c10 : no = 0 := by simpa using c10
    refine TT.seq (.region (.pures hT 1 rfl ?_))
    refine OT.callP Tryz.call102 rfl rfl rfl rfl (tr_take hP hQ hI1) (fun _ _ h => by
      obtain ⟨e, H', rfl, he, rfl, ⟨h1, h2⟩ | h2⟩ := h
      · exact PP.of ⟨e, H', [(bc, blk (encCell x) 113 (0, 0))], rfl, he, rfl, trivial, .inl ⟨(by rw [putTop_new hrt c10]; exact bind_err h1), h2⟩⟩ sl
      · exact PP.of ⟨e, H', [(bc, blk (encCell x) 113 (0, 0))], rfl, he, rfl, trivial, .inr h2⟩ sl) ?_
    rintro v_12 hs_12 ⟨H2, n2, Q2, rfl, rfl, hs2, hI2⟩
    have hto := takeT_is hs2
    refine OT.pures hT 1 rfl (.nil (.seq (.seq (.region (.pures hT 2 rfl ?_)))))
    refine OT.callP Tryz.call103 rfl rfl rfl rfl (tr_setRoot hP hQ hI2 (no := n2) (.inr hto)) (fun _ _ h => by
      obtain ⟨e, H', rfl, he, rfl, ⟨h1, h2⟩ | h2⟩ := h
      · exact PP.of ⟨e, H', [(bc, blk (encCell x) 113 (0, 0))], rfl, he, rfl, trivial, .inl ⟨(by cases h1), h2⟩⟩ sl
      · exact PP.of ⟨e, H', [(bc, blk (encCell x) 113 (0, 0))], rfl, he, rfl, trivial, .inr h2⟩ sl) ?_
    rintro v_15 hs_15 ⟨H3, rfl, rfl, hI3⟩
    refine OT.nil (.seq (.seq (.region (.pures hT 2 rfl (.load rfl rfl (Ld.struct_all hT rfl hz rfl) rfl ?_)))))
    refine OT.buildSlice (enc := encCell) (xs := [x]) (xos := [.tmp 18]) el122 rfl rfl rfl rfl rfl (by simp [Value.cells]; rfl) (fun _ _ => rfl) rfl (by decide) rfl (fun v_19 H_19 ho_19 => ?_)
    obtain ⟨a19, c19, rfl⟩ := (ho_19.row (hs := [])).len
    refine OT.build (cs := [.bool true, .slice a19 [x].length c19, .slice none 0 0, .slice none 0 0]) hT rfl Tryz.zeroValue159 rfl rfl rfl rfl ?_
    refine OT.callP Tryz.call104 rfl rfl rfl rfl (FunP.pull pl (tr_set hP hQ hI3 (n := ⟨true, [x], [], []⟩) ⟨_, _, _, rfl, ho_19.row, Row.nil, Row.nil⟩ (by simp) (by simp) (by simp) (fun c hc => by rw [List.mem_singleton] at hc; subst hc; exact hxf) (may_page hto))) (fun _ _ h => by
      obtain ⟨e, H', rfl, he, rfl, ⟨h1, h2⟩ | h2⟩ := h
      · exact PP.of ⟨e, H', [(bc, blk (encCell x) 113 (0, 0))], rfl, he, rfl, trivial, .inl ⟨(by rw [putTop_new hrt c10]; exact (bind_ok hs2).trans h1), h2⟩⟩ sl
      · exact PP.of ⟨e, H', [(bc, blk (encCell x) 113 (0, 0))], rfl, he, rfl, trivial, .inr h2⟩ sl) ?_
    rintro v_21 hs_21 ⟨H4, Q4, rfl, rfl, hs4, hI4⟩
    refine OT.nil (.seq (.ret (.ofP (rs := []) [] (H4 :: [(bc, blk (encCell x) 113 (0, 0))] :: r) rfl .nil sl ?_)))
    try dsimp only [one]
    exact ⟨H4, _, Q4, rfl, hI4, by rw [putTop_new hrt c10]; exact (bind_ok hs2).trans hs4⟩
  ·
    have c10 : no ≠ 0 := by simpa using c10
    have hnu := hnu.resolve_left c10
    refine TT.skip (.seq (.seq (.region (.pures hT 2 rfl (.load rfl rfl (Ld.struct_all hT rfl hz rfl) rfl ?_)))))
    refine OT.callP Tryz.call105 rfl rfl rfl rfl (tr_insert hP hQ hx hxf 32 0 rfl hnu hI1) (fun _ _ h => by
      obtain ⟨e, H', rfl, he, rfl, ⟨h1, h2⟩ | h2⟩ := h
      · exact PP.of ⟨e, H', [(bc, blk (encCell x) 113 (0, 0))], rfl, he, rfl, trivial, .inl ⟨(by rw [putTop_in hrt c10]; exact bind_err h1), h2⟩⟩ sl
      · exact PP.of ⟨e, H', [(bc, blk (encCell x) 113 (0, 0))], rfl, he, rfl, trivial, .inr h2⟩ sl) ?_
    rintro v_25 hs_25 ⟨H2, y, Q2, rfl, rfl, hp2, hI2⟩
    refine OT.alloc Tryz.zeroValue171 rfl rfl (fun b_4 => ?_)
    refine OT.store_all hT rfl rfl rfl rfl pl rfl rfl rfl (.inl (Nat.le_refl _)) ?_
    refine OT.nil (.seq (.seq (.region (.pures hT 1 rfl (.load rfl rfl (Ld.one hT rfl hz rfl) rfl ?_)))))
    refine OT.pures hT 1 rfl (.nil (.seq (.cond rfl (fun c28 => ?_) (fun c28 => ?_))))
    ·
      have c28 : y.2 ≠ 0 := by simpa using c28
      refine TT.seq (.region (.pures hT 1 rfl ?_))
      refine OT.callP Tryz.call102 rfl rfl rfl rfl (FunP.pull pl (tr_take hP hQ hI2)) (fun _ _ h => by
        obtain ⟨e, H', rfl, he, rfl, ⟨h1, h2⟩ | h2⟩ := h
        · exact PP.of ⟨e, H', [(bc, blk (encCell x) 113 (0, 0))], rfl, he, rfl, trivial, .inl ⟨(by rw [putTop_two hrt c10 hp2 c28]; exact bind_err h1), h2⟩⟩ sl
        · exact PP.of ⟨e, H', [(bc, blk (encCell x) 113 (0, 0))], rfl, he, rfl, trivial, .inr h2⟩ sl) ?_
      rintro v_30 hs_30 ⟨H3, n3, Q3, rfl, rfl, hs3, hI3⟩
      have hto := takeT_is hs3
      refine OT.pures hT 1 rfl (.nil (.seq (.seq (.region (.pures hT 3 rfl (.load rfl rfl (Ld.one hT rfl hz rfl) rfl ?_))))))
      refine OT.buildSlice (enc := Go.Sx.encS) (xs := [y.1]) (xos := [.tmp 34]) el91 rfl rfl rfl rfl rfl (by simp [Value.cells]) (fun _ _ => rfl) rfl (by decide) rfl (fun v_35 H_35 ho_35 => ?_)
      refine OT.pures hT 2 rfl (.load rfl rfl (Ld.one hT rfl hz rfl) rfl ?_)
      refine OT.buildSlice (enc := Go.Sx.encI) (xs := [no, y.2]) (xos := [.tmp 36, .tmp 38]) el22 rfl rfl rfl rfl rfl (by simp [Value.cells]) (fun _ _ => rfl) rfl (by decide) rfl (fun v_39 H_39 ho_39 => ?_)
      obtain ⟨a35, c35, rfl⟩ := (ho_35.row (hs := [])).len
      obtain ⟨a39, c39, rfl⟩ := (ho_39.row (hs := [])).len
      refine OT.build (cs := [.bool false, .slice none 0 0, .slice a35 [y.1].length c35, .slice a39 [no, y.2].length c39]) hT rfl Tryz.zeroValue159 rfl rfl rfl rfl ?_
      refine OT.callP Tryz.call104 rfl rfl rfl rfl (FunP.pull pl (tr_set hP hQ hI3 (n := ⟨false, [], [y.1], [no, y.2]⟩) ⟨_, _, _, rfl, Row.nil, ho_35.row.there, ho_39.row⟩ (by simp) (by simp) (by simp) (fun _ hc => by cases hc) (may_page hto))) (fun _ _ h => by
        obtain ⟨e, H', rfl, he, rfl, ⟨h1, h2⟩ | h2⟩ := h
        · exact PP.of ⟨e, H', [(bc, blk (encCell x) 113 (0, 0))], rfl, he, rfl, trivial, .inl ⟨(by rw [putTop_two hrt c10 hp2 c28]; exact (bind_ok hs3).trans (bind_err h1)), h2⟩⟩ sl
        · exact PP.of ⟨e, H', [(bc, blk (encCell x) 113 (0, 0))], rfl, he, rfl, trivial, .inr h2⟩ sl) ?_
      rintro v_41 hs_41 ⟨H4, Q4, rfl, rfl, hs4, hI4⟩
      refine OT.nil (.seq (.region (.pures hT 2 rfl ?_)))
      refine OT.callP Tryz.call103 rfl rfl rfl rfl (FunP.pull pl (tr_setRoot hP hQ hI4 (no := n3) (.inr hto))) (fun _ _ h => by
        obtain ⟨e, H', rfl, he, rfl, ⟨h1, h2⟩ | h2⟩ := h
        · exact PP.of ⟨e, H', [(bc, blk (encCell x) 113 (0, 0))], rfl, he, rfl, trivial, .inl ⟨(by cases h1), h2⟩⟩ sl
        · exact PP.of ⟨e, H', [(bc, blk (encCell x) 113 (0, 0))], rfl, he, rfl, trivial, .inr h2⟩ sl) ?_
      rintro v_44 hs_44 ⟨H5, rfl, rfl, hI5⟩
      refine OT.nil (.ofP (rs := []) [] (H5 :: [(bc, blk (encCell x) 113 (0, 0))] :: r) rfl .nil sl ?_)
      try dsimp only [one]
      exact ⟨H5, _, _, rfl, hI5, by rw [putTop_two hrt c10 hp2 c28]; exact (bind_ok hs3).trans (bind_ok hs4)⟩
    ·
      have c28 : y.2 = 0 := by simpa using c28
      refine TT.skip (.ofP (rs := []) [] (H2 :: [(bc, blk (encCell x) 113 (0, 0))] :: r) rfl .nil sl ?_)
      try dsimp only [one]
      exact ⟨H2, _, Q2, rfl, hI2, putTop_one hrt c10 hp2 c28⟩

set_option maxHeartbeats 1000000 in
set_option maxRecDepth 100000 in
theorem tr_Put {b : Nat} {P : Value} {I : Chunk → Prop} {E : Int → Chunk → Prop} {Qb : Pages} (hP : PgsA Tryz.prog 5 P I E (pgOf Qb)) (hQ : Long Qb) {Qs : Pages} {H : Chunk} {r : List Chunk} (hH : ShAt 110 b P I Qb Qs H) {x : Cell} (hxf : x.val.f < 2 ^ 64 ∧ x.new.f < 2 ^ 64) : Fun Tryz.prog 54 [.pointer (some ⟨b, 0, none⟩), .agg ⟨encCell x⟩] (H :: r) (fun v' hs' => ∃ H' e, hs' = H' :: r ∧ v' = .int .i64 e ∧ ((mayCell x = false ∧ e = 1 ∧ ShAt 110 b P I Qb Qs H') ∨ (mayCell x = true ∧ ((∃ Q', e = 0 ∧ putTop Qs x = .ok Q' ∧ ShAt 110 b P I Qb Q' H') ∨ (e ≠ 0 ∧ putTop Qs x = .error e ∧ ShAt 110 b P I Qb Qs H') ∨ ShBad 110 b P E 0 H')))) := by
  refine Fun.enter 11 Tryz.func54 rfl Tryz.ntmps54 rfl ?_
  refine TT.seq (.region (.box rfl rfl rfl (fun b_3 => ?_)))
  refine OT.pures hT 1 rfl (.nil (.seq (.seq (.seq (.region (.load rfl rfl (Ld.struct_all hT rfl hz rfl) rfl ?_))))))
  refine OT.call Tryz.call99 rfl rfl rfl rfl (cl_May) ?_
  rintro v_6 hs_6 ⟨rfl, rfl⟩
  refine OT.pures hT 1 rfl (.nil (.seq (.cond rfl (fun c7 => ?_) (fun c7 => ?_))))
  ·
    have c7 : mayCell x = false := by simpa using c7
    refine TT.seq (.region (.pures hT 1 rfl (.nil (.seq (.ret (.of (rs := [.tmp 4]) [_] (H :: r) rfl (.tmp rfl .nil) sl ?_))))))
    try dsimp only [one]
    exact ⟨H, 1, rfl, rfl, .inl ⟨c7, rfl, hH⟩⟩
  ·
    have c7 : mayCell x = true := by simpa using c7
    refine TT.skip (.seq (.seq (.region (.pures hT 2 rfl (.call Tryz.call100 rfl rfl rfl rfl (Fun.weaken sl (tr_whole hP hQ hH (R := fun Q' _ => putTop Qs x = .ok Q') (RE := fun e => putTop Qs x = .error e) (ZE := fun _ => True) (Z := [(b_3, blk (encCell x) 113 (0, 0))]) Tryz.call101 (fun hT => tr_Put1 (sheet_Pgs hP hQ) (hH.long hQ) hT c7 hxf))) ?_)))))
    rintro v_10 hs_10 (⟨rfl, H', Z', Q', rfl, hR, hS⟩ | ⟨e, rfl, H', Z', he, rfl, _, hS⟩)
    ·
      refine OT.pures hT 1 rfl (.nil (.seq (.ret (.of (rs := [.tmp 4]) [_] (H' :: r) rfl (.tmp rfl .nil) sl ?_))))
      try dsimp only [one]
      refine ⟨H', 0, rfl, rfl, .inr ⟨c7, ?_⟩⟩
      rcases hS with hS | hS
      · exact .inl ⟨Q', rfl, hR, hS⟩
      · exact .inr (.inr hS)
    ·
      refine OT.pures hT 1 rfl (.nil (.seq (.ret (.of (rs := [.tmp 4]) [_] (H' :: r) rfl (.tmp rfl .nil) sl ?_))))
      try dsimp only [one]
      refine ⟨H', e, rfl, rfl, .inr ⟨c7, ?_⟩⟩
      rcases hS with ⟨h1, h2⟩ | hS
      · exact .inr (.inl ⟨he, h1, h2⟩)
      · exact .inr (.inr hS)

set_option maxHeartbeats 2000000 in
set_option maxRecDepth 100000 in
theorem tr_Del1 {b : Nat} {P : Value} {I : Chunk → Prop} {E : Int → Chunk → Prop} {Qb : Pages} (hP : PgsA Tryz.prog 5 P I E (pgOf Qb)) (hQ : Long Qb) {Qt : Pages} {H : Chunk} {r : List Chunk} (hH : ShAt 110 b P I Qb Qt H) {k : ByteArray} {bk bh : Nat} : FunP Tryz.prog 106 [.pointer (some ⟨b, 0, none⟩), .pointer (some ⟨bk, 0, none⟩), .pointer (some ⟨bh, 0, none⟩)] (H :: [(bk, blk [.string k] 9 (0, 0))] :: [(bh, blk [.bool false] 4 (0, 0))] :: r) (fun v' hs' => ∃ H' has Q', hs' = H' :: [(bk, blk [.string k] 9 (0, 0))] :: [(bh, blk [.bool has] 4 (0, 0))] :: r ∧ ShAt 110 b P I Qb Q' H' ∧ delTop Qt k = .ok (has, Q')) (fun v' hs' => ∃ e H' has, v' = flt e ∧ e ≠ 0 ∧ hs' = H' :: [(bk, blk [.string k] 9 (0, 0))] :: [(bh, blk [.bool has] 4 (0, 0))] :: r ∧ ((delTop Qt k = .error e ∧ (fun H => ∃ Q', ShAt 110 b P I Qb Q' H) H') ∨ ∃ e0, ShBad 110 b P E e0 H')) := by
  refine FunP.enter 25 Tryz.func106 rfl Tryz.ntmps106 rfl ?_
  refine TT.seq (.region (.pures hT 1 rfl (.mkiface Tryz.underlying24 rfl rfl rfl rfl ?_)))
  refine OT.callP Tryz.call94 rfl rfl rfl rfl (tr_root (sheet_Pgs hP hQ).pgs hH) (fun _ _ h => by
    obtain ⟨e, H', rfl, he, rfl, ⟨h1, h2⟩ | ⟨_, e0, h2⟩⟩ := h
    · exact PP.of ⟨e, H', false, rfl, he, rfl, .inl ⟨delTop_err h1, _, h2⟩⟩ sl
    · exact PP.of ⟨e, H', false, rfl, he, rfl, .inr ⟨_, h2⟩⟩ sl) ?_
  rintro v_8 hs_8 ⟨H1, no, rfl, rfl, hI1, hrt⟩
  have hnu := rootT_use hrt
  refine OT.pures hT 1 rfl (.nil (.seq (.seq (.seq (.region (.pures hT 2 rfl (.nil (.seq (.cond rfl (fun c10 => ?_) (fun c10 => ?_))))))))))
  ·
    have c10 : no = 0 := by simpa using c10
    refine TT.ret (.ofP (rs := []) [] (H1 :: [(bk, blk [.string k] 9 (0, 0))] :: [(bh, blk [.bool false] 4 (0, 0))] :: r) rfl .nil sl ?_)
    try dsimp only [one]
    exact ⟨H1, false, Qt, rfl, hI1, delTop_none hrt c10⟩
  ·
    have c10 : no ≠ 0 := by simpa using c10
    have hnu := hnu.resolve_left c10
    refine TT.skip (.seq (.seq (.region (.pures hT 1 rfl (.nil (.seq (.seq (.region (.pures hT 2 rfl (.load rfl rfl (Ld.one hT rfl hz rfl) rfl ?_))))))))))
    refine OT.callP Tryz.call107 rfl rfl rfl rfl (FunP.pull pl (tr_remove hP hQ 32 0 rfl hnu hI1)) (fun _ _ h => by
      obtain ⟨e, H', rfl, he, rfl, ⟨h1, h2⟩ | h2⟩ := h
      · exact PP.of ⟨e, H', false, rfl, he, rfl, .inl ⟨(by rw [delTop_in hrt c10]; exact bind_err h1), h2⟩⟩ sl
      · exact PP.of ⟨e, H', false, rfl, he, rfl, .inr h2⟩ sl) ?_
    rintro v_15 hs_15 ⟨H2, y, Q2, rfl, rfl, hr2, hI2⟩
    refine OT.pures hT 3 rfl (.store hT rfl rfl rfl rfl pl rfl (Nat.le_of_ble_eq_true rfl) rfl (.inl (Nat.le_refl _)) rfl ?_)
    refine OT.pures hT 1 rfl (.nil (.seq (.seq (.region (.pures hT 1 rfl (.nil (.seq (.cond rfl (fun c18 => ?_) (fun c18 => ?_)))))))))
    ·
      refine TT.region (.pures hT 1 rfl ?_)
      refine OT.callP Tryz.call103 rfl rfl rfl rfl (FunP.pull pl (tr_setRoot hP hQ hI2 (no := 0) (.inl rfl))) (fun _ _ h => by
        obtain ⟨e, H', rfl, he, rfl, ⟨h1, h2⟩ | h2⟩ := h
        · exact PP.of ⟨e, H', y.1, rfl, he, rfl, .inl ⟨(by cases h1), h2⟩⟩ sl
        · exact PP.of ⟨e, H', y.1, rfl, he, rfl, .inr h2⟩ sl) ?_
      rintro v_20 hs_20 ⟨H3, rfl, rfl, hI3⟩
      refine OT.nil (.ofP (rs := []) [] (H3 :: [(bk, blk [.string k] 9 (0, 0))] :: [(bh, blk [.bool y.1] 4 (0, 0))] :: r) rfl .nil sl ?_)
      try dsimp only [one]
      exact ⟨H3, y.1, _, rfl, hI3, delTop_gone hrt c10 hr2 c18⟩
    ·
      refine TT.seq (.region (.load rfl rfl (Ld.one hT rfl hz rfl) rfl ?_))
      refine OT.nil (.seq (.cond rfl (fun c21 => ?_) (fun c21 => ?_)))
      ·
        refine TT.region (.pures hT 2 rfl ?_)
        refine OT.callP Tryz.call108 rfl rfl rfl rfl (FunP.pull pl (tr_shrink hP hQ hI2 hnu)) (fun _ _ h => by
          obtain ⟨e, H', rfl, he, rfl, ⟨h1, h2⟩ | h2⟩ := h
          · exact PP.of ⟨e, H', y.1, rfl, he, rfl, .inl ⟨(by rw [delTop_has hrt c10 hr2 c18 c21]; exact bind_err h1), h2⟩⟩ sl
          · exact PP.of ⟨e, H', y.1, rfl, he, rfl, .inr h2⟩ sl) ?_
        rintro v_24 hs_24 ⟨H3, Q3, rfl, rfl, hs3, hI3⟩
        refine OT.nil (.ofP (rs := []) [] (H3 :: [(bk, blk [.string k] 9 (0, 0))] :: [(bh, blk [.bool y.1] 4 (0, 0))] :: r) rfl .nil sl ?_)
        try dsimp only [one]
        exact ⟨H3, y.1, Q3, rfl, hI3, by rw [delTop_has hrt c10 hr2 c18 c21, c21]; exact bind_ok hs3⟩
      ·
        refine TT.skip (.ofP (rs := []) [] (H2 :: [(bk, blk [.string k] 9 (0, 0))] :: [(bh, blk [.bool y.1] 4 (0, 0))] :: r) rfl .nil sl ?_)
        try dsimp only [one]
        exact ⟨H2, y.1, Q2, rfl, hI2, by rw [delTop_not hrt c10 hr2 c18 c21, c21]⟩

theorem del_post {f : Nat} {vs : List Value} {hs r' : List Chunk} {k : ByteArray} {bk bh : Nat} {Qs : Pages} {S : Pages → Chunk → Prop} {SB : Int → Chunk → Prop} (h : FunP Tryz.prog f vs hs (fun v' hs' => ∃ H' has Q', hs' = H' :: [(bk, blk [.string k] 9 (0, 0))] :: [(bh, blk [.bool has] 4 (0, 0))] :: r' ∧ S Q' H' ∧ delTop Qs k = .ok (has, Q')) (fun v' hs' => ∃ e H' has, v' = flt e ∧ e ≠ 0 ∧ hs' = H' :: [(bk, blk [.string k] 9 (0, 0))] :: [(bh, blk [.bool has] 4 (0, 0))] :: r' ∧ ((delTop Qs k = .error e ∧ ∃ Q', S Q' H') ∨ ∃ e0, SB e0 H'))) : FunP Tryz.prog f vs hs (fun v' hs' => ∃ Ht' Z' Q', hs' = Ht' :: Z' :: r' ∧ S Q' Ht' ∧ (∃ has, Z' = [(bk, blk [.string k] 9 (0, 0))] ++ [(bh, blk [.bool has] 4 (0, 0))] ∧ delTop Qs k = .ok (has, Q'))) (fun v' hs' => ∃ e Ht' Z', v' = flt e ∧ e ≠ 0 ∧ hs' = Ht' :: Z' :: r' ∧ (∃ has, Z' = [(bk, blk [.string k] 9 (0, 0))] ++ [(bh, blk [.bool has] 4 (0, 0))]) ∧ ((delTop Qs k = .error e ∧ ∃ Q', S Q' Ht') ∨ ∃ e0, SB e0 Ht')) := FunP.repost h
  (fun _ _ ⟨H', has, Q', e, h1, h2⟩ => by subst e; exact ⟨_, ⟨H', _, Q', rfl, h1, has, rfl, h2⟩, two_split.symm⟩)
  (fun _ _ ⟨e, H', has, e1, he, e2, h⟩ => by subst e2; exact ⟨_, ⟨e, H', _, e1, he, rfl, ⟨has, rfl⟩, h⟩, two_split.symm⟩)

set_option maxHeartbeats 2000000 in
set_option maxRecDepth 100000 in
theorem tr_Del {b : Nat} {P : Value} {I : Chunk → Prop} {E : Int → Chunk → Prop} {Qb : Pages} (hP : PgsA Tryz.prog 5 P I E (pgOf Qb)) (hQ : Long Qb) {Qs : Pages} {H : Chunk} {r : List Chunk} (hH : ShAt 110 b P I Qb Qs H) {k : ByteArray} : Fun Tryz.prog 56 [.pointer (some ⟨b, 0, none⟩), .string k] (H :: r) (fun v' hs' => ∃ H' has e, hs' = H' :: r ∧ v' = .tuple ⟨[.bool has, .int .i64 e]⟩ ∧ ((∃ Q', e = 0 ∧ delTop Qs k = .ok (has, Q') ∧ ShAt 110 b P I Qb Q' H') ∨ (e ≠ 0 ∧ has = false ∧ delTop Qs k = .error e ∧ ShAt 110 b P I Qb Qs H') ∨ ((e ≠ 0 → has = false) ∧ ShBad 110 b P E 0 H'))) := by
  refine Fun.enter 17 Tryz.func56 rfl Tryz.ntmps56 rfl ?_
  refine TT.seq (.region (.box rfl rfl rfl (fun b_3 => ?_)))
  refine OT.pures hT 2 rfl (.nil (.seq (.seq (.region (.alloc Tryz.zeroValue4 rfl rfl (fun b_6 => ?_))))))
  refine OT.store_all hT rfl rfl rfl rfl pl rfl rfl rfl (.inl (Nat.le_refl _)) ?_
  refine OT.nil (.seq (.seq (.region (.pures hT 2 rfl (.perm (two_join (X := [(b_6, blk [.bool false] 4 (0, 0))]) (Y := [(b_3, blk [.string k] 9 (0, 0))]) (H := H) (rest := r)) (.call Tryz.call100 rfl rfl rfl rfl (Fun.weaken sl (tr_whole hP hQ hH (R := fun Q' Z' => ∃ has, Z' = [(b_3, blk [.string k] 9 (0, 0))] ++ [(b_6, blk [.bool has] 4 (0, 0))] ∧ delTop Qs k = .ok (has, Q')) (RE := fun e => delTop Qs k = .error e) (ZE := fun Z' => ∃ has, Z' = [(b_3, blk [.string k] 9 (0, 0))] ++ [(b_6, blk [.bool has] 4 (0, 0))]) (Z := [(b_3, blk [.string k] 9 (0, 0))] ++ [(b_6, blk [.bool false] 4 (0, 0))]) Tryz.call106 (fun hT => del_post (FunP.perm two_split (tr_Del1 (k := k) (bk := b_3) (bh := b_6) (sheet_Pgs hP hQ) (hH.long hQ) hT))))) ?_))))))
  rintro v_10 hs_10 (⟨rfl, H', Z', Q', rfl, ⟨has, rfl, hR⟩, hS⟩ | ⟨e, rfl, H', Z', he, rfl, ⟨has, rfl⟩, hS⟩)
  ·
    refine OT.perm two_split (.pures hT 1 rfl (.nil (.seq (.seq (.region (.load rfl rfl (Ld.one hT rfl hz rfl) rfl ?_))))))
    refine OT.pures hT 1 rfl (.split 12 rfl (fun g12 => ?_) (fun g12 => ?_))
    ·
      refine OT.pures hT 6 rfl (.nil (.seq (.ret (.of (rs := [.tmp 4, .tmp 5]) [_, _] (H' :: r) rfl (.tmp rfl (.tmp rfl .nil)) sl ?_))))
      try dsimp only [one]
      refine ⟨H', has, 0, rfl, (by subst g12; rfl), ?_⟩
      rcases hS with hS | hS
      · exact .inl ⟨Q', rfl, hR, hS⟩
      · exact .inr (.inr ⟨fun h => absurd rfl h, hS⟩)
    ·
      refine OT.pures hT 6 rfl (.nil (.seq (.ret (.of (rs := [.tmp 4, .tmp 5]) [_, _] (H' :: r) rfl (.tmp rfl (.tmp rfl .nil)) sl ?_))))
      try dsimp only [one]
      refine ⟨H', has, 0, rfl, (by subst g12; rfl), ?_⟩
      rcases hS with hS | hS
      · exact .inl ⟨Q', rfl, hR, hS⟩
      · exact .inr (.inr ⟨fun h => absurd rfl h, hS⟩)
  ·
    refine OT.perm two_split (.pures hT 1 rfl (.nil (.seq (.seq (.region (.load rfl rfl (Ld.one hT rfl hz rfl) rfl ?_))))))
    refine OT.pures hT 1 rfl (.split 12 rfl (fun g12 => ?_) (fun g12 => ?_))
    ·
      refine OT.pures hT 6 rfl (.nil (.seq (.ret (.of (rs := [.tmp 4, .tmp 5]) [_, _] (H' :: r) rfl (.tmp rfl (.tmp rfl .nil)) sl ?_))))
      try dsimp only [one]
      refine ⟨H', false, e, rfl, (by first | rfl | exact congrArg (fun z => Value.tuple ⟨[.bool z, .int .i64 e]⟩) (by simpa using he)), ?_⟩
      rcases hS with ⟨h1, h2⟩ | hS
      · exact .inr (.inl ⟨he, rfl, h1, h2⟩)
      · exact .inr (.inr ⟨fun _ => rfl, hS⟩)
    ·
      refine OT.pures hT 6 rfl (.nil (.seq (.ret (.of (rs := [.tmp 4, .tmp 5]) [_, _] (H' :: r) rfl (.tmp rfl (.tmp rfl .nil)) sl ?_))))
      try dsimp only [one]
      refine ⟨H', false, e, rfl, (by first | rfl | exact congrArg (fun z => Value.tuple ⟨[.bool z, .int .i64 e]⟩) (by simpa using he)), ?_⟩
      rcases hS with ⟨h1, h2⟩ | hS
      · exact .inr (.inl ⟨he, rfl, h1, h2⟩)
      · exact .inr (.inr ⟨fun _ => rfl, hS⟩)

end Go.Proofs.YtihpkgmfkbkffaaGreat.Sx
end

section
namespace Go.Proofs.YtihpkgmfkbkffaaGreat.Sx
open Go Go.Sx Go.Pl
variable [Outer]

set_option maxHeartbeats 2000000 in
set_option maxRecDepth 100000 in
theorem tr_Get1 {P : Value} {I : Chunk → Prop} {E : Int → Chunk → Prop} {pg : Pg} {H : Chunk} {r : List Chunk} (hP : Pgs Tryz.prog 5 P I E pg) (hI : I H) {k : ByteArray} {A : Chunk} {bt bk bh bc : Nat} : FunP Tryz.prog 93 [.pointer (some ⟨bt, 0, none⟩), .pointer (some ⟨bk, 0, none⟩), .pointer (some ⟨bh, 0, none⟩), .pointer (some ⟨bc, 0, none⟩)] (A :: [(bt, blk [P] 107 (0, 0))] :: [(bk, blk [.string k] 9 (0, 0))] :: [(bh, blk [.bool false] 4 (0, 0))] :: [(bc, blk (encCell noCell) 113 (0, 0))] :: H :: r) (fun _ hs' => ∃ hs1, hs' = A :: hs1 ∧ ∃ o H', getTop pg k = .ok o ∧ I H' ∧ hs1 = [(bt, blk [P] 107 (0, 0))] :: [(bk, blk [.string k] 9 (0, 0))] :: [(bh, blk [.bool o.isSome] 4 (0, 0))] :: [(bc, blk (encCell (o.getD noCell)) 113 (0, 0))] :: H' :: r) (fun v' hs' => ∃ e hs1, hs' = A :: hs1 ∧ v' = flt e ∧ e ≠ 0 ∧ ∃ H', hs1 = [(bt, blk [P] 107 (0, 0))] :: [(bk, blk [.string k] 9 (0, 0))] :: [(bh, blk [.bool false] 4 (0, 0))] :: [(bc, blk (encCell noCell) 113 (0, 0))] :: H' :: r ∧ ((getTop pg k = .error e ∧ I H') ∨ ∃ e0, E e0 H')) := by
  refine FunP.enter 39 Tryz.func93 rfl Tryz.ntmps93 rfl ?_
  refine TT.seq (.region (.load rfl rfl (Ld.one hT rfl hz rfl) rfl ?_))
  refine OT.callP Tryz.call94 rfl rfl rfl rfl (FunP.pull pl (tr_root hP hI)) (fun _ _ h => by
    obtain ⟨e, H', rfl, he, rfl, ⟨h1, h2⟩ | ⟨e0, h2⟩⟩ := h
    · exact PP.of ⟨e, _, rfl, rfl, he, H', rfl, .inl ⟨getTop_err h1, h2⟩⟩ sl
    · exact PP.of ⟨e, _, rfl, rfl, he, H', rfl, .inr ⟨e0, h2⟩⟩ sl) ?_
  rintro v_8 hs_8 ⟨H1, no, rfl, rfl, hI1, hrt⟩
  have hnu := rootT_use hrt
  refine OT.pures hT 1 rfl (.nil (.seq (.seq (.seq (.region (.pures hT 1 rfl (.nil (.seq (.block (.loop (ι := Nat × Int × Chunk) (fun j => (j.1) ≤ 32 ∧ ((j.2.1) = 0 ∨ mayUse (j.2.1)) ∧ I (j.2.2) ∧ getTop pg k = getT pg k (32 - (j.1)) (j.2.1)) (fun j => 32 - (j.1)) (fun j => [(0, .pointer (some ⟨bt, 0, none⟩)), (1, .pointer (some ⟨bk, 0, none⟩)), (2, .pointer (some ⟨bh, 0, none⟩)), (3, .pointer (some ⟨bc, 0, none⟩)), (4, .int .i64 (j.2.1)), (9, .int .i64 ((j.1) : Nat))]) (fun j => A :: [(bt, blk [P] 107 (0, 0))] :: [(bk, blk [.string k] 9 (0, 0))] :: [(bh, blk [.bool false] 4 (0, 0))] :: [(bc, blk (encCell noCell) 113 (0, 0))] :: (j.2.2) :: r) (0, no, H1) ?_ (SubR.cons rfl (SubR.cons rfl (SubR.cons rfl (SubR.cons rfl (SubR.cons rfl (SubR.cons rfl (SubR.nil _))))))) sl ?_))))))))))
  · dsimp only
    exact ⟨by omega, hnu, hI1, getTop_ok hrt⟩
  rintro ⟨i, no, H1⟩ hI
  dsimp only at hI
  obtain ⟨hi, hnu, hI1, hgt⟩ := hI
  show TT _ _ _ [(0, .pointer (some ⟨bt, 0, none⟩)), (1, .pointer (some ⟨bk, 0, none⟩)), (2, .pointer (some ⟨bh, 0, none⟩)), (3, .pointer (some ⟨bc, 0, none⟩)), (4, .int .i64 no), (9, .int .i64 (i : Nat))] (A :: [(bt, blk [P] 107 (0, 0))] :: [(bk, blk [.string k] 9 (0, 0))] :: [(bh, blk [.bool false] 4 (0, 0))] :: [(bc, blk (encCell noCell) 113 (0, 0))] :: H1 :: r)
  refine TT.seq (.region (.pures hT 1 rfl (.nil (.seq (.seq (.cond rfl (fun c10 => ?_) (fun c10 => ?_)))))))
  ·
    have c10 := of_decide_eq_true c10
    obtain ⟨f, hf⟩ : ∃ f, 32 - i = f + 1 := ⟨32 - i - 1, by omega⟩
    have hf' : 32 - (i + 1) = f := by omega
    refine TT.skip (.seq (.seq (.block (.seq (.seq (.region (.pures hT 2 rfl (.nil (.seq (.cond rfl (fun c12 => ?_) (fun c12 => ?_)))))))))))
    ·
      have c12 : no = 0 := by simpa using c12
      refine TT.ret (.ofP (rs := []) [] (A :: [(bt, blk [P] 107 (0, 0))] :: [(bk, blk [.string k] 9 (0, 0))] :: [(bh, blk [.bool false] 4 (0, 0))] :: [(bc, blk (encCell noCell) 113 (0, 0))] :: H1 :: r) rfl .nil sl ?_)
      try dsimp only [one]
      exact ⟨_, rfl, none, H1, by rw [hgt, hf]; exact getT_zero c12, hI1, rfl⟩
    ·
      have c12 : no ≠ 0 := by simpa using c12
      have hno := hnu.resolve_left c12
      refine TT.skip (.seq (.seq (.region (.load rfl rfl (Ld.one hT rfl hz rfl) rfl ?_))))
      refine OT.pures hT 1 rfl ?_
      refine OT.callP Tryz.call95 rfl rfl rfl rfl (FunP.pull pl (tr_read hP hI1 (use_bound hno))) (fun _ _ h => by
        obtain ⟨e, H', rfl, he, rfl, ⟨h1, h2⟩ | ⟨e0, h2⟩⟩ := h
        · exact PP.of ⟨e, _, rfl, rfl, he, H', rfl, .inl ⟨(by rw [hgt, hf]; exact getT_err c12 h1), h2⟩⟩ sl
        · exact PP.of ⟨e, _, rfl, rfl, he, H', rfl, .inr ⟨e0, h2⟩⟩ sl) ?_
      rintro v_15 hs_15 ⟨H2, K, cs, n, rfl, rfl, hN, hI2, hrd⟩
      have hni := (readT_is hrd).nd
      have hnc := hni.cells
      have hnk := hni.keys
      have hnd := hni.kids
      obtain ⟨vc, vk, vi, KA, KB, KC, rfl, rfl, hoA, hoB, hoC⟩ := hN.is
      obtain ⟨ac, cc, e1⟩ := (hoA.row (hs := [])).len
      obtain ⟨ak, ck, e2⟩ := (hoB.row (hs := [])).len
      obtain ⟨ai, ci, e3⟩ := (hoC.row (hs := [])).len
      subst e1 e2 e3
      refine OT.perm kid_split ?_
      have hNa : ∀ hs, NdAt (KA :: KB :: KC :: hs) [.bool n.leaf, .slice ac n.cells.length cc, .slice ak n.keys.length ck, .slice ai n.kids.length ci] n := fun hs => ⟨_, _, _, rfl, hoA.row, hoB.row.there, hoC.row.there.there⟩
      refine OT.alloc Tryz.zeroValue159 rfl rfl (fun b_5 => ?_)
      refine OT.store_all hT rfl rfl rfl rfl pl rfl rfl rfl (.inl (Nat.le_refl _)) ?_
      refine OT.nil (.seq (.seq (.seq (.region (.pures hT 1 rfl (.load rfl rfl (Ld.one hT rfl hz rfl) rfl ?_))))))
      refine OT.nil (.seq (.cond rfl (fun c17 => ?_) (fun c17 => ?_)))
      ·
        have hlf : n.leaf = true := c17
        refine TT.seq (.region (.pures hT 1 rfl (.nil (.seq (.seq (.seq (.region (.load rfl rfl (Ld.struct_all hT rfl hz rfl) rfl ?_))))))))
        refine OT.load rfl rfl (Ld.one hT rfl hz rfl) rfl ?_
        refine OT.call Tryz.call96 rfl rfl rfl rfl (tr_find ((hNa _).mono fun _ _ h => (.there (.there h))) (by omega) hni.rise) ?_
        rintro v_21 hs_21 ⟨rfl, rfl⟩
        refine OT.pures hT 4 rfl (.store hT rfl rfl rfl rfl pl rfl (Nat.le_of_ble_eq_true rfl) rfl (.inl (Nat.le_refl _)) rfl ?_)
        refine OT.nil (.seq (.seq (.region (.load rfl rfl (Ld.one hT rfl hz rfl) rfl ?_))))
        refine OT.nil (.seq (.cond rfl (fun c24 => ?_) (fun c24 => ?_)))
        ·
          have c24 := of_decide_eq_true c24
          obtain ⟨z, hz1, hz2⟩ := key_cell c24
          refine TT.region (.pures hT 1 rfl (.load rfl rfl (Ld.slc hT rfl hz rfl) rfl ?_))
          refine OT.pures hT 1 rfl (.index hT rfl rfl rfl rfl hoA.row.there.there.there (by omega) (by rw [Int.toNat_natCast]; exact hz1) rfl (fun ad_28 hel_28 => ?_))
          refine OT.load rfl rfl (hel_28.ld_struct hT rfl) rfl (.store hT rfl rfl rfl rfl pl rfl (Nat.le_of_ble_eq_true rfl) rfl (.inl (Nat.le_refl _)) rfl ?_)
          refine OT.nil (.seq (.ret (.ofP (rs := []) [] (A :: [(bt, blk [P] 107 (0, 0))] :: [(bk, blk [.string k] 9 (0, 0))] :: [(bh, blk [.bool (decide ((keysOf n.cells)[(findI (keysOf n.cells) k)]? = some k))] 4 (0, 0))] :: [(bc, blk (encCell z) 113 (0, 0))] :: H2 :: r) rfl .nil sl ?_)))
          try dsimp only [one]
          have e := decide_eq_true c24
          exact ⟨_, rfl, some z, H2, by rw [hgt, hf, getT_leaf c12 hrd hlf, cellOf_at hz1 hz2], hI2, by rw [e]; rfl⟩
        ·
          have c24 := of_decide_eq_false c24
          refine TT.skip (.seq (.ret (.ofP (rs := []) [] (A :: [(bt, blk [P] 107 (0, 0))] :: [(bk, blk [.string k] 9 (0, 0))] :: [(bh, blk [.bool (decide ((keysOf n.cells)[(findI (keysOf n.cells) k)]? = some k))] 4 (0, 0))] :: [(bc, blk (encCell noCell) 113 (0, 0))] :: H2 :: r) rfl .nil sl ?_)))
          try dsimp only [one]
          have e := decide_eq_false c24
          exact ⟨_, rfl, none, H2, by rw [hgt, hf, getT_leaf c12 hrd hlf, cellOf_none c24], hI2, by rw [e]; rfl⟩
      ·
        have hlf : n.leaf = false := c17
        obtain ⟨kd, hkd, hkg, hkm⟩ := hni.kid hlf k
        have hkl := kidI_le n.keys k
        have hkk := (hni.ways hlf).1
        refine TT.skip (.seq (.draw (([(b_5, blk [.bool n.leaf, .slice ac n.cells.length cc, .slice ak n.keys.length ck, .slice ai n.kids.length ci] 159 (0, 0))] :: KC :: [(bk, blk [.string k] 9 (0, 0))] :: r)) mixed (.takes (fuel := 7) hT [0] kr kr rfl (.take (fuel := 6) hT 1 rfl rfl kr kr kr rfl (.load rfl (Ld.slc hT rfl hz rfl)) rfl ?_))))
        refine AT.take (fuel := 5) hT 2 rfl rfl kr kr kr rfl (.load rfl (Ld.struct_all hT rfl hz rfl)) rfl ?_
        refine AT.take (fuel := 4) hT 3 rfl rfl kr kr kr rfl (.load rfl (Ld.one hT rfl hz rfl)) rfl ?_
        refine AT.op (fuel := 3) 4 kr rfl sl (.call Tryz.call97 rfl rfl rfl rfl (tr_Kid ((hNa _).mono fun _ _ h => (.there (.there h))) hni hlf) ?_)
        rintro v_34 hs_34 ⟨rfl, rfl⟩
        refine OT.nil (.any (.index (fuel := 2) hT 5 rfl kr kr kr rfl rfl rfl rfl hoC.row.there (by omega) (by rw [Int.toNat_natCast]; exact hkd) rfl (fun ad_35 hel_35 => ?_)))
        refine AT.take (fuel := 1) hT 6 rfl rfl kr kr kr rfl (.load rfl (hel_35.ld_one hT rfl rfl)) rfl (.takes (fuel := 0) hT [7] kr kr rfl (.done kr sl (.blk (.seq (.region (.pures hT 2 rfl (.nil (.loop (i + 1, kd, H2) ?_ ?_ (SubR.cons rfl (SubR.cons rfl (SubR.cons rfl (SubR.cons rfl (SubR.cons rfl (SubR.cons' rfl (by (try dsimp only); exact (int_eq (by rw [wrap_i64 (by omega) (by omega)]; omega))) (SubR.nil _))))))) sl))))))))
        · dsimp only
          exact ⟨by omega, .inr hkm, hI2, by rw [hf', hgt, hf, getT_kid c12 hrd hlf, hkg]⟩
        · dsimp only
          omega
  ·
    have c10 := of_decide_eq_false c10
    obtain rfl : i = 32 := by omega
    refine TT.exit (.seq (.loop (.here (.seq (.region ?_)))))
    refine OT.callP Tryz.call98 rfl rfl rfl rfl (guard_Break) (fun _ _ h => by
      obtain ⟨rfl, rfl⟩ := h
      exact PP.of ⟨8, _, rfl, by rw [brk_same (by decide)], by decide, H1, rfl, .inl ⟨by rw [hgt]; rfl, hI1⟩⟩ sl) ?_
    rintro v_38 hs_38 ⟨hb, _⟩
    exact hb.elim

set_option maxHeartbeats 2000000 in
set_option maxRecDepth 100000 in
theorem tr_Get {P : Value} {I : Chunk → Prop} {E : Int → Chunk → Prop} {pg : Pg} {H : Chunk} {r : List Chunk} (hP : Pgs Tryz.prog 5 P I E pg) (hI : I H) {k : ByteArray}  : Fun Tryz.prog 53 [P, .string k] (H :: r) (fun v' hs' => ∃ H' o e, hs' = H' :: r ∧ v' = .tuple ⟨[.agg ⟨encCell (o.getD noCell)⟩, .bool o.isSome, .int .i64 e]⟩ ∧ ((e = 0 ∧ getTop pg k = .ok o ∧ I H') ∨ (e ≠ 0 ∧ o = none ∧ ((getTop pg k = .error e ∧ I H') ∨ ∃ e0, E e0 H')))) := by
  refine Fun.enter 12 Tryz.func53 rfl Tryz.ntmps53 rfl ?_
  obtain ⟨ti, ui, hPe⟩ := hP.iface
  subst hPe
  refine TT.seq (.region (.box rfl rfl rfl (fun b_2 => ?_)))
  refine OT.box rfl rfl rfl (fun b_3 => ?_)
  refine OT.alloc Tryz.zeroValue113 rfl rfl (fun b_4 => ?_)
  refine OT.alloc Tryz.zeroValue4 rfl rfl (fun b_5 => ?_)
  refine OT.pures hT 1 rfl (.nil (.seq (.seq (.region (.pures hT 1 rfl (.call Tryz.call84 rfl rfl rfl rfl ((guard_Try (N := fun _ hs1 => ∃ o H', getTop pg k = .ok o ∧ I H' ∧ hs1 = [(b_2, blk [.iface ti ui] 107 (0, 0))] :: [(b_3, blk [.string k] 9 (0, 0))] :: [(b_5, blk [.bool o.isSome] 4 (0, 0))] :: [(b_4, blk (encCell (o.getD noCell)) 113 (0, 0))] :: H' :: r) (E := fun e hs1 => e ≠ 0 ∧ ∃ H', hs1 = [(b_2, blk [.iface ti ui] 107 (0, 0))] :: [(b_3, blk [.string k] 9 (0, 0))] :: [(b_5, blk [.bool false] 4 (0, 0))] :: [(b_4, blk (encCell noCell) 113 (0, 0))] :: H' :: r ∧ ((getTop pg k = .error e ∧ I H') ∨ ∃ e0, E e0 H')) Tryz.call93 (fun A => FunP.weaken (by repeat (first | exact Sel.refl _ | refine Sel.pull (by repeat (first | exact Pull.head | apply Pull.tail)) ?_)) (tr_Get1 (A := A) (k := k) (bt := b_2) (bk := b_3) (bh := b_5) (bc := b_4) hP hI)))) ?_))))))
  rintro v_8 hs_8 (⟨rfl, _, o, H', hgt, hI', rfl⟩ | ⟨e, rfl, he, H', rfl, hbad⟩)
  ·
    refine OT.pures hT 1 rfl (.nil (.seq (.seq (.draw (r) mixed (.takes (fuel := 5) hT [2] kr kr rfl (.all (fuel := 4) [0, 1] kr (by decide) sl ?_))))))
    intro i hi
    simp only [List.mem_cons, List.not_mem_nil, or_false] at hi
    rcases hi with rfl | rfl
    ·
      refine ⟨_, rfl, ?_⟩
      refine OT.load rfl rfl (Ld.struct_all hT rfl hz rfl) rfl ?_
      refine OT.nil (.any (.all (fuel := 3) [1, 3] kr (by decide) sl ?_))
      intro i hi
      simp only [List.mem_cons, List.not_mem_nil, or_false] at hi
      rcases hi with rfl | rfl
      ·
        refine ⟨_, rfl, ?_⟩
        refine OT.load rfl rfl (Ld.one hT rfl hz rfl) rfl ?_
        refine OT.nil (.any (.op (fuel := 2) 3 kr rfl sl (.store_all hT rfl rfl rfl rfl pl rfl rfl rfl (.inl (Nat.le_refl _)) ?_)))
        refine OT.nil (.any (.op (fuel := 1) 4 kr rfl sl (.store_all hT rfl rfl rfl rfl pl rfl rfl rfl (.inl (Nat.le_refl _)) ?_)))
        refine OT.nil (.any (.takes (fuel := 0) hT [5] kr kr rfl (.done kr sl (.seq (.ret (.of (rs := [.cell 4 113, .cell 5 4, .tmp 6]) [_, _, _] (H' :: r) rfl (.cell rfl (Ld.struct_all hT rfl hz rfl) (.cell rfl (Ld.one hT rfl hz rfl) (.tmp rfl .nil))) sl ?_))))))
        try dsimp only [one]
        exact ⟨H', o, 0, rfl, rfl, .inl ⟨rfl, hgt, hI'⟩⟩
      ·
        refine ⟨_, rfl, ?_⟩
        refine OT.store_all hT rfl rfl rfl rfl pl rfl rfl rfl (.inl (Nat.le_refl _)) ?_
        refine OT.nil (.any (.op (fuel := 2) 1 kr rfl sl (.load rfl rfl (Ld.one hT rfl hz rfl) rfl ?_)))
        refine OT.nil (.any (.op (fuel := 1) 4 kr rfl sl (.store_all hT rfl rfl rfl rfl pl rfl rfl rfl (.inl (Nat.le_refl _)) ?_)))
        refine OT.nil (.any (.takes (fuel := 0) hT [5] kr kr rfl (.done kr sl (.seq (.ret (.of (rs := [.cell 4 113, .cell 5 4, .tmp 6]) [_, _, _] (H' :: r) rfl (.cell rfl (Ld.struct_all hT rfl hz rfl) (.cell rfl (Ld.one hT rfl hz rfl) (.tmp rfl .nil))) sl ?_))))))
        try dsimp only [one]
        exact ⟨H', o, 0, rfl, rfl, .inl ⟨rfl, hgt, hI'⟩⟩
    ·
      refine ⟨_, rfl, ?_⟩
      refine OT.load rfl rfl (Ld.one hT rfl hz rfl) rfl ?_
      refine OT.nil (.any (.op (fuel := 3) 0 kr rfl sl (.load rfl rfl (Ld.struct_all hT rfl hz rfl) rfl ?_)))
      refine OT.nil (.any (.op (fuel := 2) 3 kr rfl sl (.store_all hT rfl rfl rfl rfl pl rfl rfl rfl (.inl (Nat.le_refl _)) ?_)))
      refine OT.nil (.any (.op (fuel := 1) 4 kr rfl sl (.store_all hT rfl rfl rfl rfl pl rfl rfl rfl (.inl (Nat.le_refl _)) ?_)))
      refine OT.nil (.any (.takes (fuel := 0) hT [5] kr kr rfl (.done kr sl (.seq (.ret (.of (rs := [.cell 4 113, .cell 5 4, .tmp 6]) [_, _, _] (H' :: r) rfl (.cell rfl (Ld.struct_all hT rfl hz rfl) (.cell rfl (Ld.one hT rfl hz rfl) (.tmp rfl .nil))) sl ?_))))))
      try dsimp only [one]
      exact ⟨H', o, 0, rfl, rfl, .inl ⟨rfl, hgt, hI'⟩⟩
  ·
    refine OT.pures hT 1 rfl (.nil (.seq (.seq (.draw (r) mixed (.takes (fuel := 5) hT [2] kr kr rfl (.all (fuel := 4) [0, 1] kr (by decide) sl ?_))))))
    intro i hi
    simp only [List.mem_cons, List.not_mem_nil, or_false] at hi
    rcases hi with rfl | rfl
    ·
      refine ⟨_, rfl, ?_⟩
      refine OT.load rfl rfl (Ld.struct_all hT rfl hz rfl) rfl ?_
      refine OT.nil (.any (.all (fuel := 3) [1, 3] kr (by decide) sl ?_))
      intro i hi
      simp only [List.mem_cons, List.not_mem_nil, or_false] at hi
      rcases hi with rfl | rfl
      ·
        refine ⟨_, rfl, ?_⟩
        refine OT.load rfl rfl (Ld.one hT rfl hz rfl) rfl ?_
        refine OT.nil (.any (.op (fuel := 2) 3 kr rfl sl (.store_all hT rfl rfl rfl rfl pl rfl rfl rfl (.inl (Nat.le_refl _)) ?_)))
        refine OT.nil (.any (.op (fuel := 1) 4 kr rfl sl (.store_all hT rfl rfl rfl rfl pl rfl rfl rfl (.inl (Nat.le_refl _)) ?_)))
        refine OT.nil (.any (.takes (fuel := 0) hT [5] kr kr rfl (.done kr sl (.seq (.ret (.of (rs := [.cell 4 113, .cell 5 4, .tmp 6]) [_, _, _] (H' :: r) rfl (.cell rfl (Ld.struct_all hT rfl hz rfl) (.cell rfl (Ld.one hT rfl hz rfl) (.tmp rfl .nil))) sl ?_))))))
        try dsimp only [one]
        exact ⟨H', none, e, rfl, rfl, .inr ⟨he, rfl, hbad⟩⟩
      ·
        refine ⟨_, rfl, ?_⟩
        refine OT.store_all hT rfl rfl rfl rfl pl rfl rfl rfl (.inl (Nat.le_refl _)) ?_
        refine OT.nil (.any (.op (fuel := 2) 1 kr rfl sl (.load rfl rfl (Ld.one hT rfl hz rfl) rfl ?_)))
        refine OT.nil (.any (.op (fuel := 1) 4 kr rfl sl (.store_all hT rfl rfl rfl rfl pl rfl rfl rfl (.inl (Nat.le_refl _)) ?_)))
        refine OT.nil (.any (.takes (fuel := 0) hT [5] kr kr rfl (.done kr sl (.seq (.ret (.of (rs := [.cell 4 113, .cell 5 4, .tmp 6]) [_, _, _] (H' :: r) rfl (.cell rfl (Ld.struct_all hT rfl hz rfl) (.cell rfl (Ld.one hT rfl hz rfl) (.tmp rfl .nil))) sl ?_))))))
        try dsimp only [one]
        exact ⟨H', none, e, rfl, rfl, .inr ⟨he, rfl, hbad⟩⟩
    ·
      refine ⟨_, rfl, ?_⟩
      refine OT.load rfl rfl (Ld.one hT rfl hz rfl) rfl ?_
      refine OT.nil (.any (.op (fuel := 3) 0 kr rfl sl (.load rfl rfl (Ld.struct_all hT rfl hz rfl) rfl ?_)))
      refine OT.nil (.any (.op (fuel := 2) 3 kr rfl sl (.store_all hT rfl rfl rfl rfl pl rfl rfl rfl (.inl (Nat.le_refl _)) ?_)))
      refine OT.nil (.any (.op (fuel := 1) 4 kr rfl sl (.store_all hT rfl rfl rfl rfl pl rfl rfl rfl (.inl (Nat.le_refl _)) ?_)))
      refine OT.nil (.any (.takes (fuel := 0) hT [5] kr kr rfl (.done kr sl (.seq (.ret (.of (rs := [.cell 4 113, .cell 5 4, .tmp 6]) [_, _, _] (H' :: r) rfl (.cell rfl (Ld.struct_all hT rfl hz rfl) (.cell rfl (Ld.one hT rfl hz rfl) (.tmp rfl .nil))) sl ?_))))))
      try dsimp only [one]
      exact ⟨H', none, e, rfl, rfl, .inr ⟨he, rfl, hbad⟩⟩

end Go.Proofs.YtihpkgmfkbkffaaGreat.Sx
end

section
namespace Go.Proofs.YtihpkgmfkbkffaaGreat.Sx
open Go Go.Sx Go.Pl
variable [Outer]

set_option maxHeartbeats 1000000 in
set_option maxRecDepth 100000 in
theorem sl_IndexI {v : Value} {l : List Int} {x : Int} {hs : List Chunk} (hr : Row Go.Sx.encI 1 hs v l) (hl : l.length ≤ 1000000) : Fun Tryz.prog 159 [v, .int .i64 x] hs (fun v' hs' => (∃ i : Int, v' = .int .i64 i ∧ decide (0 ≤ i) = decide (x ∈ l)) ∧ hs = hs') := by
  refine Fun.enter 19 Tryz.func159 rfl Tryz.ntmps159 rfl ?_
  obtain ⟨a0, c0, hv⟩ := hr.len
  subst hv
  refine TT.seq (.region (.pures hT 1 rfl (.nil (.seq (.seq (.seq (.region (.pures hT 3 rfl (.nil (.seq (.block (.loop (ι := Nat) (fun j => (j) ≤ l.length ∧ x ∉ l.take (j)) (fun j => l.length - (j)) (fun j => [(0, .slice a0 l.length c0), (1, .int .i64 x), (7, .int .i64 (l.length : Nat)), (8, .int .i64 ((j) : Nat))]) (fun j => hs) (0) ?_ (SubR.cons rfl (SubR.cons rfl (SubR.cons rfl (SubR.cons rfl (SubR.nil _))))) sl ?_))))))))))))
  · exact ⟨Nat.zero_le _, by simp⟩
  rintro i ⟨hi, hn⟩
  show TT _ _ _ [(0, .slice a0 l.length c0), (1, .int .i64 x), (7, .int .i64 (l.length : Nat)), (8, .int .i64 (i : Nat))] (hs)
  refine TT.seq (.region (.pures hT 1 rfl (.nil (.seq (.seq (.cond rfl (fun c9 => ?_) (fun c9 => ?_)))))))
  ·
    have c9 := of_decide_eq_true c9
    obtain ⟨y, hy⟩ := nth (l := l) (i := i) (by omega)
    refine TT.skip (.seq (.seq (.block (.seq (.region (.pures hT 2 rfl (.nil (.seq (.seq (.region (.pures hT 3 rfl (.index hT rfl rfl rfl rfl hr (by omega) (by rw [Int.toNat_natCast]; exact hy) rfl (fun ad_14 hel_14 => ?_)))))))))))))
    refine OT.load rfl rfl (hel_14.ld_one hT rfl rfl) rfl (.pures hT 1 rfl (.nil (.seq (.cond rfl (fun c16 => ?_) (fun c16 => ?_)))))
    ·
      have c16 : x = y := by simpa using c16
      refine TT.seq (.region (.pures hT 2 rfl (.nil (.seq (.ret (.of (rs := [.tmp 4]) [_] hs rfl (.tmp rfl .nil) sl ?_))))))
      try dsimp only [one]
      refine ⟨⟨(i : Nat), rfl, ?_⟩, rfl⟩
      subst c16
      exact decide_eq_decide.2 ⟨fun _ => List.mem_of_getElem? hy, fun _ => by omega⟩
    ·
      have c16 : ¬ x = y := by simpa using c16
      refine TT.skip (.blk (.seq (.region (.pures hT 2 rfl (.nil (.loop (i + 1) ?_ ?_ (SubR.cons rfl (SubR.cons rfl (SubR.cons rfl (SubR.cons' rfl (by (try dsimp only); exact (int_eq (by rw [wrap_i64 (by omega) (by omega)]; omega))) (SubR.nil _))))) sl))))))
      · exact ⟨by omega, by rw [List.take_add_one, hy]; simp only [Option.toList_some, List.mem_append, List.mem_singleton]; exact fun h => h.elim hn c16⟩
      · omega
  ·
    have c9 := of_decide_eq_false c9
    obtain rfl : i = l.length := by omega
    rw [List.take_of_length_le (Nat.le_refl _)] at hn
    refine TT.exit (.seq (.loop (.here (.seq (.seq (.region (.pures hT 1 rfl (.nil (.seq (.ret (.of (rs := [.tmp 4]) [_] hs rfl (.tmp rfl .nil) sl ?_)))))))))))
    try dsimp only [one]
    exact ⟨⟨-1, rfl, decide_eq_decide.2 ⟨fun h => by omega, fun h => absurd h hn⟩⟩, rfl⟩

set_option maxHeartbeats 1000000 in
set_option maxRecDepth 100000 in
theorem sl_ContainsI {v : Value} {l : List Int} {x : Int} {hs : List Chunk} (hr : Row Go.Sx.encI 1 hs v l) (hl : l.length ≤ 1000000) : Fun Tryz.prog 119 [v, .int .i64 x] hs (fun v' hs' => v' = .bool (decide (x ∈ l)) ∧ hs = hs') := by
  refine Fun.enter 9 Tryz.func119 rfl Tryz.ntmps119 rfl ?_
  refine TT.seq (.region (.pures hT 1 rfl (.nil (.seq (.seq (.region (.pures hT 2 rfl (.call Tryz.call159 rfl rfl rfl rfl (sl_IndexI hr hl) ?_))))))))
  rintro v_7 hs_7 ⟨⟨i, rfl, hi⟩, rfl⟩
  refine OT.pures hT 2 rfl (.nil (.seq (.ret (.of (rs := [.tmp 4]) [_] hs rfl (.tmp rfl .nil) sl ?_))))
  try dsimp only [one]
  exact ⟨congrArg Value.bool hi, rfl⟩

set_option maxHeartbeats 4000000 in
set_option maxRecDepth 100000 in
theorem tr_throughS {P : Value} {I : Chunk → Prop} {E : Int → Chunk → Prop} {pg : Pg} (hP : Pgs Tryz.prog 5 P I E pg) {bw : Nat} {f : Nat} (ih : ∀ {st : Gone} {vn vc : Value} {H K1 K2 : Chunk} {r : List Chunk} {no : Int}, mayUse no → 32 ≤ st.1.length + f → st.1.length ≤ 32 → st.2.length ≤ 256 * st.1.length → I H → Own Go.Sx.encI 1 3 vn st.1 K1 → Own encCell 8 113 vc st.2 K2 → FunP Tryz.prog 156 [.pointer (some ⟨bw, 0, none⟩), .int .i64 no] (H :: [(bw, blk [P, vn, vc] 182 (0, 0))] :: K1 :: K2 :: r) (fun v' hs' => ∃ H' vn' vc' K1' K2' g, hs' = H' :: [(bw, blk [P, vn', vc'] 182 (0, 0))] :: K1' :: K2' :: r ∧ v' = .tuple ⟨[]⟩ ∧ throughT pg f no st = .ok g ∧ Own Go.Sx.encI 1 3 vn' g.1 K1' ∧ Own encCell 8 113 vc' g.2 K2' ∧ I H') (Broke I E (fun e => throughT pg f no st = .error e) r)) {st : Gone} {vn vc : Value} {H K1 K2 : Chunk} {r : List Chunk} {no : Int} (hno : mayUse no) (hf : 32 ≤ st.1.length + (f + 1)) (hs1 : st.1.length ≤ 32) (hs2 : st.2.length ≤ 256 * st.1.length) (hI : I H) (ho1 : Own Go.Sx.encI 1 3 vn st.1 K1) (ho2 : Own encCell 8 113 vc st.2 K2) : FunP Tryz.prog 156 [.pointer (some ⟨bw, 0, none⟩), .int .i64 no] (H :: [(bw, blk [P, vn, vc] 182 (0, 0))] :: K1 :: K2 :: r) (fun v' hs' => ∃ H' vn' vc' K1' K2' g, hs' = H' :: [(bw, blk [P, vn', vc'] 182 (0, 0))] :: K1' :: K2' :: r ∧ v' = .tuple ⟨[]⟩ ∧ throughT pg (f + 1) no st = .ok g ∧ Own Go.Sx.encI 1 3 vn' g.1 K1' ∧ Own encCell 8 113 vc' g.2 K2' ∧ I H') (Broke I E (fun e => throughT pg (f + 1) no st = .error e) r) := by
  refine FunP.enter 60 Tryz.func156 rfl Tryz.ntmps156 rfl ?_
  obtain ⟨a1, c1, e1⟩ := (ho1.row (hs := [])).len
  subst e1
  refine TT.seq (.region (.pures hT 3 rfl (.load rfl rfl (Ld.slc hT rfl hz rfl) rfl ?_)))
  refine OT.pures hT 3 rfl (.split 13 rfl (fun g13 => ?_) (fun g13 => ?_))
  ·
    have g13 := of_decide_eq_true g13
    refine OT.pures hT 3 rfl (.load rfl rfl (Ld.slc hT rfl hz rfl) rfl ?_)
    refine OT.pures hT 1 rfl (.call Tryz.call119 rfl rfl rfl rfl (sl_ContainsI ho1.row.there.there (by omega)) ?_)
    rintro v_19 hs_19 ⟨rfl, rfl⟩
    refine OT.pures hT 2 rfl ?_
    refine OT.callP Tryz.call118 rfl rfl rfl rfl (guard_CheckB) (fun _ _ h => by
      obtain ⟨hb, rfl, rfl⟩ := h
      have hb : no ∈ st.1 := by simpa using hb
      exact PP.of ⟨8, H, by rw [brk_same (by decide)], by decide, rfl, .inl ⟨through_bad (.inr hb), hI⟩⟩ sl) ?_
    rintro v_22 hs_22 ⟨hb, rfl, rfl⟩
    have hb : ¬ no ∈ st.1 := by simpa using hb
    have hok : ¬ (32 ≤ st.1.length ∨ no ∈ st.1) := by
      rintro (h | h)
      · omega
      · exact hb h
    refine OT.nil (.seq (.seq (.region (.pures hT 4 rfl (.load rfl rfl (Ld.slc hT rfl hz rfl) rfl ?_)))))
    refine OT.pures hT 1 rfl ?_
    refine OT.buildSlice (enc := Go.Sx.encI) (xs := [no]) (xos := [.tmp 28]) el22 rfl rfl rfl rfl rfl (by simp [Value.cells]) (fun _ _ => rfl) rfl (by decide) rfl (fun v_29 H_29 ho_29 => ?_)
    refine OT.append hT el22 rfl rfl rfl rfl pl ho1 (ho_29.row) rfl (by simp only [List.length_singleton]; omega) rfl (fun v_30 H_30 ho_30 => ?_)
    refine OT.pures hT 2 rfl ?_
    obtain ⟨a30, c30, rfl⟩ := (ho_30.row (hs := [])).len
    refine OT.store hT rfl rfl rfl rfl pl rfl (Nat.le_of_ble_eq_true rfl) rfl (.inl (Nat.le_refl _)) rfl ?_
    refine OT.nil (.seq (.seq (.region (.pures hT 3 rfl (.load rfl rfl (Ld.one hT rfl hz rfl) rfl ?_)))))
    refine OT.pures hT 1 rfl ?_
    refine OT.callP Tryz.call95 rfl rfl rfl rfl (FunP.pull pl (tr_read hP hI (use_bound hno))) (fun _ _ h => by
      obtain ⟨e, H', rfl, he, rfl, ⟨h1, h2⟩ | h2⟩ := h
      · exact PP.of ⟨e, H', rfl, he, rfl, .inl ⟨through_err hok h1, h2⟩⟩ sl
      · exact PP.of ⟨e, H', rfl, he, rfl, .inr h2⟩ sl) ?_
    rintro v_38 hs_38 ⟨H2, K, cs, n, rfl, rfl, hN, hI2, hrd⟩
    have hni := (readT_is hrd).nd
    have hnc := hni.cells
    have hnd := hni.kids
    obtain ⟨vc2, vk, vi, KA, KB, KC, rfl, rfl, hoA, hoB, hoC⟩ := hN.is
    obtain ⟨ac, cc, e1⟩ := (hoA.row (hs := [])).len
    obtain ⟨ak, ck, e2⟩ := (hoB.row (hs := [])).len
    obtain ⟨ai, ci, e3⟩ := (hoC.row (hs := [])).len
    subst e1 e2 e3
    refine OT.perm kid_split (.alloc Tryz.zeroValue159 rfl rfl (fun b_4 => ?_))
    refine OT.store_all hT rfl rfl rfl rfl pl rfl rfl rfl (.inl (Nat.le_refl _)) ?_
    refine OT.nil (.seq (.seq (.drawD [10] (([(bw, blk [P, .slice a30 (st.1 ++ [no]).length c30, vc] 182 (0, 0))] :: [(b_4, blk [.bool n.leaf, .slice ac n.cells.length cc, .slice ak n.keys.length ck, .slice ai n.kids.length ci] 159 (0, 0))] :: r)) mixed (.takes (fuel := 6) hT [0, 1, 2, 3, 5] kr kr rfl (.take (fuel := 5) hT 4 rfl rfl kr kr kr rfl (.load rfl (Ld.slc hT rfl hz rfl)) rfl ?_)))))
    refine AT.take (fuel := 4) hT 6 rfl rfl kr kr kr rfl (.load rfl (Ld.slc hT rfl hz rfl)) rfl ?_
    refine AT.op (fuel := 3) 7 kr rfl sl ?_
    refine OT.append hT el122 rfl rfl rfl rfl pl ho2 (hoA.row.there.there) (ones_cells _) (by omega) rfl (fun v_46 H_46 ho_46 => ?_)
    refine OT.nil (.any (.takes (fuel := 1) hT [8, 9] kr kr rfl (.op (fuel := 0) 10 kr rfl sl ?_)))
    obtain ⟨a46, c46, rfl⟩ := (ho_46.row (hs := [])).len
    refine OT.store hT rfl rfl rfl rfl pl rfl (Nat.le_of_ble_eq_true rfl) rfl (.inl (Nat.le_refl _)) rfl ?_
    refine OT.nil (.any (.doneD kr kr (.seq (.seq (.region (.pures hT 1 rfl (.load rfl rfl (Ld.slc hT rfl hz rfl) rfl ?_)))))))
    refine OT.pures hT 2 rfl (.nil (.seq (.block (.loop (ι := Nat × Gone × Value × Value × Chunk × Chunk × Chunk) (fun j => (j.1) ≤ n.kids.length ∧ kidsT pg f (n.kids.take (j.1)) (st.1 ++ [no], st.2 ++ n.cells) = .ok (j.2.1) ∧ Own Go.Sx.encI 1 3 (j.2.2.1) (j.2.1).1 (j.2.2.2.2.2.1) ∧ Own encCell 8 113 (j.2.2.2.1) (j.2.1).2 (j.2.2.2.2.2.2) ∧ I (j.2.2.2.2.1)) (fun j => n.kids.length - (j.1)) (fun j => [(0, .pointer (some ⟨bw, 0, none⟩)), (50, .slice ai n.kids.length ci), (51, .int .i64 (n.kids.length : Nat)), (52, .int .i64 ((j.1) : Nat))]) (fun j => (j.2.2.2.2.1) :: [(bw, blk [P, (j.2.2.1), (j.2.2.2.1)] 182 (0, 0))] :: (j.2.2.2.2.2.1) :: (j.2.2.2.2.2.2) :: KC :: r) (0, (st.1 ++ [no], st.2 ++ n.cells), _, _, H2, H_30, H_46) ?_ (SubR.cons rfl (SubR.cons rfl (SubR.cons rfl (SubR.cons rfl (SubR.nil _))))) sl ?_))))
    · dsimp only
      exact ⟨Nat.zero_le _, kidsT_nil, ho_30, ho_46, hI2⟩
    rintro ⟨i, g, vn1, vc1, H3, K3, K4⟩ hI
    dsimp only at hI
    obtain ⟨hi, hk, hoN, hoL, hI3⟩ := hI
    show TT _ _ _ [(0, .pointer (some ⟨bw, 0, none⟩)), (50, .slice ai n.kids.length ci), (51, .int .i64 (n.kids.length : Nat)), (52, .int .i64 (i : Nat))] (H3 :: [(bw, blk [P, vn1, vc1] 182 (0, 0))] :: K3 :: K4 :: KC :: r)
    refine TT.seq (.region (.pures hT 1 rfl (.nil (.seq (.seq (.cond rfl (fun c53 => ?_) (fun c53 => ?_)))))))
    ·
      have c53 := of_decide_eq_true c53
      obtain ⟨x, hx⟩ := nth (l := n.kids) (i := i) (by omega)
      obtain ⟨ga, gb, gc⟩ := kidsT_grew (by simp only [List.length_append, List.length_singleton]; omega) (by simp only [List.length_append, List.length_singleton]; omega) hk
      simp only [List.length_append, List.length_singleton] at ga
      refine TT.skip (.seq (.seq (.block (.seq (.region (.index hT rfl rfl rfl rfl hoC.row.there.there.there.there (by omega) (by rw [Int.toNat_natCast]; exact hx) rfl (fun ad_54 hel_54 => ?_)))))))
      refine OT.load rfl rfl (hel_54.ld_one hT rfl rfl) rfl (.pures hT 1 rfl (.nil (.seq (.region (.pures hT 2 rfl ?_)))))
      refine OT.callP Tryz.call156 rfl rfl rfl rfl (FunP.pull pl (ih (hni.all_kids (List.mem_of_getElem? hx)) (by omega) gb gc hI3 hoN hoL)) (fun _ _ h => by
        obtain ⟨e, H', rfl, he, rfl, ⟨h1, h2⟩ | h2⟩ := h
        · exact PP.of ⟨e, H', rfl, he, rfl, .inl ⟨(by rw [through_in hok hrd]; exact kidsT_stop (i := i + 1) ((kidsT_step hx hk).trans h1)), h2⟩⟩ sl
        · exact PP.of ⟨e, H', rfl, he, rfl, .inr h2⟩ sl) ?_
      rintro v_58 hs_58 ⟨H4, vn2, vc3, K5, K6, g2, rfl, rfl, ht, hoN2, hoL2, hI4⟩
      refine OT.nil (.blk (.seq (.region (.pures hT 2 rfl (.nil (.loop (i + 1, g2, vn2, vc3, H4, K5, K6) ?_ ?_ (SubR.cons rfl (SubR.cons rfl (SubR.cons rfl (SubR.cons' rfl (by (try dsimp only); exact (int_eq (by rw [wrap_i64 (by omega) (by omega)]; omega))) (SubR.nil _))))) sl))))))
      · dsimp only
        exact ⟨by omega, (kidsT_step hx hk).trans ht, hoN2, hoL2, hI4⟩
      · dsimp only
        omega
    ·
      have c53 := of_decide_eq_false c53
      obtain rfl : i = n.kids.length := by omega
      rw [List.take_of_length_le (Nat.le_refl _)] at hk
      refine TT.exit (.seq (.loop (.here (.ofP (rs := []) [] (H3 :: [(bw, blk [P, vn1, vc1] 182 (0, 0))] :: K3 :: K4 :: r) rfl .nil sl ?_))))
      try dsimp only [one]
      exact ⟨H3, vn1, vc1, K3, K4, g, rfl, rfl, (through_in hok hrd).trans hk, hoN, hoL, hI3⟩
  ·
    have g13 := of_decide_eq_false g13
    refine OT.pures hT 8 rfl ?_
    refine OT.callP Tryz.call118 rfl rfl rfl rfl (guard_Fails) (fun _ _ h => by
      obtain ⟨rfl, rfl⟩ := h
      exact PP.of ⟨8, H, by rw [brk_same (by decide)], by decide, rfl, .inl ⟨through_bad (.inl (by omega)), hI⟩⟩ sl) ?_
    rintro v_22 hs_22 ⟨hb, _⟩
    exact hb.elim

set_option maxHeartbeats 1000000 in
set_option maxRecDepth 100000 in
theorem tr_through0 {P : Value} {I : Chunk → Prop} {E : Int → Chunk → Prop} {pg : Pg} (hP : Pgs Tryz.prog 5 P I E pg) {bw : Nat} {st : Gone} {vn vc : Value} {H K1 K2 : Chunk} {r : List Chunk} {no : Int} (hf : 32 ≤ st.1.length) (hs1 : st.1.length ≤ 32) (hI : I H) (ho1 : Own Go.Sx.encI 1 3 vn st.1 K1) : FunP Tryz.prog 156 [.pointer (some ⟨bw, 0, none⟩), .int .i64 no] (H :: [(bw, blk [P, vn, vc] 182 (0, 0))] :: K1 :: K2 :: r) (fun v' hs' => ∃ H' vn' vc' K1' K2' g, hs' = H' :: [(bw, blk [P, vn', vc'] 182 (0, 0))] :: K1' :: K2' :: r ∧ v' = .tuple ⟨[]⟩ ∧ throughT pg 0 no st = .ok g ∧ Own Go.Sx.encI 1 3 vn' g.1 K1' ∧ Own encCell 8 113 vc' g.2 K2' ∧ I H') (Broke I E (fun e => throughT pg 0 no st = .error e) r) := by
  refine FunP.enter 60 Tryz.func156 rfl Tryz.ntmps156 rfl ?_
  obtain ⟨a1, c1, e1⟩ := (ho1.row (hs := [])).len
  subst e1
  refine TT.seq (.region (.pures hT 3 rfl (.load rfl rfl (Ld.slc hT rfl hz rfl) rfl ?_)))
  refine OT.pures hT 3 rfl (.split 13 rfl (fun g13 => ?_) (fun g13 => ?_))
  ·
    exact absurd (of_decide_eq_true g13) (by omega)
  ·
    refine OT.pures hT 8 rfl ?_
    refine OT.callP Tryz.call118 rfl rfl rfl rfl (guard_Fails) (fun _ _ h => by
      obtain ⟨rfl, rfl⟩ := h
      exact PP.of ⟨8, H, by rw [brk_same (by decide)], by decide, rfl, .inl ⟨rfl, hI⟩⟩ sl) ?_
    rintro v_22 hs_22 ⟨hb, _⟩
    exact hb.elim

theorem tr_through {P : Value} {I : Chunk → Prop} {E : Int → Chunk → Prop} {pg : Pg} (hP : Pgs Tryz.prog 5 P I E pg) {bw : Nat} : ∀ (f : Nat), ∀ {st : Gone} {vn vc : Value} {H K1 K2 : Chunk} {r : List Chunk} {no : Int}, mayUse no → 32 ≤ st.1.length + f → st.1.length ≤ 32 → st.2.length ≤ 256 * st.1.length → I H → Own Go.Sx.encI 1 3 vn st.1 K1 → Own encCell 8 113 vc st.2 K2 → FunP Tryz.prog 156 [.pointer (some ⟨bw, 0, none⟩), .int .i64 no] (H :: [(bw, blk [P, vn, vc] 182 (0, 0))] :: K1 :: K2 :: r) (fun v' hs' => ∃ H' vn' vc' K1' K2' g, hs' = H' :: [(bw, blk [P, vn', vc'] 182 (0, 0))] :: K1' :: K2' :: r ∧ v' = .tuple ⟨[]⟩ ∧ throughT pg f no st = .ok g ∧ Own Go.Sx.encI 1 3 vn' g.1 K1' ∧ Own encCell 8 113 vc' g.2 K2' ∧ I H') (Broke I E (fun e => throughT pg f no st = .error e) r) := by
  intro f
  induction f with
  | zero => intro st vn vc H K1 K2 r no _ hf hs1 _ hI ho1 _; exact tr_through0 hP (by omega) hs1 hI ho1
  | succ f ih => intro st vn vc H K1 K2 r no hno hf hs1 hs2 hI ho1 ho2; exact tr_throughS hP ih hno hf hs1 hs2 hI ho1 ho2

theorem tr_throughN {P : Value} {I : Chunk → Prop} {E : Int → Chunk → Prop} {pg : Pg} (hP : Pgs Tryz.prog 5 P I E pg) {bw : Nat} {H : Chunk} {r : List Chunk} {no : Int} (hno : mayUse no) (hI : I H) : FunP Tryz.prog 156 [.pointer (some ⟨bw, 0, none⟩), .int .i64 no] (H :: [(bw, blk [P, .slice none 0 0, .slice none 0 0] 182 (0, 0))] :: r) (fun v' hs' => ∃ H' vn' vc' K1' K2' g, hs' = H' :: [(bw, blk [P, vn', vc'] 182 (0, 0))] :: K1' :: K2' :: r ∧ v' = .tuple ⟨[]⟩ ∧ throughT pg 32 no ([], []) = .ok g ∧ Own Go.Sx.encI 1 3 vn' g.1 K1' ∧ Own encCell 8 113 vc' g.2 K2' ∧ I H') (Broke I E (fun e => throughT pg 32 no ([], []) = .error e) r) :=
  FunP.perm (hs' := H :: [(bw, blk [P, .slice none 0 0, .slice none 0 0] 182 (0, 0))] :: [] :: [] :: r) (List.Perm.of_eq rfl) (tr_through hP 32 (st := ([], [])) hno (by simp) (by simp) (by simp) hI Own.nil Own.nil)

end Go.Proofs.YtihpkgmfkbkffaaGreat.Sx
end

section
namespace Go.Proofs.YtihpkgmfkbkffaaGreat.Sx
open Go Go.Sx Go.Pl
variable [Outer]

set_option maxHeartbeats 2000000 in
set_option maxRecDepth 100000 in
theorem tr_all1 {P : Value} {I : Chunk → Prop} {E : Int → Chunk → Prop} {pg : Pg} {H : Chunk} {r : List Chunk} (hP : Pgs Tryz.prog 5 P I E pg) (hI : I H) {A : Chunk} {bt bl bw : Nat} : FunP Tryz.prog 155 [.pointer (some ⟨bt, 0, none⟩), .pointer (some ⟨bl, 0, none⟩)] (A :: [(bt, blk [P] 107 (0, 0))] :: [(bl, blk [.pointer (some ⟨bw, 0, none⟩)] 178 (0, 0))] :: [(bw, blk [P, .slice none 0 0, .slice none 0 0] 182 (0, 0))] :: H :: r) (fun _ hs' => ∃ hs1, hs' = A :: hs1 ∧ ((∃ g vn vc K1 K2 H', allT pg = .ok g ∧ Own Go.Sx.encI 1 3 vn g.1 K1 ∧ Own encCell 8 113 vc g.2 K2 ∧ I H' ∧ hs1 = [(bt, blk [P] 107 (0, 0))] :: [(bl, blk [.pointer (some ⟨bw, 0, none⟩)] 178 (0, 0))] :: [(bw, blk [P, vn, vc] 182 (0, 0))] :: K1 :: K2 :: H' :: r) ∨ ∃ H', allT pg = .ok ([], []) ∧ I H' ∧ hs1 = [(bt, blk [P] 107 (0, 0))] :: [(bl, blk [.pointer (some ⟨bw, 0, none⟩)] 178 (0, 0))] :: [(bw, blk [P, .slice none 0 0, .slice none 0 0] 182 (0, 0))] :: H' :: r)) (fun v' hs' => ∃ e hs1, hs' = A :: hs1 ∧ v' = flt e ∧ e ≠ 0 ∧ ∃ H', hs1 = [(bl, blk [.pointer (some ⟨bw, 0, none⟩)] 178 (0, 0))] :: H' :: r ∧ ((allT pg = .error e ∧ I H') ∨ ∃ e0, E e0 H')) := by
  refine FunP.enter 10 Tryz.func155 rfl Tryz.ntmps155 rfl ?_
  refine TT.seq (.region (.load rfl rfl (Ld.one hT rfl hz rfl) rfl ?_))
  refine OT.callP Tryz.call94 rfl rfl rfl rfl (FunP.pull pl (tr_root hP hI)) (fun _ _ h => by
    obtain ⟨e, H', rfl, he, rfl, ⟨h1, h2⟩ | ⟨e0, h2⟩⟩ := h
    · exact PP.of ⟨e, _, rfl, rfl, he, H', rfl, .inl ⟨allT_err h1, h2⟩⟩ sl
    · exact PP.of ⟨e, _, rfl, rfl, he, H', rfl, .inr ⟨e0, h2⟩⟩ sl) ?_
  rintro v_4 hs_4 ⟨H1, no, rfl, rfl, hI1, hrt⟩
  have hnu := rootT_use hrt
  refine OT.pures hT 1 rfl (.nil (.seq (.seq (.region (.pures hT 2 rfl (.nil (.seq (.cond rfl (fun c6 => ?_) (fun c6 => ?_)))))))))
  ·
    have c6 : no ≠ 0 := by simpa using c6
    have hnu := hnu.resolve_left c6
    refine TT.region (.load rfl rfl (Ld.one hT rfl hz rfl) rfl ?_)
    refine OT.pures hT 1 rfl ?_
    refine OT.callP Tryz.call156 rfl rfl rfl rfl (FunP.weaken sl (tr_throughN (bw := bw) (r := A :: [(bt, blk [P] 107 (0, 0))] :: [(bl, blk [.pointer (some ⟨bw, 0, none⟩)] 178 (0, 0))] :: r) hP hnu hI1)) (fun _ _ h => by
      obtain ⟨e, H', rfl, he, rfl, ⟨h1, h2⟩ | ⟨e0, h2⟩⟩ := h
      · exact PP.of ⟨e, _, rfl, rfl, he, H', rfl, .inl ⟨(by rw [allT_in hrt c6]; exact h1), h2⟩⟩ sl
      · exact PP.of ⟨e, _, rfl, rfl, he, H', rfl, .inr ⟨e0, h2⟩⟩ sl) ?_
    rintro v_9 hs_9 ⟨H2, vn, vc, K1, K2, g, rfl, rfl, hth, ho1, ho2, hI2⟩
    refine OT.nil (.ofP (rs := []) [] (A :: [(bt, blk [P] 107 (0, 0))] :: [(bl, blk [.pointer (some ⟨bw, 0, none⟩)] 178 (0, 0))] :: [(bw, blk [P, vn, vc] 182 (0, 0))] :: K1 :: K2 :: H2 :: r) rfl .nil sl ?_)
    try dsimp only [one]
    exact ⟨_, rfl, .inl ⟨g, vn, vc, K1, K2, H2, by rw [allT_in hrt c6]; exact hth, ho1, ho2, hI2, rfl⟩⟩
  ·
    have c6 : no = 0 := by simpa using c6
    refine TT.skip (.ofP (rs := []) [] (A :: [(bt, blk [P] 107 (0, 0))] :: [(bl, blk [.pointer (some ⟨bw, 0, none⟩)] 178 (0, 0))] :: [(bw, blk [P, .slice none 0 0, .slice none 0 0] 182 (0, 0))] :: H1 :: r) rfl .nil sl ?_)
    try dsimp only [one]
    exact ⟨_, rfl, .inr ⟨H1, allT_none hrt c6, hI1, rfl⟩⟩

set_option maxHeartbeats 2000000 in
set_option maxRecDepth 100000 in
theorem tr_allR {P : Value} {I : Chunk → Prop} {E : Int → Chunk → Prop} {pg : Pg} {H : Chunk} {r : List Chunk} (hP : Pgs Tryz.prog 5 P I E pg) (hI : I H) : Fun Tryz.prog 110 [P] (H :: r) (fun v' hs' => (∃ bw, v' = .tuple ⟨[.pointer (some ⟨bw, 0, none⟩), .int .i64 0]⟩ ∧ ((∃ g vn vc K1 K2 H', allT pg = .ok g ∧ Own Go.Sx.encI 1 3 vn g.1 K1 ∧ Own encCell 8 113 vc g.2 K2 ∧ I H' ∧ hs' = [(bw, blk [P, vn, vc] 182 (0, 0))] :: K1 :: K2 :: H' :: r) ∨ ∃ H', allT pg = .ok ([], []) ∧ I H' ∧ hs' = [(bw, blk [P, .slice none 0 0, .slice none 0 0] 182 (0, 0))] :: H' :: r)) ∨ ∃ (p : Nat) (e : Int) (H' : Chunk), v' = .tuple ⟨[.pointer (some ⟨p, 0, none⟩), .int .i64 e]⟩ ∧ e ≠ 0 ∧ hs' = H' :: r ∧ ((allT pg = .error e ∧ I H') ∨ ∃ e0, E e0 H')) := by
  refine Fun.enter 13 Tryz.func110 rfl Tryz.ntmps110 rfl ?_
  obtain ⟨ti, ui, hPe⟩ := hP.iface
  subst hPe
  refine TT.seq (.region (.box rfl rfl rfl (fun b_1 => ?_)))
  refine OT.pures hT 2 rfl (.nil (.seq (.seq (.region (.load rfl rfl (Ld.one hT rfl hz rfl) rfl ?_)))))
  refine OT.build hT rfl Tryz.zeroValue182 rfl rfl rfl rfl (.box rfl rfl rfl (fun b_8 => ?_))
  refine OT.alloc Tryz.zeroValue178 rfl rfl (fun b_4 => ?_)
  refine OT.store_all hT rfl rfl rfl rfl pl rfl rfl rfl (.inl (Nat.le_refl _)) ?_
  refine OT.nil (.seq (.seq (.region (.pures hT 1 rfl (.call Tryz.call84 rfl rfl rfl rfl ((guard_Try (N := fun _ hs1 => ((∃ g vn vc K1 K2 H', allT pg = .ok g ∧ Own Go.Sx.encI 1 3 vn g.1 K1 ∧ Own encCell 8 113 vc g.2 K2 ∧ I H' ∧ hs1 = [(b_1, blk [.iface ti ui] 107 (0, 0))] :: [(b_4, blk [.pointer (some ⟨b_8, 0, none⟩)] 178 (0, 0))] :: [(b_8, blk [.iface ti ui, vn, vc] 182 (0, 0))] :: K1 :: K2 :: H' :: r) ∨ ∃ H', allT pg = .ok ([], []) ∧ I H' ∧ hs1 = [(b_1, blk [.iface ti ui] 107 (0, 0))] :: [(b_4, blk [.pointer (some ⟨b_8, 0, none⟩)] 178 (0, 0))] :: [(b_8, blk [.iface ti ui, .slice none 0 0, .slice none 0 0] 182 (0, 0))] :: H' :: r)) (E := fun e hs1 => e ≠ 0 ∧ ∃ H', hs1 = [(b_4, blk [.pointer (some ⟨b_8, 0, none⟩)] 178 (0, 0))] :: H' :: r ∧ ((allT pg = .error e ∧ I H') ∨ ∃ e0, E e0 H')) Tryz.call155 (fun A => FunP.weaken sl (tr_all1 (A := A) (bt := b_1) (bl := b_4) (bw := b_8) hP hI)))) ?_)))))
  rintro v_10 hs_10 (⟨rfl, _, ⟨g, vn, vc, K1, K2, H', hal, ho1, ho2, hI', rfl⟩ | ⟨H', hal, hI', rfl⟩⟩ | ⟨e, rfl, he, H', rfl, hbad⟩)
  ·
    refine OT.pures hT 1 rfl (.nil (.seq (.seq (.region (.load rfl rfl (Ld.one hT rfl hz rfl) rfl ?_)))))
    refine OT.pures hT 3 rfl (.nil (.seq (.ret (.of (rs := [.tmp 2, .tmp 3]) [_, _] ([(b_8, blk [.iface ti ui, vn, vc] 182 (0, 0))] :: K1 :: K2 :: H' :: r) rfl (.tmp rfl (.tmp rfl .nil)) sl ?_))))
    try dsimp only [one]
    exact .inl ⟨b_8, rfl, .inl ⟨g, vn, vc, K1, K2, H', hal, ho1, ho2, hI', rfl⟩⟩
  ·
    refine OT.pures hT 1 rfl (.nil (.seq (.seq (.region (.load rfl rfl (Ld.one hT rfl hz rfl) rfl ?_)))))
    refine OT.pures hT 3 rfl (.nil (.seq (.ret (.of (rs := [.tmp 2, .tmp 3]) [_, _] ([(b_8, blk [.iface ti ui, .slice none 0 0, .slice none 0 0] 182 (0, 0))] :: H' :: r) rfl (.tmp rfl (.tmp rfl .nil)) sl ?_))))
    try dsimp only [one]
    exact .inl ⟨b_8, rfl, .inr ⟨H', hal, hI', rfl⟩⟩
  ·
    refine OT.pures hT 1 rfl (.nil (.seq (.seq (.region (.load rfl rfl (Ld.one hT rfl hz rfl) rfl ?_)))))
    refine OT.pures hT 3 rfl (.nil (.seq (.ret (.of (rs := [.tmp 2, .tmp 3]) [_, _] (H' :: r) rfl (.tmp rfl (.tmp rfl .nil)) sl ?_))))
    try dsimp only [one]
    exact .inr ⟨_, e, H', rfl, he, rfl, hbad⟩

theorem tr_all {P : Value} {I : Chunk → Prop} {E : Int → Chunk → Prop} {pg : Pg} {H : Chunk} {r : List Chunk} (hP : Pgs Tryz.prog 5 P I E pg) (hI : I H) : Fun Tryz.prog 110 [P] (H :: r) (fun v' hs' => (∃ bw g vn vc K1 K2 H', v' = .tuple ⟨[.pointer (some ⟨bw, 0, none⟩), .int .i64 0]⟩ ∧ allT pg = .ok g ∧ Own Go.Sx.encI 1 3 vn g.1 K1 ∧ Own encCell 8 113 vc g.2 K2 ∧ I H' ∧ hs' = [(bw, blk [P, vn, vc] 182 (0, 0))] :: K1 :: K2 :: H' :: r) ∨ ∃ (p : Nat) (e : Int) (H' : Chunk), v' = .tuple ⟨[.pointer (some ⟨p, 0, none⟩), .int .i64 e]⟩ ∧ e ≠ 0 ∧ hs' = H' :: r ∧ ((allT pg = .error e ∧ I H') ∨ ∃ e0, E e0 H')) := by
  refine (tr_allR hP hI).repost ?_
  rintro v' hs1 (⟨bw, rfl, ⟨g, vn, vc, K1, K2, H', hal, ho1, ho2, hI', rfl⟩ | ⟨H', hal, hI', rfl⟩⟩ | h)
  · exact ⟨_, .inl ⟨bw, g, vn, vc, K1, K2, H', rfl, hal, ho1, ho2, hI', rfl⟩, List.Perm.refl _⟩
  · exact ⟨_, .inl ⟨bw, ([], []), _, _, [], [], H', rfl, hal, Own.nil, Own.nil, hI', rfl⟩, List.Perm.of_eq rfl⟩
  · exact ⟨_, .inr h, List.Perm.refl _⟩

end Go.Proofs.YtihpkgmfkbkffaaGreat.Sx
end

section
namespace Go.Sx
open Go Go.Sort
variable [Outer]

theorem Mem.holds {w : World} {b : Nat} {pre sp : List Value} {xs : List Int} {e : Nat} {fr : Nat × Nat} {r : List Chunk}
    (hm : Mem ([(b, blk (pre ++ xs.map (Value.int .i64) ++ sp) e fr)] :: r) w) (ht : thawed (pre ++ xs.map (Value.int .i64) ++ sp) fr) : Holds (Value.int .i64) w b pre.length xs.toArray := by
  intro j hj
  rw [List.size_toArray] at hj
  have hb := hm.heap (b := b) Has.one
  constructor
  · rw [hm.cell (b := b) Has.one (pre.length + j)]
    rw [List.append_assoc, List.getElem?_append_right (by omega), List.getElem?_append_left (by rw [List.length_map]; omega), List.getElem?_map]
    rw [show pre.length + j - pre.length = j by omega, List.getElem?_eq_getElem hj, Option.map_some, getElem!_pos xs.toArray j (by rw [List.size_toArray]; omega)]
    rfl
  · simp only [World.frozen?, hb]
    rcases ht with ht | ht
    · simp; omega
    · simp only [List.length_append, List.length_map] at ht
      simp; omega

end Go.Sx
end

section
namespace Go.Proofs.YtihpkgmfkbkffaaGreat.Sx
open Go Go.Sx Go.Pl
variable [Outer]

set_option maxHeartbeats 2000000 in
set_option maxRecDepth 100000 in
theorem tr_Scan {P : Value} {I : Chunk → Prop} {E : Int → Chunk → Prop} {pg : Pg} {H : Chunk} {r : List Chunk} (hP : Pgs Tryz.prog 5 P I E pg) (hI : I H) {s t : ByteArray} : Fun Tryz.prog 60 [P, .string s, .string t] (H :: r) (fun v' hs' => (∃ H' K v g, v' = .tuple ⟨[v, .int .i64 0]⟩ ∧ hs' = H' :: K :: r ∧ allT pg = .ok g ∧ Own encCell 8 113 v (g.2.filter (fun c => keyIn c.key s t)) K ∧ I H') ∨ ∃ e H', v' = .tuple ⟨[.slice none 0 0, .int .i64 e]⟩ ∧ e ≠ 0 ∧ hs' = H' :: r ∧ ((allT pg = .error e ∧ I H') ∨ ∃ e0, E e0 H')) := by
  refine Fun.enter 41 Tryz.func60 rfl Tryz.ntmps60 rfl ?_
  refine TT.seq (.region (.pures hT 2 rfl (.nil (.seq (.seq (.region (.pures hT 1 rfl (.call Tryz.call110 rfl rfl rfl rfl (tr_all hP hI) ?_))))))))
  rintro v_15 hs_15 (⟨bw, g, vn, vc, K1, K2, H', rfl, hal, ho1, ho2, hI', rfl⟩ | ⟨p, e, H', rfl, he, rfl, hbad⟩)
  ·
    obtain ⟨an, cn, e1⟩ := (ho1.row (hs := [])).len
    obtain ⟨ac, cc, e2⟩ := (ho2.row (hs := [])).len
    subst e1 e2
    have hgl := allT_len hal
    refine OT.pures hT 5 rfl (.nil (.seq (.seq (.seq (.region (.pures hT 2 rfl (.nil (.seq (.cond rfl (fun c19 => ?_) (fun c19 => ?_))))))))))
    ·
      exact absurd c19 (by decide)
    ·
      refine TT.skip (.seq (.seq (.region (.pures hT 1 rfl (.nil (.seq (.seq (.seq (.region (.pures hT 3 rfl (.load rfl rfl (Ld.slc hT rfl hz rfl) rfl ?_)))))))))))
      refine OT.pures hT 2 rfl (.nil (.seq (.block (.loop (ι := Nat × Value × Chunk) (fun j => (j.1) ≤ g.2.length ∧ Own encCell 8 113 (j.2.1) ((g.2.take (j.1)).filter (fun c => keyIn c.key s t)) (j.2.2)) (fun j => g.2.length - (j.1)) (fun j => [(1, .string s), (2, .string t), (10, (j.2.1)), (24, .slice ac g.2.length cc), (25, .int .i64 (g.2.length : Nat)), (26, .int .i64 ((j.1) : Nat))]) (fun j => (j.2.2) :: [(bw, blk [P, (.slice an g.1.length cn), (.slice ac g.2.length cc)] 182 (0, 0))] :: K1 :: K2 :: H' :: r) (0, .slice none 0 0, []) ?_ (SubR.cons rfl (SubR.cons rfl (SubR.cons rfl (SubR.cons rfl (SubR.cons rfl (SubR.cons rfl (SubR.nil _))))))) (.empty sl) ?_))))
      · dsimp only
        exact ⟨Nat.zero_le _, Own.nil⟩
      rintro ⟨i, v, K⟩ hI
      dsimp only at hI
      obtain ⟨hi, hoK⟩ := hI
      show TT _ _ _ [(1, .string s), (2, .string t), (10, v), (24, .slice ac g.2.length cc), (25, .int .i64 (g.2.length : Nat)), (26, .int .i64 (i : Nat))] (K :: [(bw, blk [P, (.slice an g.1.length cn), (.slice ac g.2.length cc)] 182 (0, 0))] :: K1 :: K2 :: H' :: r)
      refine TT.seq (.region (.pures hT 1 rfl (.nil (.seq (.seq (.cond rfl (fun c27 => ?_) (fun c27 => ?_)))))))
      ·
        have c27 := of_decide_eq_true c27
        obtain ⟨x, hx⟩ := nth (l := g.2) (i := i) (by omega)
        have hfl := List.length_filter_le (fun c => keyIn c.key s t) (g.2.take i)
        have htl := List.length_take_le i g.2
        refine TT.skip (.seq (.seq (.block (.seq (.region (.index hT rfl rfl rfl rfl ho2.row.there.there.there (by omega) (by rw [Int.toNat_natCast]; exact hx) rfl (fun ad_28 hel_28 => ?_)))))))
        refine OT.load rfl rfl (hel_28.ld_struct hT rfl) rfl (.alloc Tryz.zeroValue113 rfl rfl (fun b_12 => ?_))
        refine OT.store_all hT rfl rfl rfl rfl pl rfl rfl rfl (.inl (Nat.le_refl _)) ?_
        refine OT.nil (.seq (.seq (.region (.pures hT 1 rfl (.load rfl rfl (Ld.one hT rfl hz rfl) rfl ?_)))))
        refine OT.pures hT 2 rfl (.call Tryz.call111 rfl rfl rfl rfl (ky_In) ?_)
        rintro v_34 hs_34 ⟨rfl, rfl⟩
        refine OT.nil (.seq (.cond rfl (fun c34 => ?_) (fun c34 => ?_)))
        ·
          refine TT.region (.pures hT 1 rfl (.load rfl rfl (Ld.struct_all hT rfl hz rfl) rfl ?_))
          refine OT.buildSlice (enc := encCell) (xs := [x]) (xos := [.tmp 36]) el122 rfl rfl rfl rfl rfl (by simp [Value.cells]; rfl) (fun _ _ => rfl) rfl (by decide) rfl (fun v_37 H_37 ho_37 => ?_)
          refine OT.append hT el122 rfl rfl rfl rfl pl hoK (ho_37.row) (ones_cells _) (by simp only [List.length_singleton]; omega) rfl (fun v_38 H_38 ho_38 => ?_)
          refine OT.pures hT 1 rfl (.nil (.blk (.seq (.region (.pures hT 2 rfl (.nil (.loop (i + 1, v_38, H_38) ?_ ?_ (SubR.cons rfl (SubR.cons rfl (SubR.cons rfl (SubR.cons rfl (SubR.cons rfl (SubR.cons' rfl (by (try dsimp only); exact (int_eq (by rw [wrap_i64 (by omega) (by omega)]; omega))) (SubR.nil _))))))) sl)))))))
          · dsimp only
            exact ⟨by omega, by rw [List.take_add_one, hx, Option.toList_some, List.filter_append, show List.filter (fun c => keyIn c.key s t) [x] = [x] by simp [c34]]; exact ho_38⟩
          · dsimp only
            omega
        ·
          refine TT.skip (.blk (.seq (.region (.pures hT 2 rfl (.nil (.loop (i + 1, v, K) ?_ ?_ (SubR.cons rfl (SubR.cons rfl (SubR.cons rfl (SubR.cons rfl (SubR.cons rfl (SubR.cons' rfl (by (try dsimp only); exact (int_eq (by rw [wrap_i64 (by omega) (by omega)]; omega))) (SubR.nil _))))))) sl))))))
          · dsimp only
            exact ⟨by omega, by rw [List.take_add_one, hx, Option.toList_some, List.filter_append, show List.filter (fun c => keyIn c.key s t) [x] = [] by simp [c34], List.append_nil]; exact hoK⟩
          · dsimp only
            omega
      ·
        have c27 := of_decide_eq_false c27
        obtain rfl : i = g.2.length := by omega
        rw [List.take_of_length_le (Nat.le_refl _)] at hoK
        refine TT.exit (.seq (.loop (.here (.seq (.seq (.region (.pures hT 3 rfl (.nil (.seq (.ret (.of (rs := [.tmp 6, .tmp 7]) [_, _] (H' :: K :: r) rfl (.tmp rfl (.tmp rfl .nil)) sl ?_)))))))))))
        try dsimp only [one]
        exact .inl ⟨H', K, v, g, rfl, rfl, hal, hoK, hI'⟩
  ·
    refine OT.pures hT 5 rfl (.nil (.seq (.seq (.seq (.region (.pures hT 2 rfl (.nil (.seq (.cond rfl (fun c19 => ?_) (fun c19 => ?_))))))))))
    ·
      refine TT.seq (.region (.pures hT 3 rfl (.nil (.seq (.ret (.of (rs := [.tmp 6, .tmp 7]) [_, _] (H' :: r) rfl (.tmp rfl (.tmp rfl .nil)) sl ?_))))))
      try dsimp only [one]
      exact .inr ⟨e, H', rfl, he, rfl, hbad⟩
    ·
      exact absurd c19 (by simpa using he)

end Go.Proofs.YtihpkgmfkbkffaaGreat.Sx
end

section
namespace Go.Proofs.YtihpkgmfkbkffaaGreat.Sx
open Go Go.Sx Go.Pl
variable [Outer]

set_option maxHeartbeats 6000000 in
set_option maxRecDepth 100000 in
theorem tr_checkS {P : Value} {I : Chunk → Prop} {E : Int → Chunk → Prop} {pg : Pg} (hP : Pgs Tryz.prog 5 P I E pg) {f : Nat} (hf : f < 64) (ih : ∀ {lo hi : ByteArray} {top : Bool} {H : Chunk} {r : List Chunk} {no : Int}, mayUse no → Deep pg f no → I H → FunP Tryz.prog 116 [P, .int .i64 no, .agg ⟨[.string lo, .string hi]⟩, .bool top] (H :: r) (fun v' hs' => ∃ H' d, hs' = H' :: r ∧ v' = .int .i64 d ∧ checkT pg f no lo hi top = .ok d ∧ I H' ∧ 0 ≤ d ∧ d < ((f : Nat) : Int)) (Broke I E (fun e => checkT pg f no lo hi top = .error e) r)) {lo hi : ByteArray} {top : Bool} {H : Chunk} {r : List Chunk} {no : Int} (hno : mayUse no) (hdp : Deep pg (f + 1) no) (hI : I H) : FunP Tryz.prog 116 [P, .int .i64 no, .agg ⟨[.string lo, .string hi]⟩, .bool top] (H :: r) (fun v' hs' => ∃ H' d, hs' = H' :: r ∧ v' = .int .i64 d ∧ checkT pg (f + 1) no lo hi top = .ok d ∧ I H' ∧ 0 ≤ d ∧ d < (((f + 1) : Nat) : Int)) (Broke I E (fun e => checkT pg (f + 1) no lo hi top = .error e) r) := by
  refine FunP.enter 91 Tryz.func116 rfl Tryz.ntmps116 rfl ?_
  refine TT.seq (.region (.box rfl rfl rfl (fun b_6 => ?_)))
  refine OT.pures hT 1 rfl (.nil (.seq (.seq (.region (.pures hT 2 rfl ?_)))))
  refine OT.callP Tryz.call95 rfl rfl rfl rfl (FunP.pull pl (tr_read hP hI (use_bound hno))) (fun _ _ h => by
    obtain ⟨e, H', rfl, he, rfl, ⟨h1, h2⟩ | h2⟩ := h
    · exact PP.of ⟨e, H', rfl, he, rfl, .inl ⟨checkT_err h1, h2⟩⟩ sl
    · exact PP.of ⟨e, H', rfl, he, rfl, .inr h2⟩ sl) ?_
  rintro v_19 hs_19 ⟨H2, K, cs, n, rfl, rfl, hN, hI2, hrd⟩
  have hni := (readT_is hrd).nd
  have hnc := hni.cells
  have hnk := hni.keys
  have hnd := hni.kids
  have hdk := hdp n hrd
  obtain ⟨vc, vk, vi, KA, KB, KC, rfl, rfl, hoA, hoB, hoC⟩ := hN.is
  obtain ⟨ac, cc, e1⟩ := (hoA.row (hs := [])).len
  obtain ⟨ak, ck, e2⟩ := (hoB.row (hs := [])).len
  obtain ⟨ai, ci, e3⟩ := (hoC.row (hs := [])).len
  subst e1 e2 e3
  refine OT.perm kid_split (.alloc Tryz.zeroValue159 rfl rfl (fun b_9 => ?_))
  refine OT.store_all hT rfl rfl rfl rfl pl rfl rfl rfl (.inl (Nat.le_refl _)) ?_
  refine OT.nil (.seq (.seq (.seq (.region (.pures hT 1 rfl (.load rfl rfl (Ld.one hT rfl hz rfl) rfl ?_))))))
  refine OT.nil (.seq (.cond rfl (fun c21 => ?_) (fun c21 => ?_)))
  ·
    have hlf : n.leaf = true := c21
    refine TT.seq (.region (.pures hT 2 rfl (.split 23 rfl (fun g23 => ?_) (fun g23 => ?_))))
    ·
      refine OT.pures hT 5 rfl (.call Tryz.call118 rfl rfl rfl rfl (guard_Check) ?_)
      rintro v_29 hs_29 ⟨rfl, rfl⟩
      have h2 : top = true ∨ 0 < n.cells.length := .inl g23
      refine OT.nil (.seq (.seq (.seq (.region (.pures hT 1 rfl (.load rfl rfl (Ld.slc hT rfl hz rfl) rfl ?_))))))
      refine OT.pures hT 2 rfl (.nil (.seq (.block (.loop (ι := Nat) (fun j => (j) ≤ n.cells.length ∧ ∀ c ∈ n.cells.take (j), keyIn c.key lo hi = true) (fun j => n.cells.length - (j)) (fun j => [(6, .pointer (some ⟨b_6, 0, none⟩)), (31, .slice ac n.cells.length cc), (32, .int .i64 (n.cells.length : Nat)), (33, .int .i64 ((j) : Nat))]) (fun j => [(b_9, blk [.bool n.leaf, .slice ac n.cells.length cc, .slice ak n.keys.length ck, .slice ai n.kids.length ci] 159 (0, 0))] :: H2 :: KA :: KB :: KC :: [(b_6, blk [.string lo, .string hi] 186 (0, 0))] :: r) (0) ?_ (SubR.cons rfl (SubR.cons rfl (SubR.cons rfl (SubR.cons rfl (SubR.nil _))))) sl ?_))))
      · exact ⟨Nat.zero_le _, fun c hc => by cases hc⟩
      rintro i ⟨hil, hin⟩
      show TT _ _ _ [(6, .pointer (some ⟨b_6, 0, none⟩)), (31, .slice ac n.cells.length cc), (32, .int .i64 (n.cells.length : Nat)), (33, .int .i64 (i : Nat))] ([(b_9, blk [.bool n.leaf, .slice ac n.cells.length cc, .slice ak n.keys.length ck, .slice ai n.kids.length ci] 159 (0, 0))] :: H2 :: KA :: KB :: KC :: [(b_6, blk [.string lo, .string hi] 186 (0, 0))] :: r)
      refine TT.seq (.region (.pures hT 1 rfl (.nil (.seq (.seq (.cond rfl (fun c34 => ?_) (fun c34 => ?_)))))))
      ·
        have c34 := of_decide_eq_true c34
        obtain ⟨x, hx⟩ := nth (l := n.cells) (i := i) (by omega)
        refine TT.skip (.seq (.seq (.block (.seq (.region (.index hT rfl rfl rfl rfl hoA.row.there.there (by omega) (by rw [Int.toNat_natCast]; exact hx) rfl (fun ad_35 hel_35 => ?_)))))))
        refine OT.load rfl rfl (hel_35.ld_struct hT rfl) rfl (.alloc Tryz.zeroValue113 rfl rfl (fun b_11 => ?_))
        refine OT.store_all hT rfl rfl rfl rfl pl rfl rfl rfl (.inl (Nat.le_refl _)) ?_
        refine OT.nil (.seq (.region (.pures hT 1 rfl (.load rfl rfl (Ld.one hT rfl hz rfl) rfl ?_))))
        refine OT.pures hT 1 rfl (.load rfl rfl (Ld.one hT rfl hz rfl) rfl ?_)
        refine OT.pures hT 1 rfl (.load rfl rfl (Ld.one hT rfl hz rfl) rfl ?_)
        refine OT.call Tryz.call111 rfl rfl rfl rfl (ky_In) ?_
        rintro v_43 hs_43 ⟨rfl, rfl⟩
        refine OT.callP Tryz.call118 rfl rfl rfl rfl (guard_CheckB) (fun _ _ h => by
          obtain ⟨hb, rfl, rfl⟩ := h
          exact PP.of ⟨8, H2, by rw [brk_same (by decide)], by decide, rfl, .inl ⟨checkT_out hrd hlf h2 (List.mem_of_getElem? hx) hb, hI2⟩⟩ sl) ?_
        rintro v_44 hs_44 ⟨hb2, rfl, rfl⟩
        refine OT.nil (.blk (.seq (.region (.pures hT 2 rfl (.nil (.loop (i + 1) ?_ ?_ (SubR.cons rfl (SubR.cons rfl (SubR.cons rfl (SubR.cons' rfl (by (try dsimp only); exact (int_eq (by rw [wrap_i64 (by omega) (by omega)]; omega))) (SubR.nil _))))) sl))))))
        · refine ⟨by omega, fun c hc => ?_⟩
          rw [List.take_add_one, hx] at hc
          rcases List.mem_append.1 hc with hc | hc
          · exact hin c hc
          · rw [Option.toList_some, List.mem_singleton] at hc
            subst hc; exact hb2
        · omega
      ·
        have c34 := of_decide_eq_false c34
        obtain rfl : i = n.cells.length := by omega
        rw [List.take_of_length_le (Nat.le_refl _)] at hin
        refine TT.exit (.seq (.loop (.here (.seq (.seq (.region (.pures hT 1 rfl (.nil (.seq (.ret (.ofP (rs := [.tmp 8]) [_] (H2 :: r) rfl (.tmp rfl .nil) sl ?_)))))))))))
        try dsimp only [one]
        exact ⟨H2, 0, rfl, rfl, checkT_leaf hrd hlf h2 hin, hI2, by omega, by omega⟩
    ·
      refine OT.pures hT 1 rfl (.load rfl rfl (Ld.slc hT rfl hz rfl) rfl ?_)
      refine OT.pures hT 3 rfl ?_
      refine OT.callP Tryz.call118 rfl rfl rfl rfl (guard_CheckB) (fun _ _ h => by
        obtain ⟨hb, rfl, rfl⟩ := h
        have hb : ¬ 0 < n.cells.length := by have := of_decide_eq_false hb; omega
        exact PP.of ⟨8, H2, by rw [brk_same (by decide)], by decide, rfl, .inl ⟨checkT_bare hrd hlf (fun h => h.elim (fun e => by rw [g23] at e; cases e) hb), hI2⟩⟩ sl) ?_
      rintro v_29 hs_29 ⟨hb, rfl, rfl⟩
      have h2 : top = true ∨ 0 < n.cells.length := .inr (by have := of_decide_eq_true hb; omega)
      refine OT.nil (.seq (.seq (.seq (.region (.pures hT 1 rfl (.load rfl rfl (Ld.slc hT rfl hz rfl) rfl ?_))))))
      refine OT.pures hT 2 rfl (.nil (.seq (.block (.loop (ι := Nat) (fun j => (j) ≤ n.cells.length ∧ ∀ c ∈ n.cells.take (j), keyIn c.key lo hi = true) (fun j => n.cells.length - (j)) (fun j => [(6, .pointer (some ⟨b_6, 0, none⟩)), (31, .slice ac n.cells.length cc), (32, .int .i64 (n.cells.length : Nat)), (33, .int .i64 ((j) : Nat))]) (fun j => [(b_9, blk [.bool n.leaf, .slice ac n.cells.length cc, .slice ak n.keys.length ck, .slice ai n.kids.length ci] 159 (0, 0))] :: H2 :: KA :: KB :: KC :: [(b_6, blk [.string lo, .string hi] 186 (0, 0))] :: r) (0) ?_ (SubR.cons rfl (SubR.cons rfl (SubR.cons rfl (SubR.cons rfl (SubR.nil _))))) sl ?_))))
      · exact ⟨Nat.zero_le _, fun c hc => by cases hc⟩
      rintro i ⟨hil, hin⟩
      show TT _ _ _ [(6, .pointer (some ⟨b_6, 0, none⟩)), (31, .slice ac n.cells.length cc), (32, .int .i64 (n.cells.length : Nat)), (33, .int .i64 (i : Nat))] ([(b_9, blk [.bool n.leaf, .slice ac n.cells.length cc, .slice ak n.keys.length ck, .slice ai n.kids.length ci] 159 (0, 0))] :: H2 :: KA :: KB :: KC :: [(b_6, blk [.string lo, .string hi] 186 (0, 0))] :: r)
      refine TT.seq (.region (.pures hT 1 rfl (.nil (.seq (.seq (.cond rfl (fun c34 => ?_) (fun c34 => ?_)))))))
      ·
        have c34 := of_decide_eq_true c34
        obtain ⟨x, hx⟩ := nth (l := n.cells) (i := i) (by omega)
        refine TT.skip (.seq (.seq (.block (.seq (.region (.index hT rfl rfl rfl rfl hoA.row.there.there (by omega) (by rw [Int.toNat_natCast]; exact hx) rfl (fun ad_35 hel_35 => ?_)))))))
        refine OT.load rfl rfl (hel_35.ld_struct hT rfl) rfl (.alloc Tryz.zeroValue113 rfl rfl (fun b_11 => ?_))
        refine OT.store_all hT rfl rfl rfl rfl pl rfl rfl rfl (.inl (Nat.le_refl _)) ?_
        refine OT.nil (.seq (.region (.pures hT 1 rfl (.load rfl rfl (Ld.one hT rfl hz rfl) rfl ?_))))
        refine OT.pures hT 1 rfl (.load rfl rfl (Ld.one hT rfl hz rfl) rfl ?_)
        refine OT.pures hT 1 rfl (.load rfl rfl (Ld.one hT rfl hz rfl) rfl ?_)
        refine OT.call Tryz.call111 rfl rfl rfl rfl (ky_In) ?_
        rintro v_43 hs_43 ⟨rfl, rfl⟩
        refine OT.callP Tryz.call118 rfl rfl rfl rfl (guard_CheckB) (fun _ _ h => by
          obtain ⟨hb, rfl, rfl⟩ := h
          exact PP.of ⟨8, H2, by rw [brk_same (by decide)], by decide, rfl, .inl ⟨checkT_out hrd hlf h2 (List.mem_of_getElem? hx) hb, hI2⟩⟩ sl) ?_
        rintro v_44 hs_44 ⟨hb2, rfl, rfl⟩
        refine OT.nil (.blk (.seq (.region (.pures hT 2 rfl (.nil (.loop (i + 1) ?_ ?_ (SubR.cons rfl (SubR.cons rfl (SubR.cons rfl (SubR.cons' rfl (by (try dsimp only); exact (int_eq (by rw [wrap_i64 (by omega) (by omega)]; omega))) (SubR.nil _))))) sl))))))
        · refine ⟨by omega, fun c hc => ?_⟩
          rw [List.take_add_one, hx] at hc
          rcases List.mem_append.1 hc with hc | hc
          · exact hin c hc
          · rw [Option.toList_some, List.mem_singleton] at hc
            subst hc; exact hb2
        · omega
      ·
        have c34 := of_decide_eq_false c34
        obtain rfl : i = n.cells.length := by omega
        rw [List.take_of_length_le (Nat.le_refl _)] at hin
        refine TT.exit (.seq (.loop (.here (.seq (.seq (.region (.pures hT 1 rfl (.nil (.seq (.ret (.ofP (rs := [.tmp 8]) [_] (H2 :: r) rfl (.tmp rfl .nil) sl ?_)))))))))))
        try dsimp only [one]
        exact ⟨H2, 0, rfl, rfl, checkT_leaf hrd hlf h2 hin, hI2, by omega, by omega⟩
  ·
    have hlf : n.leaf = false := c21
    have hkk := (hni.ways hlf).1
    refine TT.skip (.seq (.seq (.region (.pures hT 1 rfl (.nil (.seq (.seq (.seq (.region (.pures hT 1 rfl (.load rfl rfl (Ld.slc hT rfl hz rfl) rfl ?_)))))))))))
    refine OT.pures hT 2 rfl (.nil (.seq (.block (.loop (ι := Nat × Int × Chunk) (fun j => (j.1) ≤ n.kids.length ∧ kidsC pg f n lo hi (j.1) = .ok (j.2.1) ∧ I (j.2.2) ∧ -1 ≤ (j.2.1) ∧ (j.2.1) < ((f : Nat) : Int)) (fun j => n.kids.length - (j.1)) (fun j => [(0, P), (6, .pointer (some ⟨b_6, 0, none⟩)), (9, .pointer (some ⟨b_9, 0, none⟩)), (12, .int .i64 (j.2.1)), (47, .slice ai n.kids.length ci), (48, .int .i64 (n.kids.length : Nat)), (49, .int .i64 ((j.1) : Nat))]) (fun j => [(b_9, blk [.bool n.leaf, .slice ac n.cells.length cc, .slice ak n.keys.length ck, .slice ai n.kids.length ci] 159 (0, 0))] :: (j.2.2) :: KB :: KC :: [(b_6, blk [.string lo, .string hi] 186 (0, 0))] :: r) (0, (-1 : Int), H2) ?_ (SubR.cons rfl (SubR.cons rfl (SubR.cons rfl (SubR.cons rfl (SubR.cons rfl (SubR.cons rfl (SubR.cons rfl (SubR.nil _)))))))) sl ?_))))
    · dsimp only
      exact ⟨Nat.zero_le _, kidsC_zero, hI2, by omega, by omega⟩
    rintro ⟨i, d, H3⟩ hI
    dsimp only at hI
    obtain ⟨hi2, hk, hI3, hd1, hd2⟩ := hI
    show TT _ _ _ [(0, P), (6, .pointer (some ⟨b_6, 0, none⟩)), (9, .pointer (some ⟨b_9, 0, none⟩)), (12, .int .i64 d), (47, .slice ai n.kids.length ci), (48, .int .i64 (n.kids.length : Nat)), (49, .int .i64 (i : Nat))] ([(b_9, blk [.bool n.leaf, .slice ac n.cells.length cc, .slice ak n.keys.length ck, .slice ai n.kids.length ci] 159 (0, 0))] :: H3 :: KB :: KC :: [(b_6, blk [.string lo, .string hi] 186 (0, 0))] :: r)
    refine TT.seq (.region (.pures hT 1 rfl (.nil (.seq (.seq (.cond rfl (fun c50 => ?_) (fun c50 => ?_)))))))
    ·
      have c50 := of_decide_eq_true c50
      obtain ⟨x, hx⟩ := nth (l := n.kids) (i := i) (by omega)
      refine TT.skip (.seq (.seq (.block (.seq (.region (.pures hT 1 rfl (.index hT rfl rfl rfl rfl hoC.row.there.there.there (by omega) (by rw [Int.toNat_natCast]; exact hx) rfl (fun ad_52 hel_52 => ?_))))))))
      refine OT.load rfl rfl (hel_52.ld_one hT rfl rfl) rfl (.pures hT 2 rfl (.nil (.seq (.seq (.region (.load rfl rfl (Ld.struct_all hT rfl hz rfl) rfl ?_))))))
      refine OT.alloc Tryz.zeroValue186 rfl rfl (fun b_15 => ?_)
      refine OT.store_all hT rfl rfl rfl rfl pl rfl rfl rfl (.inl (Nat.le_refl _)) ?_
      refine OT.nil (.seq (.seq (.seq (.region (.pures hT 2 rfl (.nil (.seq (.cond rfl (fun c56 => ?_) (fun c56 => ?_)))))))))
      ·
        have c56 : 0 < i := by have := of_decide_eq_true c56; omega
        obtain ⟨kl, hkl⟩ := nth (l := n.keys) (i := i - 1) (by omega)
        have hlo := low_pos (lo := lo) c56 hkl
        refine TT.region (.pures hT 1 rfl (.load rfl rfl (Ld.slc hT rfl hz rfl) rfl ?_))
        refine OT.pures hT 2 rfl (.index hT rfl rfl rfl rfl hoB.row.there.there.there (by rw [wrap_i64 (by omega) (by omega)]; omega) (by rw [wrap_i64 (by omega) (by omega), show ((i : Int) - 1).toNat = i - 1 by omega]; exact hkl) rfl (fun ad_61 hel_61 => ?_))
        refine OT.load rfl rfl (hel_61.ld_one hT rfl rfl) rfl (.pures hT 1 rfl (.store hT rfl rfl rfl rfl pl rfl (Nat.le_of_ble_eq_true rfl) rfl (.inl (Nat.le_refl _)) rfl ?_))
        refine OT.nil (.seq (.seq (.seq (.region (.pures hT 2 rfl (.load rfl rfl (Ld.slc hT rfl hz rfl) rfl ?_))))))
        refine OT.pures hT 2 rfl (.nil (.seq (.cond rfl (fun c68 => ?_) (fun c68 => ?_))))
        ·
          have c68 : i < n.keys.length := by have := of_decide_eq_true c68; omega
          obtain ⟨kh, hkh⟩ := nth (l := n.keys) (i := i) (by omega)
          have hhi := high_pos (hi := hi) c68 hkh
          refine TT.region (.pures hT 1 rfl (.load rfl rfl (Ld.slc hT rfl hz rfl) rfl ?_))
          refine OT.pures hT 1 rfl (.index hT rfl rfl rfl rfl hoB.row.there.there.there (by omega) (by rw [Int.toNat_natCast]; exact hkh) rfl (fun ad_72 hel_72 => ?_))
          refine OT.load rfl rfl (hel_72.ld_one hT rfl rfl) rfl (.pures hT 1 rfl (.store hT rfl rfl rfl rfl pl rfl (Nat.le_of_ble_eq_true rfl) rfl (.inl (Nat.le_refl _)) rfl ?_))
          refine OT.nil (.seq (.seq (.region (.pures hT 2 rfl (.load rfl rfl (Ld.struct_all hT rfl hz rfl) rfl ?_)))))
          refine OT.callP Tryz.call116 rfl rfl rfl rfl (FunP.pull pl (ih (hni.all_kids (List.mem_of_getElem? hx)) (hdk _ (List.mem_of_getElem? hx)) hI3)) (fun _ _ h => by
            obtain ⟨e, H', rfl, he, rfl, ⟨h1, h2⟩ | h2⟩ := h
            · exact PP.of ⟨e, H', rfl, he, rfl, .inl ⟨(by rw [checkT_ways hrd hlf]; exact bind_err (kidsC_stop (m := i + 1) (by omega) (kidsC_err hk hx hlo hhi h1))), h2⟩⟩ sl
            · exact PP.of ⟨e, H', rfl, he, rfl, .inr h2⟩ sl) ?_
          rintro v_78 hs_78 ⟨H4, d2, rfl, rfl, hck, hI4, hd3, hd4⟩
          have hkn := kidsC_next hk hx hlo hhi hck
          refine OT.pures hT 1 rfl (.nil (.seq (.seq (.region (.pures hT 3 rfl (.split 81 rfl (fun g81 => ?_) (fun g81 => ?_)))))))
          ·
            refine OT.pures hT 4 rfl (.call Tryz.call118 rfl rfl rfl rfl (guard_Check) ?_)
            rintro v_86 hs_86 ⟨rfl, rfl⟩
            rw [if_pos (.inl (of_decide_eq_true g81))] at hkn
            refine OT.nil (.seq (.region (.pures hT 2 rfl (.nil (.blk (.seq (.region (.pures hT 2 rfl (.nil (.loop (i + 1, d2, H4) ?_ ?_ (SubR.cons rfl (SubR.cons rfl (SubR.cons rfl (SubR.cons rfl (SubR.cons rfl (SubR.cons rfl (SubR.cons' rfl (by (try dsimp only); exact (int_eq (by rw [wrap_i64 (by omega) (by omega)]; omega))) (SubR.nil _)))))))) sl))))))))))
            · dsimp only
              exact ⟨by omega, hkn, hI4, by omega, by omega⟩
            · dsimp only
              omega
          ·
            refine OT.pures hT 4 rfl ?_
            refine OT.callP Tryz.call118 rfl rfl rfl rfl (guard_CheckB) (fun _ _ h => by
              obtain ⟨hb, rfl, rfl⟩ := h
              have hb : ¬ d2 = d := by simpa using hb
              exact PP.of ⟨8, H4, by rw [brk_same (by decide)], by decide, rfl, .inl ⟨(by rw [checkT_ways hrd hlf]; refine bind_err (kidsC_stop (m := i + 1) (by omega) (hkn.trans (if_neg ?_))); exact fun h => h.elim (of_decide_eq_false g81) hb), hI4⟩⟩ sl) ?_
            rintro v_86 hs_86 ⟨hb, rfl, rfl⟩
            have hb : d2 = d := by simpa using hb
            rw [if_pos (.inr hb)] at hkn
            refine OT.nil (.seq (.region (.pures hT 2 rfl (.nil (.blk (.seq (.region (.pures hT 2 rfl (.nil (.loop (i + 1, d2, H4) ?_ ?_ (SubR.cons rfl (SubR.cons rfl (SubR.cons rfl (SubR.cons rfl (SubR.cons rfl (SubR.cons rfl (SubR.cons' rfl (by (try dsimp only); exact (int_eq (by rw [wrap_i64 (by omega) (by omega)]; omega))) (SubR.nil _)))))))) sl))))))))))
            · dsimp only
              exact ⟨by omega, hkn, hI4, by omega, by omega⟩
            · dsimp only
              omega
        ·
          have c68 : ¬ i < n.keys.length := by have := of_decide_eq_false c68; omega
          have hhi := high_neg (n := n) (hi := hi) c68
          refine TT.skip (.seq (.seq (.region (.pures hT 2 rfl (.load rfl rfl (Ld.struct_all hT rfl hz rfl) rfl ?_)))))
          refine OT.callP Tryz.call116 rfl rfl rfl rfl (FunP.pull pl (ih (hni.all_kids (List.mem_of_getElem? hx)) (hdk _ (List.mem_of_getElem? hx)) hI3)) (fun _ _ h => by
            obtain ⟨e, H', rfl, he, rfl, ⟨h1, h2⟩ | h2⟩ := h
            · exact PP.of ⟨e, H', rfl, he, rfl, .inl ⟨(by rw [checkT_ways hrd hlf]; exact bind_err (kidsC_stop (m := i + 1) (by omega) (kidsC_err hk hx hlo hhi h1))), h2⟩⟩ sl
            · exact PP.of ⟨e, H', rfl, he, rfl, .inr h2⟩ sl) ?_
          rintro v_78 hs_78 ⟨H4, d2, rfl, rfl, hck, hI4, hd3, hd4⟩
          have hkn := kidsC_next hk hx hlo hhi hck
          refine OT.pures hT 1 rfl (.nil (.seq (.seq (.region (.pures hT 3 rfl (.split 81 rfl (fun g81 => ?_) (fun g81 => ?_)))))))
          ·
            refine OT.pures hT 4 rfl (.call Tryz.call118 rfl rfl rfl rfl (guard_Check) ?_)
            rintro v_86 hs_86 ⟨rfl, rfl⟩
            rw [if_pos (.inl (of_decide_eq_true g81))] at hkn
            refine OT.nil (.seq (.region (.pures hT 2 rfl (.nil (.blk (.seq (.region (.pures hT 2 rfl (.nil (.loop (i + 1, d2, H4) ?_ ?_ (SubR.cons rfl (SubR.cons rfl (SubR.cons rfl (SubR.cons rfl (SubR.cons rfl (SubR.cons rfl (SubR.cons' rfl (by (try dsimp only); exact (int_eq (by rw [wrap_i64 (by omega) (by omega)]; omega))) (SubR.nil _)))))))) sl))))))))))
            · dsimp only
              exact ⟨by omega, hkn, hI4, by omega, by omega⟩
            · dsimp only
              omega
          ·
            refine OT.pures hT 4 rfl ?_
            refine OT.callP Tryz.call118 rfl rfl rfl rfl (guard_CheckB) (fun _ _ h => by
              obtain ⟨hb, rfl, rfl⟩ := h
              have hb : ¬ d2 = d := by simpa using hb
              exact PP.of ⟨8, H4, by rw [brk_same (by decide)], by decide, rfl, .inl ⟨(by rw [checkT_ways hrd hlf]; refine bind_err (kidsC_stop (m := i + 1) (by omega) (hkn.trans (if_neg ?_))); exact fun h => h.elim (of_decide_eq_false g81) hb), hI4⟩⟩ sl) ?_
            rintro v_86 hs_86 ⟨hb, rfl, rfl⟩
            have hb : d2 = d := by simpa using hb
            rw [if_pos (.inr hb)] at hkn
            refine OT.nil (.seq (.region (.pures hT 2 rfl (.nil (.blk (.seq (.region (.pures hT 2 rfl (.nil (.loop (i + 1, d2, H4) ?_ ?_ (SubR.cons rfl (SubR.cons rfl (SubR.cons rfl (SubR.cons rfl (SubR.cons rfl (SubR.cons rfl (SubR.cons' rfl (by (try dsimp only); exact (int_eq (by rw [wrap_i64 (by omega) (by omega)]; omega))) (SubR.nil _)))))))) sl))))))))))
            · dsimp only
              exact ⟨by omega, hkn, hI4, by omega, by omega⟩
            · dsimp only
              omega
      ·
        have c56 : ¬ 0 < i := by have := of_decide_eq_false c56; omega
        have hlo := low_neg (n := n) (lo := lo) c56
        refine TT.skip (.seq (.seq (.seq (.region (.pures hT 2 rfl (.load rfl rfl (Ld.slc hT rfl hz rfl) rfl ?_))))))
        refine OT.pures hT 2 rfl (.nil (.seq (.cond rfl (fun c68 => ?_) (fun c68 => ?_))))
        ·
          have c68 : i < n.keys.length := by have := of_decide_eq_true c68; omega
          obtain ⟨kh, hkh⟩ := nth (l := n.keys) (i := i) (by omega)
          have hhi := high_pos (hi := hi) c68 hkh
          refine TT.region (.pures hT 1 rfl (.load rfl rfl (Ld.slc hT rfl hz rfl) rfl ?_))
          refine OT.pures hT 1 rfl (.index hT rfl rfl rfl rfl hoB.row.there.there.there (by omega) (by rw [Int.toNat_natCast]; exact hkh) rfl (fun ad_72 hel_72 => ?_))
          refine OT.load rfl rfl (hel_72.ld_one hT rfl rfl) rfl (.pures hT 1 rfl (.store hT rfl rfl rfl rfl pl rfl (Nat.le_of_ble_eq_true rfl) rfl (.inl (Nat.le_refl _)) rfl ?_))
          refine OT.nil (.seq (.seq (.region (.pures hT 2 rfl (.load rfl rfl (Ld.struct_all hT rfl hz rfl) rfl ?_)))))
          refine OT.callP Tryz.call116 rfl rfl rfl rfl (FunP.pull pl (ih (hni.all_kids (List.mem_of_getElem? hx)) (hdk _ (List.mem_of_getElem? hx)) hI3)) (fun _ _ h => by
            obtain ⟨e, H', rfl, he, rfl, ⟨h1, h2⟩ | h2⟩ := h
            · exact PP.of ⟨e, H', rfl, he, rfl, .inl ⟨(by rw [checkT_ways hrd hlf]; exact bind_err (kidsC_stop (m := i + 1) (by omega) (kidsC_err hk hx hlo hhi h1))), h2⟩⟩ sl
            · exact PP.of ⟨e, H', rfl, he, rfl, .inr h2⟩ sl) ?_
          rintro v_78 hs_78 ⟨H4, d2, rfl, rfl, hck, hI4, hd3, hd4⟩
          have hkn := kidsC_next hk hx hlo hhi hck
          refine OT.pures hT 1 rfl (.nil (.seq (.seq (.region (.pures hT 3 rfl (.split 81 rfl (fun g81 => ?_) (fun g81 => ?_)))))))
          ·
            refine OT.pures hT 4 rfl (.call Tryz.call118 rfl rfl rfl rfl (guard_Check) ?_)
            rintro v_86 hs_86 ⟨rfl, rfl⟩
            rw [if_pos (.inl (of_decide_eq_true g81))] at hkn
            refine OT.nil (.seq (.region (.pures hT 2 rfl (.nil (.blk (.seq (.region (.pures hT 2 rfl (.nil (.loop (i + 1, d2, H4) ?_ ?_ (SubR.cons rfl (SubR.cons rfl (SubR.cons rfl (SubR.cons rfl (SubR.cons rfl (SubR.cons rfl (SubR.cons' rfl (by (try dsimp only); exact (int_eq (by rw [wrap_i64 (by omega) (by omega)]; omega))) (SubR.nil _)))))))) sl))))))))))
            · dsimp only
              exact ⟨by omega, hkn, hI4, by omega, by omega⟩
            · dsimp only
              omega
          ·
            refine OT.pures hT 4 rfl ?_
            refine OT.callP Tryz.call118 rfl rfl rfl rfl (guard_CheckB) (fun _ _ h => by
              obtain ⟨hb, rfl, rfl⟩ := h
              have hb : ¬ d2 = d := by simpa using hb
              exact PP.of ⟨8, H4, by rw [brk_same (by decide)], by decide, rfl, .inl ⟨(by rw [checkT_ways hrd hlf]; refine bind_err (kidsC_stop (m := i + 1) (by omega) (hkn.trans (if_neg ?_))); exact fun h => h.elim (of_decide_eq_false g81) hb), hI4⟩⟩ sl) ?_
            rintro v_86 hs_86 ⟨hb, rfl, rfl⟩
            have hb : d2 = d := by simpa using hb
            rw [if_pos (.inr hb)] at hkn
            refine OT.nil (.seq (.region (.pures hT 2 rfl (.nil (.blk (.seq (.region (.pures hT 2 rfl (.nil (.loop (i + 1, d2, H4) ?_ ?_ (SubR.cons rfl (SubR.cons rfl (SubR.cons rfl (SubR.cons rfl (SubR.cons rfl (SubR.cons rfl (SubR.cons' rfl (by (try dsimp only); exact (int_eq (by rw [wrap_i64 (by omega) (by omega)]; omega))) (SubR.nil _)))))))) sl))))))))))
            · dsimp only
              exact ⟨by omega, hkn, hI4, by omega, by omega⟩
            · dsimp only
              omega
        ·
          have c68 : ¬ i < n.keys.length := by have := of_decide_eq_false c68; omega
          have hhi := high_neg (n := n) (hi := hi) c68
          refine TT.skip (.seq (.seq (.region (.pures hT 2 rfl (.load rfl rfl (Ld.struct_all hT rfl hz rfl) rfl ?_)))))
          refine OT.callP Tryz.call116 rfl rfl rfl rfl (FunP.pull pl (ih (hni.all_kids (List.mem_of_getElem? hx)) (hdk _ (List.mem_of_getElem? hx)) hI3)) (fun _ _ h => by
            obtain ⟨e, H', rfl, he, rfl, ⟨h1, h2⟩ | h2⟩ := h
            · exact PP.of ⟨e, H', rfl, he, rfl, .inl ⟨(by rw [checkT_ways hrd hlf]; exact bind_err (kidsC_stop (m := i + 1) (by omega) (kidsC_err hk hx hlo hhi h1))), h2⟩⟩ sl
            · exact PP.of ⟨e, H', rfl, he, rfl, .inr h2⟩ sl) ?_
          rintro v_78 hs_78 ⟨H4, d2, rfl, rfl, hck, hI4, hd3, hd4⟩
          have hkn := kidsC_next hk hx hlo hhi hck
          refine OT.pures hT 1 rfl (.nil (.seq (.seq (.region (.pures hT 3 rfl (.split 81 rfl (fun g81 => ?_) (fun g81 => ?_)))))))
          ·
            refine OT.pures hT 4 rfl (.call Tryz.call118 rfl rfl rfl rfl (guard_Check) ?_)
            rintro v_86 hs_86 ⟨rfl, rfl⟩
            rw [if_pos (.inl (of_decide_eq_true g81))] at hkn
            refine OT.nil (.seq (.region (.pures hT 2 rfl (.nil (.blk (.seq (.region (.pures hT 2 rfl (.nil (.loop (i + 1, d2, H4) ?_ ?_ (SubR.cons rfl (SubR.cons rfl (SubR.cons rfl (SubR.cons rfl (SubR.cons rfl (SubR.cons rfl (SubR.cons' rfl (by (try dsimp only); exact (int_eq (by rw [wrap_i64 (by omega) (by omega)]; omega))) (SubR.nil _)))))))) sl))))))))))
            · dsimp only
              exact ⟨by omega, hkn, hI4, by omega, by omega⟩
            · dsimp only
              omega
          ·
            refine OT.pures hT 4 rfl ?_
            refine OT.callP Tryz.call118 rfl rfl rfl rfl (guard_CheckB) (fun _ _ h => by
              obtain ⟨hb, rfl, rfl⟩ := h
              have hb : ¬ d2 = d := by simpa using hb
              exact PP.of ⟨8, H4, by rw [brk_same (by decide)], by decide, rfl, .inl ⟨(by rw [checkT_ways hrd hlf]; refine bind_err (kidsC_stop (m := i + 1) (by omega) (hkn.trans (if_neg ?_))); exact fun h => h.elim (of_decide_eq_false g81) hb), hI4⟩⟩ sl) ?_
            rintro v_86 hs_86 ⟨hb, rfl, rfl⟩
            have hb : d2 = d := by simpa using hb
            rw [if_pos (.inr hb)] at hkn
            refine OT.nil (.seq (.region (.pures hT 2 rfl (.nil (.blk (.seq (.region (.pures hT 2 rfl (.nil (.loop (i + 1, d2, H4) ?_ ?_ (SubR.cons rfl (SubR.cons rfl (SubR.cons rfl (SubR.cons rfl (SubR.cons rfl (SubR.cons rfl (SubR.cons' rfl (by (try dsimp only); exact (int_eq (by rw [wrap_i64 (by omega) (by omega)]; omega))) (SubR.nil _)))))))) sl))))))))))
            · dsimp only
              exact ⟨by omega, hkn, hI4, by omega, by omega⟩
            · dsimp only
              omega
    ·
      have c50 := of_decide_eq_false c50
      obtain rfl : i = n.kids.length := by omega
      refine TT.exit (.seq (.loop (.here (.seq (.seq (.region (.pures hT 3 rfl (.nil (.seq (.ret (.ofP (rs := [.tmp 8]) [_] (H3 :: r) rfl (.tmp rfl .nil) sl ?_)))))))))))
      try dsimp only [one]
      refine ⟨H3, d + 1, rfl, int_eq (by rw [wrap_i64 (by omega) (by omega)]), by rw [checkT_ways hrd hlf]; exact bind_ok hk, hI3, by omega, by omega⟩

theorem tr_check {P : Value} {I : Chunk → Prop} {E : Int → Chunk → Prop} {pg : Pg} (hP : Pgs Tryz.prog 5 P I E pg) : ∀ (f : Nat), f ≤ 64 → ∀ {lo hi : ByteArray} {top : Bool} {H : Chunk} {r : List Chunk} {no : Int}, mayUse no → Deep pg f no → I H → FunP Tryz.prog 116 [P, .int .i64 no, .agg ⟨[.string lo, .string hi]⟩, .bool top] (H :: r) (fun v' hs' => ∃ H' d, hs' = H' :: r ∧ v' = .int .i64 d ∧ checkT pg f no lo hi top = .ok d ∧ I H' ∧ 0 ≤ d ∧ d < ((f : Nat) : Int)) (Broke I E (fun e => checkT pg f no lo hi top = .error e) r) := by
  intro f
  induction f with
  | zero => intro _ lo hi top H r no _ hd; exact hd.elim
  | succ f ih => intro hf lo hi top H r no hno hd hI; exact tr_checkS hP (by omega) (ih (by omega)) hno hd hI

end Go.Proofs.YtihpkgmfkbkffaaGreat.Sx
end

section
namespace Go.Proofs.YtihpkgmfkbkffaaGreat.Sx
open Go Go.Sx Go.Pl
variable [Outer]

set_option maxHeartbeats 4000000 in
set_option maxRecDepth 100000 in
theorem tr_Check1 {P : Value} {I : Chunk → Prop} {E : Int → Chunk → Prop} {pg : Pg} {H : Chunk} {r : List Chunk} (hP : Pgs Tryz.prog 5 P I E pg) (hI : I H) {g : Gone} (hal : allT pg = .ok g) {A K1 : Chunk} {bt bl bw cn : Nat} {an : Option Addr} {vc : Value} (ho1 : Own Go.Sx.encI 1 3 (.slice an g.1.length cn) g.1 K1) : FunP Tryz.prog 115 [.pointer (some ⟨bl, 0, none⟩), .pointer (some ⟨bt, 0, none⟩)] (A :: [(bl, blk [.pointer (some ⟨bw, 0, none⟩)] 178 (0, 0))] :: [(bt, blk [P] 107 (0, 0))] :: [(bw, blk [P, .slice an g.1.length cn, vc] 182 (0, 0))] :: K1 :: H :: r) (fun _ hs' => ∃ hs1, hs' = A :: hs1 ∧ ∃ H', checkTop pg = .ok () ∧ I H' ∧ hs1 = H' :: r) (fun v' hs' => ∃ e hs1, hs' = A :: hs1 ∧ v' = flt e ∧ e ≠ 0 ∧ ∃ H', hs1 = H' :: r ∧ ((checkTop pg = .error e ∧ I H') ∨ ∃ e0, E e0 H')) := by
  refine FunP.enter 43 Tryz.func115 rfl Tryz.ntmps115 rfl ?_
  have hgl := (allT_len hal).1
  refine TT.cut (ι := Chunk × Int) (fun j => orderT pg g = .ok (j.2) ∧ I (j.1)) (fun j => [(0, .pointer (some ⟨bl, 0, none⟩)), (1, .pointer (some ⟨bt, 0, none⟩))]) (fun j => A :: [(bl, blk [.pointer (some ⟨bw, 0, none⟩)] 178 (0, 0))] :: [(bt, blk [P] 107 (0, 0))] :: [(bw, blk [P, .slice an g.1.length cn, vc] 182 (0, 0))] :: K1 :: (j.1) :: r) ?_ ?_
  ·
    refine TT.seq (.region (.load rfl rfl (Ld.one hT rfl hz rfl) rfl ?_))
    refine OT.pures hT 2 rfl (.load rfl rfl (Ld.slc hT rfl hz rfl) rfl ?_)
    refine OT.pures hT 2 rfl (.nil (.seq (.cond rfl (fun c10 => ?_) (fun c10 => ?_))))
    ·
      have hne : g.1 ≠ [] := by
        intro e; rw [e] at c10; exact absurd (of_decide_eq_true c10) (by simp)
      obtain ⟨no, l, hgc, hno, hdp⟩ := (allT_root hal).resolve_left (fun h => hne h.1)
      have hn0 : g.1[0]? = some no := by rw [hgc]; rfl
      have hgd : g.1.getD 0 0 = no := by rw [hgc]; rfl
      refine TT.draw (([(bl, blk [.pointer (some ⟨bw, 0, none⟩)] 178 (0, 0))] :: [(bt, blk [P] 107 (0, 0))] :: [(bw, blk [P, .slice an g.1.length cn, vc] 182 (0, 0))] :: K1 :: r)) mixed (.take (fuel := 8) hT 0 rfl rfl kr kr kr rfl (.load rfl (Ld.one hT rfl hz rfl)) rfl ?_)
      refine AT.take (fuel := 7) hT 1 rfl rfl kr kr kr rfl (.load rfl (Ld.one hT rfl hz rfl)) rfl ?_
      refine AT.takes (fuel := 5) hT [2, 3] kr kr rfl (.take (fuel := 4) hT 4 rfl rfl kr kr kr rfl (.load rfl (Ld.slc hT rfl hz rfl)) rfl ?_)
      refine AT.take (fuel := 3) hT 7 rfl rfl kr kr kr rfl (fl_build hT rfl Tryz.zeroValue186 rfl rfl) rfl (.index (fuel := 2) hT 5 rfl kr kr kr rfl rfl rfl rfl ho1.row.there.there.there (by omega) hn0 rfl (fun ad_16 hel_16 => ?_))
      refine AT.take (fuel := 1) hT 6 rfl rfl kr kr kr rfl (.load rfl (hel_16.ld_one hT rfl rfl)) rfl (.op (fuel := 0) 8 kr rfl sl ?_)
      refine OT.callP Tryz.call116 rfl rfl rfl rfl (FunP.pull pl (tr_check hP 32 (by decide) hno hdp hI)) (fun _ _ h => by
        obtain ⟨e, H', rfl, he, rfl, ⟨h1, h2⟩ | ⟨e0, h2⟩⟩ := h
        · exact PP.of ⟨e, _, rfl, rfl, he, H', rfl, .inl ⟨(checkTop_order hal ((orderT_cons hne).trans (by rw [hgd]; exact h1))), h2⟩⟩ sl
        · exact PP.of ⟨e, _, rfl, rfl, he, H', rfl, .inr ⟨e0, h2⟩⟩ sl) ?_
      rintro v_19 hs_19 ⟨H2, d, rfl, rfl, hck, hI2, _, _⟩
      refine OT.nil (.any (.done kr sl (.cut (H2, d) ?_ (SubR.cons rfl (SubR.cons rfl (SubR.nil _))) sl)))
      · dsimp only
        exact ⟨(orderT_cons hne).trans (by rw [hgd]; exact hck), hI2⟩
    ·
      have hne : g.1 = [] := List.length_eq_zero_iff.1 (by have := of_decide_eq_false c10; omega)
      refine TT.skip (.cut (H, 0) ?_ (SubR.cons rfl (SubR.cons rfl (SubR.nil _))) sl)
      · dsimp only
        exact ⟨orderT_nil hne, hI⟩
  ·
    rintro ⟨H1, d⟩ hI
    dsimp only at hI
    obtain ⟨hor, hI1⟩ := hI
    show TT _ _ _ [(0, .pointer (some ⟨bl, 0, none⟩)), (1, .pointer (some ⟨bt, 0, none⟩))] (A :: [(bl, blk [.pointer (some ⟨bw, 0, none⟩)] 178 (0, 0))] :: [(bt, blk [P] 107 (0, 0))] :: [(bw, blk [P, .slice an g.1.length cn, vc] 182 (0, 0))] :: K1 :: H1 :: r)
    refine TT.seq (.region (.pures hT 1 rfl (.nil (.seq (.block (.loop (ι := Nat × Chunk) (fun j => (j.1) ≤ 32 ∧ I (j.2) ∧ marksN (whole256 (pg 1)).2 g (j.1) ∧ (0 < (j.1) → (whole256 (pg 1)).1 = 0)) (fun j => 32 - (j.1)) (fun j => [(0, .pointer (some ⟨bl, 0, none⟩)), (1, .pointer (some ⟨bt, 0, none⟩)), (20, .int .i64 ((j.1) : Nat))]) (fun j => A :: [(bl, blk [.pointer (some ⟨bw, 0, none⟩)] 178 (0, 0))] :: [(bt, blk [P] 107 (0, 0))] :: [(bw, blk [P, .slice an g.1.length cn, vc] 182 (0, 0))] :: K1 :: (j.2) :: r) (0, H1) ?_ (SubR.cons rfl (SubR.cons rfl (SubR.cons rfl (SubR.nil _)))) sl ?_))))))
    · dsimp only
      exact ⟨Nat.zero_le _, hI1, fun no h => absurd h (Nat.not_lt_zero _), fun h => absurd h (Nat.lt_irrefl 0)⟩
    rintro ⟨i, H3⟩ hI
    dsimp only at hI
    obtain ⟨hi, hI3, hm, hw⟩ := hI
    show TT _ _ _ [(0, .pointer (some ⟨bl, 0, none⟩)), (1, .pointer (some ⟨bt, 0, none⟩)), (20, .int .i64 (i : Nat))] (A :: [(bl, blk [.pointer (some ⟨bw, 0, none⟩)] 178 (0, 0))] :: [(bt, blk [P] 107 (0, 0))] :: [(bw, blk [P, .slice an g.1.length cn, vc] 182 (0, 0))] :: K1 :: H3 :: r)
    refine TT.seq (.region (.pures hT 1 rfl (.nil (.seq (.seq (.cond rfl (fun c21 => ?_) (fun c21 => ?_)))))))
    ·
      have c21 := of_decide_eq_true c21
      refine TT.skip (.seq (.seq (.block (.seq (.region (.pures hT 2 rfl (.nil (.seq (.seq (.region (.load rfl rfl (Ld.one hT rfl hz rfl) rfl ?_)))))))))))
      refine OT.pures hT 1 rfl (.call Tryz.call117 rfl rfl rfl rfl (Fun.pull pl (alloc_Used hP hI3)) ?_)
      rintro v_26 hs_26 ⟨H4, b, e, rfl, rfl, hu⟩
      refine OT.pures hT 5 rfl (.nil (.seq (.seq (.region (.pures hT 3 rfl ?_)))))
      refine OT.callP Tryz.call118 rfl rfl rfl rfl (guard_CheckB) (fun _ _ h => by
        obtain ⟨hb, rfl, rfl⟩ := h
        have hb : e ≠ 0 := by simpa using hb
        refine PP.of ⟨e, _, rfl, by rw [brk_same hb], hb, H4, rfl, ?_⟩ sl
        rcases hu with ⟨h, _⟩ | ⟨_, _, ⟨h1, h2⟩ | h2⟩
        · exact absurd h hb
        · exact .inl ⟨checkTop_fail hal hor h1 hb, h2⟩
        · exact .inr ⟨e, h2⟩) ?_
      rintro v_32 hs_32 ⟨hb, rfl, rfl⟩
      have hb : e = 0 := by simpa using hb
      obtain ⟨_, hw0, hbu, hI4⟩ := hu.resolve_right (fun h => h.1 hb)
      refine OT.nil (.seq (.region (.pures hT 1 rfl (.load rfl rfl (Ld.one hT rfl hz rfl) rfl ?_))))
      refine OT.pures hT 2 rfl (.load rfl rfl (Ld.slc hT rfl hz rfl) rfl ?_)
      refine OT.pures hT 1 rfl (.call Tryz.call119 rfl rfl rfl rfl (sl_ContainsI ho1.row.there.there.there.there.there (by omega)) ?_)
      rintro v_39 hs_39 ⟨rfl, rfl⟩
      refine OT.pures hT 1 rfl ?_
      refine OT.callP Tryz.call118 rfl rfl rfl rfl (guard_CheckB) (fun _ _ h => by
        obtain ⟨hb2, rfl, rfl⟩ := h
        exact PP.of ⟨8, _, rfl, by rw [brk_same (by decide)], by decide, H4, rfl, .inl ⟨checkTop_mark hal hor hw0 (i := i) (by omega) (by rw [← hbu]; simpa using hb2), hI4⟩⟩ sl) ?_
      rintro v_41 hs_41 ⟨hb2, rfl, rfl⟩
      have hb2 : hasB (whole256 (pg 1)).2 (i : Nat) = decide ((i : Int) ∈ g.1) := by rw [← hbu]; simpa using hb2
      refine OT.nil (.blk (.seq (.region (.pures hT 2 rfl (.nil (.loop (i + 1, H4) ?_ ?_ (SubR.cons rfl (SubR.cons rfl (SubR.cons' rfl (by (try dsimp only); exact (int_eq (by rw [wrap_i64 (by omega) (by omega)]; omega))) (SubR.nil _)))) sl))))))
      · dsimp only
        refine ⟨by omega, hI4, fun no h => ?_, fun _ => hw0⟩
        by_cases e : no = i
        · subst e; exact hb2
        · exact hm no (by omega)
      · dsimp only
        omega
    ·
      have c21 := of_decide_eq_false c21
      obtain rfl : i = 32 := by omega
      refine TT.exit (.seq (.loop (.here (.ofP (rs := []) [] (A :: H3 :: r) rfl .nil sl ?_))))
      try dsimp only [one]
      exact ⟨_, rfl, H3, checkTop_ok hal hor (hw (by decide)) hm, hI3, rfl⟩

set_option maxHeartbeats 2000000 in
set_option maxRecDepth 100000 in
theorem tr_Check {P : Value} {I : Chunk → Prop} {E : Int → Chunk → Prop} {pg : Pg} {H : Chunk} {r : List Chunk} (hP : Pgs Tryz.prog 5 P I E pg) (hI : I H) : Fun Tryz.prog 70 [P] (H :: r) (fun v' hs' => ∃ H' e, v' = .int .i64 e ∧ hs' = H' :: r ∧ ((e = 0 ∧ checkTop pg = .ok () ∧ I H') ∨ (e ≠ 0 ∧ ((checkTop pg = .error e ∧ I H') ∨ ∃ e0, E e0 H')))) := by
  refine Fun.enter 15 Tryz.func70 rfl Tryz.ntmps70 rfl ?_
  obtain ⟨ti, ui, hPe⟩ := hP.iface
  subst hPe
  refine TT.seq (.region (.box rfl rfl rfl (fun b_1 => ?_)))
  refine OT.pures hT 1 rfl (.nil (.seq (.seq (.region (.load rfl rfl (Ld.one hT rfl hz rfl) rfl ?_)))))
  refine OT.call Tryz.call110 rfl rfl rfl rfl (Fun.pull pl (tr_all hP hI)) ?_
  rintro v_7 hs_7 (⟨bw, g, vn, vc, K1, K2, H', rfl, hal, ho1, ho2, hI', rfl⟩ | ⟨p, e, H', rfl, he, rfl, hbad⟩)
  ·
    obtain ⟨an, cn, e1⟩ := (ho1.row (hs := [])).len
    subst e1
    have hgl := allT_len hal
    refine OT.pures hT 3 rfl (.alloc Tryz.zeroValue178 rfl rfl (fun b_3 => ?_))
    refine OT.store_all hT rfl rfl rfl rfl pl rfl rfl rfl (.inl (Nat.le_refl _)) ?_
    refine OT.pures hT 1 rfl (.nil (.seq (.seq (.seq (.region (.pures hT 2 rfl (.nil (.seq (.cond rfl (fun c11 => ?_) (fun c11 => ?_))))))))))
    ·
      exact absurd c11 (by decide)
    ·
      refine TT.skip (.seq (.seq (.region (.pures hT 1 rfl (.call Tryz.call84 rfl rfl rfl rfl ((guard_Try (N := fun _ hs1 => ∃ H', checkTop pg = .ok () ∧ I H' ∧ hs1 = H' :: r) (E := fun e hs1 => e ≠ 0 ∧ ∃ H', hs1 = H' :: r ∧ ((checkTop pg = .error e ∧ I H') ∨ ∃ e0, E e0 H')) Tryz.call115 (fun A => FunP.weaken sl (tr_Check1 (r := r) (A := A) (K1 := K1) (bt := b_1) (bl := b_3) (bw := bw) (vc := vc) hP hI' hal ho1)))) ?_)))))
      rintro v_14 hs_14 (⟨rfl, _, H2, hch, hI2, rfl⟩ | ⟨e, rfl, he, H2, rfl, hbad⟩)
      ·
        refine OT.pures hT 1 rfl (.nil (.seq (.ret (.of (rs := [.tmp 2]) [_] (H2 :: r) rfl (.tmp rfl .nil) sl ?_))))
        try dsimp only [one]
        exact ⟨H2, 0, rfl, rfl, .inl ⟨rfl, hch, hI2⟩⟩
      ·
        refine OT.pures hT 1 rfl (.nil (.seq (.ret (.of (rs := [.tmp 2]) [_] (H2 :: r) rfl (.tmp rfl .nil) sl ?_))))
        try dsimp only [one]
        exact ⟨H2, e, rfl, rfl, .inr ⟨he, hbad⟩⟩
  ·
    refine OT.pures hT 3 rfl (.alloc Tryz.zeroValue178 rfl rfl (fun b_3 => ?_))
    refine OT.store_all hT rfl rfl rfl rfl pl rfl rfl rfl (.inl (Nat.le_refl _)) ?_
    refine OT.pures hT 1 rfl (.nil (.seq (.seq (.seq (.region (.pures hT 2 rfl (.nil (.seq (.cond rfl (fun c11 => ?_) (fun c11 => ?_))))))))))
    ·
      refine TT.seq (.region (.pures hT 2 rfl (.nil (.seq (.ret (.of (rs := [.tmp 2]) [_] (H' :: r) rfl (.tmp rfl .nil) sl ?_))))))
      try dsimp only [one]
      refine ⟨H', e, rfl, rfl, .inr ⟨he, ?_⟩⟩
      rcases hbad with ⟨h1, h2⟩ | h2
      · exact .inl ⟨checkTop_err h1, h2⟩
      · exact .inr h2
    ·
      exact absurd c11 (by simpa using he)

end Go.Proofs.YtihpkgmfkbkffaaGreat.Sx
end

section
namespace Go.Proofs.YtihpkgmfkbkffaaGreat.Sx
open Go Go.Sx Go.Pl
variable [Outer]

/-- a right book on a sheet above an empty one -/
def TrS (b : Nat) (g : Gone) (H : Chunk) : Prop := ∃ bk, TrIn 110 b (.iface 26 (.pointer (some ⟨bk, 0, none⟩))) (BkAt 30 bk noP) noP g H

theorem bookA {bk : Nat} : PgsA Tryz.prog 5 (.iface 26 (.pointer (some ⟨bk, 0, none⟩))) (BkAt 30 bk noP) (fun _ _ => False) (pgOf noP) := PgsA.of (fun no => by
  unfold pgOf; split
  · show (noughts 256).length ≤ 4096; rw [noughts_length]; omega
  · exact Nat.zero_le _) book_Pgs

theorem tk_New {bk : Nat} {B : Chunk} {r : List Chunk} (hB : BkAt 30 bk noP B) : Fun Tryz.prog 15 [.iface 26 (.pointer (some ⟨bk, 0, none⟩))] (B :: r) (fun v' hs' => ∃ b H', v' = .pointer (some ⟨b, 0, none⟩) ∧ hs' = H' :: r ∧ TrS b ([], []) H') := by
  refine (sh_New (I := BkAt 30 bk noP) hB).mono ?_
  rintro v' hs' ⟨b, H', rfl, rfl, h3⟩
  exact ⟨b, H', rfl, rfl, bk, noP, ⟨_, h3, (layC_none _).symm⟩, zero_right⟩

theorem tk_Put {b : Nat} {g : Gone} {H : Chunk} {r : List Chunk} (hH : TrS b g H) {x : Cell} (hxf : x.val.f < 2 ^ 64 ∧ x.new.f < 2 ^ 64) : Fun Tryz.prog 54 [.pointer (some ⟨b, 0, none⟩), .agg ⟨encCell x⟩] (H :: r) (fun v' hs' => ∃ H' g' e, hs' = H' :: r ∧ v' = .int .i64 e ∧ TrS b g' H' ∧ PutR x g g' e) := by
  obtain ⟨bk, Qt, hS, hR⟩ := hH
  refine (tr_Put bookA noP_long hS hxf).mono ?_
  rintro v' hs' ⟨H', e, rfl, rfl, ⟨hm, rfl, hS'⟩ | ⟨hm, ⟨Q', rfl, hp, hS'⟩ | ⟨he, hp, hS'⟩ | hb⟩⟩
  · exact ⟨H', g, 1, rfl, rfl, ⟨bk, Qt, hS', hR⟩, .inl ⟨hm, rfl, rfl⟩⟩
  · obtain ⟨g', h1, h2, h3⟩ := hR.putR hm hxf hp
    exact ⟨H', g', 0, rfl, rfl, ⟨bk, Q', hS', h1⟩, .inr (.inl ⟨hm, rfl, h2, h3⟩)⟩
  · obtain ⟨rfl, h2, h3, h4⟩ := hR.putE hm hxf hp
    exact ⟨H', g, 4, rfl, rfl, ⟨bk, Qt, hS', hR⟩, .inr (.inr ⟨hm, rfl, rfl, h2, h3, h4⟩)⟩
  · exact (no_bad hb).elim

theorem tk_Del {b : Nat} {g : Gone} {H : Chunk} {r : List Chunk} (hH : TrS b g H) {k : ByteArray} : Fun Tryz.prog 56 [.pointer (some ⟨b, 0, none⟩), .string k] (H :: r) (fun v' hs' => ∃ H' g', hs' = H' :: r ∧ v' = .tuple ⟨[.bool (getC g.2 k).isSome, .int .i64 0]⟩ ∧ TrS b g' H' ∧ g'.2 = cutC g.2 k ∧ g'.1.length ≤ g.1.length) := by
  obtain ⟨bk, Qt, hS, hR⟩ := hH
  refine (tr_Del bookA noP_long hS).mono ?_
  rintro v' hs' ⟨H', has, e, rfl, rfl, ⟨Q', rfl, hp, hS'⟩ | ⟨_, _, hp, _⟩ | ⟨_, hb⟩⟩
  · obtain ⟨g', h1, h2, rfl, h3⟩ := hR.delR hp
    exact ⟨H', g', rfl, rfl, ⟨bk, Q', hS', h1⟩, h2, h3⟩
  · exact absurd hp hR.delE
  · exact (no_bad hb).elim

theorem tk_Get {b : Nat} {g : Gone} {H : Chunk} {r : List Chunk} (hH : TrS b g H) {k : ByteArray} : Fun Tryz.prog 53 [.iface 24 (.pointer (some ⟨b, 0, none⟩)), .string k] (H :: r) (fun v' hs' => ∃ H', hs' = H' :: r ∧ v' = .tuple ⟨[.agg ⟨encCell ((getC g.2 k).getD noCell)⟩, .bool (getC g.2 k).isSome, .int .i64 0]⟩ ∧ TrS b g H') := by
  obtain ⟨bk, Qt, hS, hR⟩ := hH
  refine (tr_Get (sheet_Pgs bookA noP_long (Qt := Qt)).pgs hS).mono ?_
  rintro v' hs' ⟨H', o, e, rfl, rfl, ⟨rfl, hp, hS'⟩ | ⟨_, _, ⟨hp, _⟩ | ⟨_, _, hb⟩⟩⟩
  · exact ⟨H', rfl, by rw [hR.getR hp], bk, Qt, hS', hR⟩
  · exact absurd hp hR.getE
  · exact (no_bad hb).elim

theorem tk_Scan {b : Nat} {g : Gone} {H : Chunk} {r : List Chunk} (hH : TrS b g H) {s t : ByteArray} : Fun Tryz.prog 60 [.iface 24 (.pointer (some ⟨b, 0, none⟩)), .string s, .string t] (H :: r) (fun v' hs' => ∃ H' K v, hs' = H' :: K :: r ∧ v' = .tuple ⟨[v, .int .i64 0]⟩ ∧ Own encCell 8 113 v (g.2.filter fun c => keyIn c.key s t) K ∧ TrS b g H') := by
  obtain ⟨bk, Qt, hS, hR⟩ := hH
  refine (tr_Scan (sheet_Pgs bookA noP_long (Qt := Qt)).pgs hS).mono ?_
  rintro v' hs' (⟨H', K, v, g', rfl, rfl, hal, ho, hS'⟩ | ⟨e, H', rfl, _, rfl, ⟨hp, _⟩ | ⟨_, _, hb⟩⟩)
  · rw [hR.all] at hal
    injection hal with hal
    subst hal
    exact ⟨H', K, v, rfl, rfl, ho, bk, Qt, hS', hR⟩
  · rw [hR.all] at hp; cases hp
  · exact (no_bad hb).elim

theorem tk_Check {b : Nat} {g : Gone} {H : Chunk} {r : List Chunk} (hH : TrS b g H) : Fun Tryz.prog 70 [.iface 24 (.pointer (some ⟨b, 0, none⟩))] (H :: r) (fun v' hs' => ∃ H', hs' = H' :: r ∧ v' = .int .i64 0 ∧ TrS b g H') := by
  obtain ⟨bk, Qt, hS, hR⟩ := hH
  refine (tr_Check (sheet_Pgs bookA noP_long (Qt := Qt)).pgs hS).mono ?_
  rintro v' hs' ⟨H', e, rfl, rfl, ⟨rfl, _, hS'⟩ | ⟨_, ⟨hp, _⟩ | ⟨_, _, hb⟩⟩⟩
  · exact ⟨H', rfl, rfl, bk, Qt, hS', hR⟩
  · rw [hR.check] at hp; cases hp
  · exact (no_bad hb).elim

omit [Outer] in
theorem TrS.small {b : Nat} {g : Gone} {H : Chunk} (h : TrS b g H) : g.1.length ≤ 30 ∧ g.2.length ≤ 8192 ∧ rising (keysOf g.2) ∧ g.1.Nodup ∧ (∀ m ∈ g.1, mayUse m) := by obtain ⟨bk, h⟩ := h; exact h.small

omit [Outer] in
theorem TrS.any {b : Nat} {g : Gone} {H : Chunk} (h : TrS b g H) (h0 : 0 < g.2.length) : 0 < g.1.length := by obtain ⟨bk, h⟩ := h; exact h.any h0

omit [Outer] in
theorem TrS.nil {b : Nat} {g : Gone} {H : Chunk} (h : TrS b g H) (h0 : g.2 = []) : g = ([], []) := by obtain ⟨bk, h⟩ := h; exact h.nil h0


end Go.Proofs.YtihpkgmfkbkffaaGreat.Sx
end

section
namespace Go.Proofs.YtihpkgmfkbkffaaGreat.Sx
open Go Go.Sx Go.Pl
variable [Outer]

theorem tg_Put {P : Value} {I : Chunk → Prop} {Qb : Pages} (hP : PgsA Tryz.prog 5 P I (fun _ _ => False) (pgOf Qb)) (hQ : Long Qb) {b : Nat} {g : Gone} {H : Chunk} {r : List Chunk} (hH : TrIn 110 b P I Qb g H) {x : Cell} (hxf : x.val.f < 2 ^ 64 ∧ x.new.f < 2 ^ 64) : Fun Tryz.prog 54 [.pointer (some ⟨b, 0, none⟩), .agg ⟨encCell x⟩] (H :: r) (fun v' hs' => ∃ H' g' e, hs' = H' :: r ∧ v' = .int .i64 e ∧ TrIn 110 b P I Qb g' H' ∧ PutR x g g' e) := by
  obtain ⟨Qt, hS, hR⟩ := hH
  refine (tr_Put hP hQ hS hxf).mono ?_
  rintro v' hs' ⟨H', e, rfl, rfl, ⟨hm, rfl, hS'⟩ | ⟨hm, ⟨Q', rfl, hp, hS'⟩ | ⟨he, hp, hS'⟩ | hb⟩⟩
  · exact ⟨H', g, 1, rfl, rfl, ⟨Qt, hS', hR⟩, .inl ⟨hm, rfl, rfl⟩⟩
  · obtain ⟨g', h1, h2, h3⟩ := hR.putR hm hxf hp
    exact ⟨H', g', 0, rfl, rfl, ⟨Q', hS', h1⟩, .inr (.inl ⟨hm, rfl, h2, h3⟩)⟩
  · obtain ⟨rfl, h2, h3, h4⟩ := hR.putE hm hxf hp
    exact ⟨H', g, 4, rfl, rfl, ⟨Qt, hS', hR⟩, .inr (.inr ⟨hm, rfl, rfl, h2, h3, h4⟩)⟩
  · exact (no_bad hb).elim

theorem tg_Del {P : Value} {I : Chunk → Prop} {Qb : Pages} (hP : PgsA Tryz.prog 5 P I (fun _ _ => False) (pgOf Qb)) (hQ : Long Qb) {b : Nat} {g : Gone} {H : Chunk} {r : List Chunk} (hH : TrIn 110 b P I Qb g H) {k : ByteArray} : Fun Tryz.prog 56 [.pointer (some ⟨b, 0, none⟩), .string k] (H :: r) (fun v' hs' => ∃ H' g', hs' = H' :: r ∧ v' = .tuple ⟨[.bool (getC g.2 k).isSome, .int .i64 0]⟩ ∧ TrIn 110 b P I Qb g' H' ∧ g'.2 = cutC g.2 k ∧ g'.1.length ≤ g.1.length) := by
  obtain ⟨Qt, hS, hR⟩ := hH
  refine (tr_Del hP hQ hS).mono ?_
  rintro v' hs' ⟨H', has, e, rfl, rfl, ⟨Q', rfl, hp, hS'⟩ | ⟨_, _, hp, _⟩ | ⟨_, hb⟩⟩
  · obtain ⟨g', h1, h2, rfl, h3⟩ := hR.delR hp
    exact ⟨H', g', rfl, rfl, ⟨Q', hS', h1⟩, h2, h3⟩
  · exact absurd hp hR.delE
  · exact (no_bad hb).elim

theorem tg_Get {P : Value} {I : Chunk → Prop} {Qb : Pages} (hP : PgsA Tryz.prog 5 P I (fun _ _ => False) (pgOf Qb)) (hQ : Long Qb) {b : Nat} {g : Gone} {H : Chunk} {r : List Chunk} (hH : TrIn 110 b P I Qb g H) {k : ByteArray} : Fun Tryz.prog 53 [.iface 24 (.pointer (some ⟨b, 0, none⟩)), .string k] (H :: r) (fun v' hs' => ∃ H', hs' = H' :: r ∧ v' = .tuple ⟨[.agg ⟨encCell ((getC g.2 k).getD noCell)⟩, .bool (getC g.2 k).isSome, .int .i64 0]⟩ ∧ TrIn 110 b P I Qb g H') := by
  obtain ⟨Qt, hS, hR⟩ := hH
  refine (tr_Get (sheet_Pgs hP hQ (Qt := Qt)).pgs hS).mono ?_
  rintro v' hs' ⟨H', o, e, rfl, rfl, ⟨rfl, hp, hS'⟩ | ⟨_, _, ⟨hp, _⟩ | ⟨_, _, hb⟩⟩⟩
  · exact ⟨H', rfl, by rw [hR.getR hp], Qt, hS', hR⟩
  · exact absurd hp hR.getE
  · exact (no_bad hb).elim

theorem tg_Scan {P : Value} {I : Chunk → Prop} {Qb : Pages} (hP : PgsA Tryz.prog 5 P I (fun _ _ => False) (pgOf Qb)) (hQ : Long Qb) {b : Nat} {g : Gone} {H : Chunk} {r : List Chunk} (hH : TrIn 110 b P I Qb g H) {s t : ByteArray} : Fun Tryz.prog 60 [.iface 24 (.pointer (some ⟨b, 0, none⟩)), .string s, .string t] (H :: r) (fun v' hs' => ∃ H' K v, hs' = H' :: K :: r ∧ v' = .tuple ⟨[v, .int .i64 0]⟩ ∧ Own encCell 8 113 v (g.2.filter fun c => keyIn c.key s t) K ∧ TrIn 110 b P I Qb g H') := by
  obtain ⟨Qt, hS, hR⟩ := hH
  refine (tr_Scan (sheet_Pgs hP hQ (Qt := Qt)).pgs hS).mono ?_
  rintro v' hs' (⟨H', K, v, g', rfl, rfl, hal, ho, hS'⟩ | ⟨e, H', rfl, _, rfl, ⟨hp, _⟩ | ⟨_, _, hb⟩⟩)
  · rw [hR.all] at hal
    injection hal with hal
    subst hal
    exact ⟨H', K, v, rfl, rfl, ho, Qt, hS', hR⟩
  · rw [hR.all] at hp; cases hp
  · exact (no_bad hb).elim

/-- the sheet at t, above the one at s that holds pages Qs, holds the tree g -/
def TrT (s t : Nat) (P : Value) (I : Chunk → Prop) (Qb Qs : Pages) (g : Gone) (H : Chunk) : Prop := ∃ Qt, ShAt 110 t (.iface 24 (.pointer (some ⟨s, 0, none⟩))) (ShAt 110 s P I Qb Qs) Qs Qt H ∧ RightT Qt g

theorem tt_NewS {P : Value} {I : Chunk → Prop} {Qb : Pages} (hP : PgsA Tryz.prog 5 P I (fun _ _ => False) (pgOf Qb)) (hQ : Long Qb) {s : Nat} {Qs : Pages} {g : Gone} {H : Chunk} {r : List Chunk} (hS : ShAt 110 s P I Qb Qs H) (hR : RightT Qs g) : Fun Tryz.prog 15 [.iface 24 (.pointer (some ⟨s, 0, none⟩))] (H :: r) (fun v' hs' => ∃ t H', v' = .pointer (some ⟨t, 0, none⟩) ∧ hs' = H' :: r ∧ TrT s t P I Qb Qs g H') := by
  refine (sh_New (I := ShAt 110 s P I Qb Qs) hS).mono ?_
  rintro v' hs' ⟨t, H', rfl, rfl, h3⟩
  exact ⟨t, H', rfl, rfl, Qs, ⟨_, h3, (layC_none _).symm⟩, hR⟩

theorem tt_Place {P : Value} {I : Chunk → Prop} {Qb : Pages} (hP : PgsA Tryz.prog 5 P I (fun _ _ => False) (pgOf Qb)) (hQ : Long Qb) {s t : Nat} {Qs : Pages} (hQs : Long Qs) {g : Gone} {H : Chunk} {r : List Chunk} (hH : TrT s t P I Qb Qs g H) {x c : Cell} (hm : mayCell x = true) (hxf : x.val.f < 2 ^ 64 ∧ x.new.f < 2 ^ 64) (hc : c ∈ g.2) (hk : c.key = x.key) (hl : (cellBytes x).length ≤ (cellBytes c).length) : Fun Tryz.prog 54 [.pointer (some ⟨t, 0, none⟩), .agg ⟨encCell x⟩] (H :: r) (fun v' hs' => ∃ H' g', hs' = H' :: r ∧ v' = .int .i64 0 ∧ TrT s t P I Qb Qs g' H' ∧ g'.2 = insC g.2 x) := by
  obtain ⟨Qt, hS, hR⟩ := hH
  refine (tr_Put (sheet_Pgs hP hQ) hQs hS hxf).mono ?_
  rintro v' hs' ⟨H', e, rfl, rfl, ⟨hm', rfl, hS'⟩ | ⟨_, ⟨Q', rfl, hp, hS'⟩ | ⟨he, hp, hS'⟩ | hb⟩⟩
  · rw [hm] at hm'; cases hm'
  · obtain ⟨g', h1, h2, _⟩ := hR.putR hm hxf hp
    exact ⟨H', g', rfl, rfl, ⟨Q', hS', h1⟩, h2⟩
  · obtain ⟨_, _, _, h4⟩ := hR.putE hm hxf hp
    have := h4 c hc hk
    omega
  · obtain ⟨_, h⟩ := hb
    obtain ⟨_, _, _, _, _, _, _, h⟩ := h.is
    exact (no_bad h).elim

theorem tt_Del {P : Value} {I : Chunk → Prop} {Qb : Pages} (hP : PgsA Tryz.prog 5 P I (fun _ _ => False) (pgOf Qb)) (hQ : Long Qb) {s t : Nat} {Qs : Pages} (hQs : Long Qs) {g : Gone} {H : Chunk} {r : List Chunk} (hH : TrT s t P I Qb Qs g H) {k : ByteArray} : Fun Tryz.prog 56 [.pointer (some ⟨t, 0, none⟩), .string k] (H :: r) (fun v' hs' => ∃ H' g' bb, hs' = H' :: r ∧ v' = .tuple ⟨[.bool bb, .int .i64 0]⟩ ∧ TrT s t P I Qb Qs g' H' ∧ g'.2 = cutC g.2 k) := by
  obtain ⟨Qt, hS, hR⟩ := hH
  refine (tr_Del (sheet_Pgs hP hQ) hQs hS).mono ?_
  rintro v' hs' ⟨H', has, e, rfl, rfl, ⟨Q', rfl, hp, hS'⟩ | ⟨_, _, hp, _⟩ | ⟨_, hb⟩⟩
  · obtain ⟨g', h1, h2, rfl, h3⟩ := hR.delR hp
    exact ⟨H', g', _, rfl, rfl, ⟨Q', hS', h1⟩, h2⟩
  · exact absurd hp hR.delE
  · obtain ⟨_, h⟩ := hb
    obtain ⟨_, _, _, _, _, _, _, h⟩ := h.is
    exact (no_bad h).elim

theorem tt_ChangesT {P : Value} {I : Chunk → Prop} {Qb : Pages} (hP : PgsA Tryz.prog 5 P I (fun _ _ => False) (pgOf Qb)) (hQ : Long Qb) {s t : Nat} {Qs Qt : Pages} (hQs : Long Qs) {H : Chunk} {r : List Chunk} (hS : ShAt 110 t (.iface 24 (.pointer (some ⟨s, 0, none⟩))) (ShAt 110 s P I Qb Qs) Qs Qt H) : Fun Tryz.prog 47 [.pointer (some ⟨t, 0, none⟩)] (H :: r) (fun v' hs' => ∃ ts HI H', hs' = HI :: H' :: r ∧ OwnIms 143 5 v' ts HI ∧ ShAt 110 t (.iface 24 (.pointer (some ⟨s, 0, none⟩))) (ShAt 110 s P I Qb Qs) Qs Qt H' ∧ imgs ts = chgs Qs Qt 96 ∧ (∀ x ∈ imgs ts, mayPage x.1 ∧ x.2.length = 256) ∧ ts.length ≤ 96) := by
  obtain ⟨m, hm, rfl⟩ := hS
  refine (sh_Changes (bd := false) (sheet_Pgs hP hQ) hQs hm).mono ?_
  rintro v' hs' ⟨bd, ts, HI, H', rfl, ho, hS', _, hch, hmy, hl⟩
  cases bd with
  | true =>
    obtain ⟨_, _, _, _, _, _, _, hb⟩ := hS'.is
    exact (no_bad hb : False).elim
  | false => exact ⟨ts, HI, H', rfl, ho, ⟨m, hS', rfl⟩, hch rfl, hmy, hl⟩

end Go.Proofs.YtihpkgmfkbkffaaGreat.Sx
end
