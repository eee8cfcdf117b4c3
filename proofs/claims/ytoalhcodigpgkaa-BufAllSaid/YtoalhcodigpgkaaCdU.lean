/- BufAll: it answers true. Printed by a program of ours off the loaded program and our notes; Lean checks it. -/
import Derived.Test.YtoalhcodigpgkaaPhE
import Derived.Test.YtoalhcodigpgkaaSxT
import Derived.Test.YtoalhcodigpgkaaCdT
import Derived.Test.YtoalhcodigpgkaaSxL
namespace Go.Proofs.Ytoalhcodigpgkaa.Sx
open Go Go.Sx Go.Pl
variable [Outer]

set_option maxHeartbeats 16000000 in
set_option maxRecDepth 100000 in
theorem law_BufAll {v : Value} {os : List Go.Pl.Op} {hs : List Chunk} (hy : Row encOp 3 hs v os) (hyl : os.length ≤ 9223372036854775807) (hyr : ∀ o ∈ os, (-9223372036854775808 ≤ o.no ∧ o.no ≤ 9223372036854775807)) : Fun Try.prog 4 [v] hs (fun v' hs' => v' = .bool true ∧ hs = hs') := by
  refine Fun.enter 155 Try.func4 rfl Try.ntmps4 rfl ?_
  obtain ⟨a0, c0, hv0⟩ := hy.len
  subst hv0
  obtain ⟨l0, d1, hm, hinv0⟩ := ainv_zero
  have hz8 : (Value.agg Try.zeroCells38).cells.toList = List.replicate 96 (.slice none 0 0) := by kernel_rfl
  have hz9 : (Value.agg Try.zeroCells39).cells.toList = (List.replicate 96 (0 : Int)).flatMap Go.Sx.encI := by kernel_rfl
  refine TT.seq (.region (.pures hT 1 rfl (.nil (.seq (.seq (.region (.call Try.call8 rfl rfl rfl rfl (law18_begun) ?_)))))))
  rintro v_20 hs_20 ⟨rfl, rfl⟩
  refine OT.pures hT 1 rfl (.nil (.seq (.seq (.seq (.region (.pures hT 2 rfl (.nil (.seq (.cond_false rfl (.skip (.seq (.seq (.region (.call Try.call9 rfl rfl rfl rfl (dev_New (n := 1410)) ?_))))))))))))))
  rintro v_23 hs_23 ⟨HD, rfl, hd⟩
  obtain ⟨bd, hpd⟩ := hd.ptr
  subst hpd
  refine OT.pures hT 1 rfl (.nil (.seq (.seq (.region (.pures hT 1 rfl (.call Try.call10 rfl rfl rfl rfl (wal_Make hd) ?_))))))
  rintro v_26 hs_26 ⟨q, HL, HD1, rfl, rfl, hopt, hd1⟩
  rw [hm] at hopt hd1 ⊢
  have hl : IsLog 5 2 98 72 q (.pointer (some ⟨bd, 0, none⟩)) l0 HL := hopt
  obtain ⟨bl, hql⟩ := hl.ptr
  subst hql
  refine OT.pures hT 5 rfl (.nil (.seq (.seq (.seq (.region (.pures hT 2 rfl (.nil (.seq (.cond_false rfl (.skip (.seq (.seq (.region (.pures hT 2 rfl (.call Try.call11 rfl rfl rfl rfl (buf_New) ?_)))))))))))))))
  rintro v_33 hs_33 ⟨HP, rfl, hp⟩
  obtain ⟨bp, _, _, _, hpp, _⟩ := hp.is
  subst hpp
  refine OT.pures hT 1 rfl (.nil (.seq (.seq (.region (.alloc Try.zeroValue38 rfl rfl (fun b_8 => ?_))))))
  refine OT.nil (.seq (.seq (.region (.alloc Try.zeroValue39 rfl rfl (fun b_9 => ?_)))))
  refine OT.nil (.seq (.seq (.seq (.region (.pures hT 1 rfl (.nil (.seq (.block (.chunk0 (.loop (ι := Nat × (List Value) × Chunk) (fun j => (j.1) ≤ 96 ∧ Arr (fun _ => noughts 256) (j.2.2) (j.2.1) (j.1)) (fun j => 96 - (j.1)) (fun j => [(0, .slice a0 os.length c0), (4, .pointer (some ⟨bd, 0, none⟩)), (5, .pointer (some ⟨bl, 0, none⟩)), (7, .pointer (some ⟨bp, 0, none⟩)), (8, .pointer (some ⟨b_8, 0, none⟩)), (9, .pointer (some ⟨b_9, 0, none⟩)), (10, .int .i64 ((j.1) : Nat))]) (fun j => [(b_8, blk (j.2.1) 38 (0, 0))] :: [(b_9, blk ((List.replicate 96 (0 : Int)).flatMap Go.Sx.encI) 39 (0, 0))] :: (j.2.2) :: HP :: HL :: HD1 :: hs) (0, List.replicate 96 (.slice none 0 0), []) ?_ (SubR.cons rfl (SubR.cons rfl (SubR.cons rfl (SubR.cons rfl (SubR.cons rfl (SubR.cons rfl (SubR.cons rfl (SubR.nil _)))))))) (by rw [hz8, hz9]; exact sl) ?_))))))))))
  · dsimp only
    exact ⟨by omega, by simp, by unfold Go.Sx.ones; rw [List.all_eq_true]; intro x hx; rw [List.eq_of_mem_replicate hx]; rfl, by intro k hk; omega⟩
  rintro ⟨i, vs, K⟩ hI
  dsimp only at hI
  obtain ⟨hi, hV⟩ := hI
  show TT _ _ _ [(0, .slice a0 os.length c0), (4, .pointer (some ⟨bd, 0, none⟩)), (5, .pointer (some ⟨bl, 0, none⟩)), (7, .pointer (some ⟨bp, 0, none⟩)), (8, .pointer (some ⟨b_8, 0, none⟩)), (9, .pointer (some ⟨b_9, 0, none⟩)), (10, .int .i64 (i : Nat))] ([(b_8, blk vs 38 (0, 0))] :: [(b_9, blk ((List.replicate 96 (0 : Int)).flatMap Go.Sx.encI) 39 (0, 0))] :: K :: HP :: HL :: HD1 :: hs)
  refine TT.seq (.seq (.region (.pures hT 2 rfl (.nil (.seq (.cond rfl (fun c35 => ?_) (fun c35 => ?_)))))))
  ·
    have c35 := of_decide_eq_true c35
    have hvl := hV.len
    refine TT.skip (.seq (.seq (.block (.region (.pures hT 1 rfl ?_)))))
    refine OT.make (enc := Go.Sx.encB) (z0 := (0 : UInt8)) (n := 256) el31 Try.zeroValue5 rfl rfl rfl rfl rfl (by decide) rfl (fun v_39 H_39 ho_39 => ?_)
    obtain ⟨a39, c39, hv39⟩ := (ho_39.row (hs := hs)).len
    subst hv39
    refine OT.index_at hT rfl rfl rfl rfl (by omega) (by omega) rfl (.store hT rfl rfl rfl rfl pl rfl (by rw [hvl]; show 0 + ((i : Nat) : Int).toNat * 1 + 1 ≤ 96; omega) rfl (.inl (Nat.le_refl _)) (cs' := vs.set i (.slice a39 (List.replicate 256 (0 : UInt8)).length c39)) (splice_one (by omega) _ (by omega)) ?_)
    refine OT.nil (.blk (.seq (.region (.pures hT 3 rfl (.nil (.loop (i + 1, vs.set i (.slice a39 (List.replicate 256 (0 : UInt8)).length c39), H_39 ++ K) ?_ ?_ (SubR.cons rfl (SubR.cons rfl (SubR.cons rfl (SubR.cons rfl (SubR.cons rfl (SubR.cons rfl (SubR.cons' rfl (by (try dsimp only); exact (int_eq (by rw [wrap_i64 (by omega) (by omega)]; omega))) (SubR.nil _)))))))) sl))))))
    · dsimp only
      exact ⟨by omega, hV.more (by omega) rfl ho_39⟩
    · dsimp only
      omega
  ·
    have c35 := of_decide_eq_false c35
    obtain rfl : i = 96 := by omega
    refine TT.exit (.seq (.loop (.here (.seq (.seq (.seq (.region (.pures hT 1 rfl (.nil (.seq (.block (.loop (ι := Nat × (Int → List UInt8) × (Int → Int) × (List Fr) × Log × Dev × (List Value) × (List Int) × Chunk × Chunk × Chunk × Chunk) (fun j => (j.1) ≤ os.length ∧ (j.1) ≤ 60 ∧ AInv ((j.1)) (j.2.1) (j.2.2.1) (j.2.2.2.1) (j.2.2.2.2.1) (j.2.2.2.2.2.1) ∧ Arr (j.2.1) (j.2.2.2.2.2.2.2.2.2.2.2) (j.2.2.2.2.2.2.1) 96 ∧ Nums (j.2.2.1) (j.2.2.2.2.2.2.2.1) ∧ IsPool 5 79 75 76 (.pointer (some ⟨bp, 0, none⟩)) (.pointer (some ⟨bd, 0, none⟩)) (.pointer (some ⟨bl, 0, none⟩)) (j.2.2.2.1) (j.2.2.2.2.2.2.2.2.1) ∧ IsLog 5 2 98 72 (.pointer (some ⟨bl, 0, none⟩)) (.pointer (some ⟨bd, 0, none⟩)) (j.2.2.2.2.1) (j.2.2.2.2.2.2.2.2.2.1) ∧ IsDev 89 65 (.pointer (some ⟨bd, 0, none⟩)) (j.2.2.2.2.2.1) (j.2.2.2.2.2.2.2.2.2.2.1)) (fun j => os.length - (j.1)) (fun j => [(0, .slice a0 os.length c0), (4, .pointer (some ⟨bd, 0, none⟩)), (5, .pointer (some ⟨bl, 0, none⟩)), (7, .pointer (some ⟨bp, 0, none⟩)), (8, .pointer (some ⟨b_8, 0, none⟩)), (9, .pointer (some ⟨b_9, 0, none⟩)), (11, .int .i64 ((j.1) : Nat))]) (fun j => [(b_8, blk (j.2.2.2.2.2.2.1) 38 (0, 0))] :: [(b_9, blk ((j.2.2.2.2.2.2.2.1).flatMap Go.Sx.encI) 39 (0, 0))] :: (j.2.2.2.2.2.2.2.2.2.2.2) :: (j.2.2.2.2.2.2.2.2.1) :: (j.2.2.2.2.2.2.2.2.2.1) :: (j.2.2.2.2.2.2.2.2.2.2.1) :: hs) (0, (fun _ => noughts 256), (fun _ => 0), [], l0, d1, vs, (List.replicate 96 (0 : Int)), HP, HL, HD1, K) ?_ (SubR.cons rfl (SubR.cons rfl (SubR.cons rfl (SubR.cons rfl (SubR.cons rfl (SubR.cons rfl (SubR.cons rfl (SubR.nil _)))))))) sl ?_))))))))))))
    · dsimp only
      exact ⟨by omega, by omega, hinv0, hV, Nums.zero, hp, hl, hd1⟩
    rintro ⟨i, now, ls, fs, l, d, vs, ns, P, L, D, K⟩ hI
    dsimp only at hI
    obtain ⟨hi, hi60, hA, hV, hN, hp, hl, hd⟩ := hI
    show TT _ _ _ [(0, .slice a0 os.length c0), (4, .pointer (some ⟨bd, 0, none⟩)), (5, .pointer (some ⟨bl, 0, none⟩)), (7, .pointer (some ⟨bp, 0, none⟩)), (8, .pointer (some ⟨b_8, 0, none⟩)), (9, .pointer (some ⟨b_9, 0, none⟩)), (11, .int .i64 (i : Nat))] ([(b_8, blk vs 38 (0, 0))] :: [(b_9, blk (ns.flatMap Go.Sx.encI) 39 (0, 0))] :: K :: P :: L :: D :: hs)
    refine TT.seq (.seq (.region (.pures hT 5 rfl (.split 45 rfl (fun g45 => ?_) (fun g45 => ?_)))))
    ·
      have g45 := of_decide_eq_true g45
      refine OT.pures hT 3 rfl (.nil (.seq (.cond rfl (fun c48 => ?_) (fun c48 => ?_))))
      ·
        have c48 := of_decide_eq_true c48
        refine TT.skip (.seq (.seq (.block (.seq (.region (.pures hT 2 rfl ?_))))))
        obtain ⟨o, ho⟩ := nth (l := os) (i := i) (by omega)
        obtain ⟨hno0, hno1⟩ := hyr o (List.mem_of_getElem? ho)
        refine OT.index hT rfl rfl rfl rfl ro (by omega) ho rfl (fun ad_53 hel_53 => ?_)
        refine OT.load rfl rfl (hel_53.ld_struct hT rfl) rfl (.alloc Try.zeroValue41 rfl rfl (fun b_12 => ?_))
        refine OT.store_all hT rfl rfl rfl rfl pl rfl rfl rfl (.inl (Nat.le_refl _)) ?_
        refine OT.nil (.seq (.seq (.region (.pures hT 1 rfl (.load rfl rfl (Ld.one hT rfl hz rfl) rfl ?_)))))
        refine OT.pures hT 2 rfl (.split 58 rfl (fun g58 => ?_) (fun g58 => ?_))
        ·
          have g58 := of_decide_eq_true g58
          refine OT.pures hT 1 rfl (.load rfl rfl (Ld.one hT rfl hz rfl) rfl ?_)
          refine OT.pures hT 3 rfl (.nil (.seq (.seq (.region (.pures hT 1 rfl (.nil (.seq (.cut (ι := Unit) (fun j => True) (fun j => [(0, .slice a0 os.length c0), (4, .pointer (some ⟨bd, 0, none⟩)), (5, .pointer (some ⟨bl, 0, none⟩)), (7, .pointer (some ⟨bp, 0, none⟩)), (8, .pointer (some ⟨b_8, 0, none⟩)), (9, .pointer (some ⟨b_9, 0, none⟩)), (11, .int .i64 (i : Nat)), (12, .pointer (some ⟨b_12, 0, none⟩)), (13, .bool (decide (mayPage o.no))), (14, .int .i64 (mayPool o.no))]) (fun j => [(b_12, blk (encOp o) 41 (0, 0))] :: [(b_8, blk vs 38 (0, 0))] :: [(b_9, blk (ns.flatMap Go.Sx.encI) 39 (0, 0))] :: K :: P :: L :: D :: hs) ?_ ?_))))))))
          ·
            refine TT.seq (.region (.pures hT 2 rfl (.nil (.seq (.cond rfl (fun c64 => ?_) (fun c64 => ?_))))))
            ·
              have c64 : ¬ o.no ≤ 95 := by simpa using c64
              have hmp : ¬ mayPage o.no := by unfold mayPage; omega
              refine TT.region (.pures hT 1 rfl (.nil (.cut (()) ?_ (SubR.cons rfl (SubR.cons rfl (SubR.cons rfl (SubR.cons rfl (SubR.cons rfl (SubR.cons rfl (SubR.cons rfl (SubR.cons rfl (SubR.cons' rfl (by (try dsimp only); exact (by rw [decide_eq_false hmp]; exact congrArg Value.bool (decide_eq_false c64))) (SubR.cons' rfl (by (try dsimp only); exact (by unfold mayPool; rw [if_neg hmp])) (SubR.nil _))))))))))) sl)))
              · trivial
            ·
              have c64 : o.no ≤ 95 := by simpa using c64
              have hmp : mayPage o.no := by unfold mayPage; omega
              refine TT.skip (.cut (()) ?_ (SubR.cons rfl (SubR.cons rfl (SubR.cons rfl (SubR.cons rfl (SubR.cons rfl (SubR.cons rfl (SubR.cons rfl (SubR.cons rfl (SubR.cons' rfl (by (try dsimp only); exact (by rw [decide_eq_true hmp]; exact congrArg Value.bool (decide_eq_true c64))) (SubR.cons' rfl (by (try dsimp only); exact (by unfold mayPool; rw [if_pos hmp])) (SubR.nil _))))))))))) sl)
              · trivial
          ·
            rintro _ -
            show TT _ _ _ [(0, .slice a0 os.length c0), (4, .pointer (some ⟨bd, 0, none⟩)), (5, .pointer (some ⟨bl, 0, none⟩)), (7, .pointer (some ⟨bp, 0, none⟩)), (8, .pointer (some ⟨b_8, 0, none⟩)), (9, .pointer (some ⟨b_9, 0, none⟩)), (11, .int .i64 (i : Nat)), (12, .pointer (some ⟨b_12, 0, none⟩)), (13, .bool (decide (mayPage o.no))), (14, .int .i64 (mayPool o.no))] ([(b_12, blk (encOp o) 41 (0, 0))] :: [(b_8, blk vs 38 (0, 0))] :: [(b_9, blk (ns.flatMap Go.Sx.encI) 39 (0, 0))] :: K :: P :: L :: D :: hs)
            refine TT.cut (ι := (Int → List UInt8) × (Int → Int) × (List Fr) × Log × Dev × (List Value) × (List Int) × Chunk × Chunk × Chunk × Chunk) (fun j => AInv (i + 1) (j.1) (j.2.1) (j.2.2.1) (j.2.2.2.1) (j.2.2.2.2.1) ∧ Arr (j.1) (j.2.2.2.2.2.2.2.2.2.2) (j.2.2.2.2.2.1) 96 ∧ Nums (j.2.1) (j.2.2.2.2.2.2.1) ∧ IsPool 5 79 75 76 (.pointer (some ⟨bp, 0, none⟩)) (.pointer (some ⟨bd, 0, none⟩)) (.pointer (some ⟨bl, 0, none⟩)) (j.2.2.1) (j.2.2.2.2.2.2.2.1) ∧ IsLog 5 2 98 72 (.pointer (some ⟨bl, 0, none⟩)) (.pointer (some ⟨bd, 0, none⟩)) (j.2.2.2.1) (j.2.2.2.2.2.2.2.2.1) ∧ IsDev 89 65 (.pointer (some ⟨bd, 0, none⟩)) (j.2.2.2.2.1) (j.2.2.2.2.2.2.2.2.2.1)) (fun j => [(0, .slice a0 os.length c0), (4, .pointer (some ⟨bd, 0, none⟩)), (5, .pointer (some ⟨bl, 0, none⟩)), (7, .pointer (some ⟨bp, 0, none⟩)), (8, .pointer (some ⟨b_8, 0, none⟩)), (9, .pointer (some ⟨b_9, 0, none⟩)), (11, .int .i64 (i : Nat))]) (fun j => [(b_8, blk (j.2.2.2.2.2.1) 38 (0, 0))] :: [(b_9, blk ((j.2.2.2.2.2.2.1).flatMap Go.Sx.encI) 39 (0, 0))] :: (j.2.2.2.2.2.2.2.2.2.2) :: (j.2.2.2.2.2.2.2.1) :: (j.2.2.2.2.2.2.2.2.1) :: (j.2.2.2.2.2.2.2.2.2.1) :: hs) ?_ ?_
            ·
              refine TT.seq (.region (.pures hT 1 rfl (.load rfl rfl (Ld.one hT rfl hz rfl) rfl ?_)))
              refine OT.nil (.seq (.block (.seq (.region (.pures hT 2 rfl (.nil (.seq (.cond rfl (fun c76 => ?_) (fun c76 => ?_)))))))))
              ·
                obtain ⟨l', e, ha, he, ht', hp1, hA1⟩ := hA.put (by omega) o.x (UInt8.ofNat i) (no := o.no) (b := (pageOf [o.x, UInt8.ofNat i, 3])) (pageOf_length (by simp))
                have hpo : (pageOf [o.x, UInt8.ofNat i, 3]).length = 256 := pageOf_length (by simp)
                have hfw := hA.few
                have hen := hA.end_
                refine TT.seq (.region (.pures hT 2 rfl (.load rfl rfl (Ld.one hT rfl hz rfl) rfl ?_)))
                refine OT.pures hT 2 rfl (.reg 83 rfl (v := .int .u8 ((UInt8.ofNat i).toNat : Int)) (int_eq (byte_of i)) ?_)
                refine OT.buildSlice (enc := Go.Sx.encB) (xs := [o.x, UInt8.ofNat i]) (xos := [.tmp 81, .tmp 83]) el31 rfl rfl rfl rfl rfl (by simp [Value.cells]) (fun _ _ => rfl) rfl (by decide) rfl (fun v_84 H_84 ho_84 => ?_)
                refine OT.call Try.call15 rfl rfl rfl rfl (Fun.pull (A := L) pl (wal_Append hl ho_84.row (by simp) (by omega))) ?_
                rintro v_85 hs_85 ⟨L1, rfl, rfl, hl1⟩
                rw [ha] at hl1 ⊢
                dsimp only at hl1 ⊢
                refine OT.pures hT 5 rfl (.nil (.seq (.seq (.region (.pures hT 1 rfl (.load rfl rfl (Ld.one hT rfl hz rfl) rfl ?_))))))
                refine OT.pures hT 2 rfl (.reg 91 rfl (v := .int .u8 ((UInt8.ofNat i).toNat : Int)) (int_eq (byte_of i)) ?_)
                refine OT.buildSlice (enc := Go.Sx.encB) (xs := [o.x, UInt8.ofNat i, 3]) (xos := [.tmp 89, .tmp 91, .const (.int .u8 (3))]) el31 rfl rfl rfl rfl rfl (by simp [Value.cells]) (fun _ _ => rfl) rfl (by decide) rfl (fun v_92 H_92 ho_92 => ?_)
                refine OT.call Try.call12 rfl rfl rfl rfl (law9_Of ho_92.row (by simp)) ?_
                rintro v_93 hs_93 ⟨HB, rfl, hoB⟩
                obtain ⟨aB, cB, hvB⟩ := (hoB.row (hs := hs)).len
                subst hvB
                refine OT.pures hT 1 rfl (.nil (.seq (.seq (.seq (.region (.pures hT 3 rfl (.pures hT 2 rfl (.load rfl rfl (Ld.one hT rfl hz rfl) rfl ?_))))))))
                refine OT.pures hT 2 rfl (.call Try.call13 rfl rfl rfl rfl (Fun.weaken (hs' := P :: L1 :: D :: HB :: [(b_12, blk (encOp o) 41 (0, 0))] :: [(b_8, blk vs 38 (0, 0))] :: [(b_9, blk (ns.flatMap Go.Sx.encI) 39 (0, 0))] :: K :: hs) sl (buf_Put hp hl1 hd (by omega) (by omega) hoB.row (by omega))) ?_)
                rintro v_102 hs_102 ⟨P2, L2, D2, rfl, rfl, hp2, hl2, hd2⟩
                rw [hp1]
                refine OT.pures hT 3 rfl (.nil (.seq (.cond rfl (fun c105 => ?_) (fun c105 => ?_))))
                ·
                  exact absurd c105 (by simp)
                ·
                  refine TT.skip (.seq (.seq (.region (.pures hT 1 rfl (.nil (.seq (.cond rfl (fun c106 => ?_) (fun c106 => ?_))))))))
                  ·
                    have hmp : mayPage o.no := of_decide_eq_true c106
                    have hmp' : 0 ≤ o.no ∧ o.no < 96 := hmp
                    have hk : ((o.no.toNat : Nat) : Int) = o.no := by omega
                    have hvl := hV.len
                    have hnl := hN.1
                    rw [show updN now o.no (pageOf [o.x, UInt8.ofNat i, 3]) = upd now o.no (pageOf [o.x, UInt8.ofNat i, 3]) by unfold updN; rw [if_pos hmp], show updL ls o.no (e : Int) = updI ls o.no (e : Int) by unfold updL; rw [if_pos hmp]] at hA1
                    refine TT.draw ([(b_12, blk (encOp o) 41 (0, 0))] :: K :: hs) mixed (.takes (fuel := 6) hT [0, 2, 4, 5] kr kr rfl (.take (fuel := 5) hT 1 rfl rfl kr kr kr rfl (.load rfl (Ld.one hT rfl hz rfl)) rfl ?_))
                    refine AT.take (fuel := 4) hT 3 rfl rfl kr kr kr rfl (.load rfl (Ld.one hT rfl hz rfl)) rfl ?_
                    refine AT.index_at (fuel := 3) hT 6 rfl kr kr kr rfl rfl rfl rfl (by omega) (by omega) rfl (.op (fuel := 2) 7 kr rfl sl (.store hT rfl rfl rfl rfl pl rfl (by rw [hvl]; show 0 + o.no.toNat * 1 + 1 ≤ 96; omega) rfl (.inl (Nat.le_refl _)) (cs' := vs.set o.no.toNat (.slice aB (pageOf [o.x, UInt8.ofNat i, 3]).length cB)) (splice_one (by omega) _ (by omega)) ?_))
                    refine OT.nil (.any (.index_at (fuel := 1) hT 8 rfl kr kr kr rfl rfl rfl rfl (by omega) (by omega) rfl (.op (fuel := 0) 9 kr rfl sl (.store hT rfl rfl rfl rfl pl rfl (by rw [ints_length, hnl]; show 0 + o.no.toNat * 1 + 1 ≤ 96; omega) rfl (.inl (Nat.le_refl _)) (cs' := (ns.set o.no.toNat (e : Int)).flatMap Go.Sx.encI) (ints_set (by omega) _ (by omega)) ?_))))
                    refine OT.nil (.any (.done kr sl (.blk (.cut (upd now o.no (pageOf [o.x, UInt8.ofNat i, 3]), updI ls o.no (e : Int), (poolPut fs l' d o.no (pageOf [o.x, UInt8.ofNat i, 3]) (e : Int)).2.1, (poolPut fs l' d o.no (pageOf [o.x, UInt8.ofNat i, 3]) (e : Int)).2.2.1, (poolPut fs l' d o.no (pageOf [o.x, UInt8.ofNat i, 3]) (e : Int)).2.2.2, vs.set o.no.toNat (.slice aB (pageOf [o.x, UInt8.ofNat i, 3]).length cB), ns.set o.no.toNat (e : Int), P2, L2, D2, HB ++ K) ?_ (SubR.cons rfl (SubR.cons rfl (SubR.cons rfl (SubR.cons rfl (SubR.cons rfl (SubR.cons rfl (SubR.cons rfl (SubR.nil _)))))))) sl))))
                    · dsimp only
                      refine ⟨hA1, ?_, ?_, hp2, hl2, hd2⟩
                      · have h := hV.put (k := o.no.toNat) (by omega) (v := .slice aB (pageOf [o.x, UInt8.ofNat i, 3]).length cB) rfl hoB
                        rw [hk] at h; exact h
                      · have h := hN.put (k := o.no.toNat) (by omega) (e : Int)
                        rw [hk] at h; exact h
                  ·
                    have hmp : ¬ mayPage o.no := of_decide_eq_false c106
                    rw [show updN now o.no (pageOf [o.x, UInt8.ofNat i, 3]) = now by unfold updN; rw [if_neg hmp], show updL ls o.no (e : Int) = ls by unfold updL; rw [if_neg hmp]] at hA1
                    refine TT.skip (.blk (.cut (now, ls, (poolPut fs l' d o.no (pageOf [o.x, UInt8.ofNat i, 3]) (e : Int)).2.1, (poolPut fs l' d o.no (pageOf [o.x, UInt8.ofNat i, 3]) (e : Int)).2.2.1, (poolPut fs l' d o.no (pageOf [o.x, UInt8.ofNat i, 3]) (e : Int)).2.2.2, vs, ns, P2, L2, D2, K) ?_ (SubR.cons rfl (SubR.cons rfl (SubR.cons rfl (SubR.cons rfl (SubR.cons rfl (SubR.cons rfl (SubR.cons rfl (SubR.nil _)))))))) sl))
                    · dsimp only
                      exact ⟨hA1, hV, hN, hp2, hl2, hd2⟩
              ·
                refine TT.seq (.region (.pures hT 2 rfl (.nil (.seq (.cond rfl (fun c115 => ?_) (fun c115 => ?_))))))
                ·
                  obtain ⟨p1, p2, hA1⟩ := hA.page o.no
                  have hfw := hA.few
                  have htu := hA.turn
                  have hvl := hV.len
                  refine TT.seq (.region (.pures hT 2 rfl (.load rfl rfl (Ld.one hT rfl hz rfl) rfl ?_)))
                  refine OT.call Try.call14 rfl rfl rfl rfl (Fun.weaken (hs' := P :: L :: D :: [(b_12, blk (encOp o) 41 (0, 0))] :: [(b_8, blk vs 38 (0, 0))] :: [(b_9, blk (ns.flatMap Go.Sx.encI) 39 (0, 0))] :: K :: hs) sl (buf_Page hp hl hd (by omega) (by omega))) ?_
                  rintro v_121 hs_121 ⟨w, HW, P2, L2, D2, rfl, rfl, hoW, hp2, hl2, hd2⟩
                  rw [p1]
                  obtain ⟨aw, cw, hvw⟩ := (hoW.row (hs := hs)).len
                  subst hvw
                  refine OT.pures hT 5 rfl (.nil (.seq (.seq (.draw (HW :: P2 :: L2 :: D2 :: [(b_12, blk (encOp o) 41 (0, 0))] :: [(b_8, blk vs 38 (0, 0))] :: [(b_9, blk (ns.flatMap Go.Sx.encI) 39 (0, 0))] :: K :: hs) mixed (.takes (fuel := 12) hT [0, 1, 2, 3] kr kr rfl (.split 127 rfl (fun g127 => ?_) (fun g127 => ?_)))))))
                  ·
                    exact absurd g127 (by simp)
                  ·
                    refine AT.takes (fuel := 10) hT [4, 5] kr kr rfl (.split 129 rfl (fun g129 => ?_) (fun g129 => ?_))
                    ·
                      have hmp : mayPage o.no := of_decide_eq_true g129
                      have hmp' : 0 ≤ o.no ∧ o.no < 96 := hmp
                      have hk : ((o.no.toNat : Nat) : Int) = o.no := by omega
                      obtain ⟨u, hu, hur⟩ := hV.row o.no.toNat (by omega)
                      rw [hk] at hur
                      refine AT.takes (fuel := 8) hT [6, 8] kr kr rfl (.take (fuel := 7) hT 9 rfl rfl kr kr kr rfl (.load rfl (Ld.one hT rfl hz rfl)) rfl ?_)
                      refine AT.index_at (fuel := 6) hT 10 rfl kr kr kr rfl rfl rfl rfl (by omega) (by omega) rfl (.take (fuel := 5) hT 11 rfl rfl kr kr kr rfl (.load rfl (Ld.slc hT rfl hz (show vs[0 + o.no.toNat * 1]? = some u by rw [show 0 + o.no.toNat * 1 = o.no.toNat by omega]; exact hu))) rfl ?_)
                      refine AT.all (fuel := 4) [7, 12] kr (by decide) sl ?_
                      intro i hi
                      simp only [List.mem_cons, List.not_mem_nil, or_false] at hi
                      rcases hi with rfl | rfl
                      ·
                        refine ⟨_, rfl, ?_⟩
                        refine OT.conv_bs (fun _ => rfl) hT rfl rfl rfl rfl rfl hoW.row rfl (.nil (.any (.op (fuel := 3) 12 kr rfl sl (.conv_bs (fun _ => rfl) hT rfl rfl rfl rfl rfl (hur hs).there.there.there.there.there.there.there rfl (.nil (.any (.takes (fuel := 0) hT [13, 14, 15] kr kr rfl (.done kr sl (.seq (.cond rfl (fun c139 => ?_) (fun c139 => ?_)))))))))))
                        ·
                          exact absurd c139 (by rw [p2 hmp]; simp)
                        ·
                          refine TT.skip (.blk (.cut (now, ls, (poolPage fs l d o.no).2.2.1, (poolPage fs l d o.no).2.2.2.1, (poolPage fs l d o.no).2.2.2.2, vs, ns, P2, L2, D2, K) ?_ (SubR.cons rfl (SubR.cons rfl (SubR.cons rfl (SubR.cons rfl (SubR.cons rfl (SubR.cons rfl (SubR.cons rfl (SubR.nil _)))))))) sl))
                          · dsimp only
                            exact ⟨hA1, hV, hN, hp2, hl2, hd2⟩
                      ·
                        refine ⟨_, rfl, ?_⟩
                        refine OT.conv_bs (fun _ => rfl) hT rfl rfl rfl rfl rfl (hur hs).there.there.there.there.there.there.there rfl (.nil (.any (.op (fuel := 3) 7 kr rfl sl (.conv_bs (fun _ => rfl) hT rfl rfl rfl rfl rfl hoW.row rfl (.nil (.any (.takes (fuel := 0) hT [13, 14, 15] kr kr rfl (.done kr sl (.seq (.cond rfl (fun c139 => ?_) (fun c139 => ?_)))))))))))
                        ·
                          exact absurd c139 (by rw [p2 hmp]; simp)
                        ·
                          refine TT.skip (.blk (.cut (now, ls, (poolPage fs l d o.no).2.2.1, (poolPage fs l d o.no).2.2.2.1, (poolPage fs l d o.no).2.2.2.2, vs, ns, P2, L2, D2, K) ?_ (SubR.cons rfl (SubR.cons rfl (SubR.cons rfl (SubR.cons rfl (SubR.cons rfl (SubR.cons rfl (SubR.cons rfl (SubR.nil _)))))))) sl))
                          · dsimp only
                            exact ⟨hA1, hV, hN, hp2, hl2, hd2⟩
                    ·
                      refine AT.takes (fuel := 0) hT [6, 7, 8, 9, 10, 11, 12, 13, 14, 15] kr kr rfl (.done kr sl (.seq (.cond_false rfl (.skip (.blk (.cut (now, ls, (poolPage fs l d o.no).2.2.1, (poolPage fs l d o.no).2.2.2.1, (poolPage fs l d o.no).2.2.2.2, vs, ns, P2, L2, D2, K) ?_ (SubR.cons rfl (SubR.cons rfl (SubR.cons rfl (SubR.cons rfl (SubR.cons rfl (SubR.cons rfl (SubR.cons rfl (SubR.nil _)))))))) sl))))))
                      · dsimp only
                        exact ⟨hA1, hV, hN, hp2, hl2, hd2⟩
                ·
                  refine TT.seq (.region (.pures hT 2 rfl (.nil (.seq (.cond rfl (fun c140 => ?_) (fun c140 => ?_))))))
                  ·
                    obtain ⟨p1, hA1⟩ := hA.flush o.no
                    have hfw := hA.few
                    have htu := hA.turn
                    refine TT.seq (.region (.pures hT 2 rfl (.load rfl rfl (Ld.one hT rfl hz rfl) rfl ?_)))
                    refine OT.call Try.call16 rfl rfl rfl rfl (Fun.weaken (hs' := P :: L :: D :: [(b_12, blk (encOp o) 41 (0, 0))] :: [(b_8, blk vs 38 (0, 0))] :: [(b_9, blk (ns.flatMap Go.Sx.encI) 39 (0, 0))] :: K :: hs) sl (buf_Flush hp hl hd (by omega) (by omega))) ?_
                    rintro v_145 hs_145 ⟨P2, L2, D2, rfl, rfl, hp2, hl2, hd2⟩
                    rw [p1]
                    refine OT.pures hT 2 rfl (.nil (.seq (.cond rfl (fun c147 => ?_) (fun c147 => ?_))))
                    ·
                      exact absurd c147 (by simp)
                    ·
                      refine TT.skip (.blk (.cut (now, ls, (poolFlush fs l d o.no).2.1, (poolFlush fs l d o.no).2.2.1, (poolFlush fs l d o.no).2.2.2, vs, ns, P2, L2, D2, K) ?_ (SubR.cons rfl (SubR.cons rfl (SubR.cons rfl (SubR.cons rfl (SubR.cons rfl (SubR.cons rfl (SubR.cons rfl (SubR.nil _)))))))) sl))
                      · dsimp only
                        exact ⟨hA1, hV, hN, hp2, hl2, hd2⟩
                  ·
                    obtain ⟨p1, p2, hA1⟩ := hA.all
                    have hfw := hA.few
                    have htu := hA.turn
                    refine TT.seq (.region (.pures hT 1 rfl (.call Try.call17 rfl rfl rfl rfl (Fun.weaken (hs' := P :: L :: D :: [(b_12, blk (encOp o) 41 (0, 0))] :: [(b_8, blk vs 38 (0, 0))] :: [(b_9, blk (ns.flatMap Go.Sx.encI) 39 (0, 0))] :: K :: hs) sl (buf_All hp hl hd (by omega) (by omega))) ?_)))
                    rintro v_68 hs_68 ⟨P2, L2, D2, rfl, rfl, hp2, hl2, hd2⟩
                    rw [p1]
                    refine OT.pures hT 2 rfl (.pures hT 1 rfl (.call Try.call18 rfl rfl rfl rfl (buf_Dirty hp2) ?_))
                    rintro v_72 hs_72 ⟨HI, rfl, hoI⟩
                    rw [p2] at hoI
                    obtain ⟨aI, cI, hvI⟩ := (hoI.row (hs := hs)).len
                    subst hvI
                    refine OT.pures hT 3 rfl (.nil (.seq (.cond rfl (fun c75 => ?_) (fun c75 => ?_))))
                    ·
                      exact absurd c75 (by simp)
                    ·
                      refine TT.skip (.blk (.cut (now, ls, (poolAll fs l d).2.1, (poolAll fs l d).2.2.1, (poolAll fs l d).2.2.2, vs, ns, P2, L2, D2, K) ?_ (SubR.cons rfl (SubR.cons rfl (SubR.cons rfl (SubR.cons rfl (SubR.cons rfl (SubR.cons rfl (SubR.cons rfl (SubR.nil _)))))))) sl))
                      · dsimp only
                        exact ⟨hA1, hV, hN, hp2, hl2, hd2⟩
            ·
              rintro ⟨now, ls, fs, l, d, vs, ns, P, L, D, K⟩ hI
              dsimp only at hI
              obtain ⟨hA, hV, hN, hp, hl, hd⟩ := hI
              show TT _ _ _ [(0, .slice a0 os.length c0), (4, .pointer (some ⟨bd, 0, none⟩)), (5, .pointer (some ⟨bl, 0, none⟩)), (7, .pointer (some ⟨bp, 0, none⟩)), (8, .pointer (some ⟨b_8, 0, none⟩)), (9, .pointer (some ⟨b_9, 0, none⟩)), (11, .int .i64 (i : Nat))] ([(b_8, blk vs 38 (0, 0))] :: [(b_9, blk (ns.flatMap Go.Sx.encI) 39 (0, 0))] :: K :: P :: L :: D :: hs)
              have hvl := hV.len
              have hnl := hN.1
              refine TT.seq (.region (.pures hT 3 rfl (.load rfl rfl (Ld.arr_all hT rfl hz (by rw [hvl])) rfl ?_)))
              refine OT.load rfl rfl (Ld.arr_all hT rfl hz (by rw [ints_length, hnl])) rfl ?_
              refine OT.call Try.call19 rfl rfl rfl rfl (Fun.weaken (hs' := P :: L :: D :: K :: [(b_8, blk vs 38 (0, 0))] :: [(b_9, blk (ns.flatMap Go.Sx.encI) 39 (0, 0))] :: hs) sl (law18_right hA hp hl hd hV hN)) ?_
              rintro v_153 hs_153 ⟨rfl, rfl⟩
              refine OT.pures hT 1 rfl (.nil (.seq (.cond_false rfl (.skip (.blk (.seq (.region (.pures hT 3 rfl (.nil (.loop (i + 1, now, ls, fs, l, d, vs, ns, P, L, D, K) ?_ ?_ (SubR.cons rfl (SubR.cons rfl (SubR.cons rfl (SubR.cons rfl (SubR.cons rfl (SubR.cons rfl (SubR.cons' rfl (by (try dsimp only); exact (int_eq (by rw [wrap_i64 (by omega) (by omega)]; omega))) (SubR.nil _)))))))) sl))))))))))
              · dsimp only
                exact ⟨by omega, by omega, hA, hV, hN, hp, hl, hd⟩
              · dsimp only
                omega
        ·
          have g58 := of_decide_eq_false g58
          refine OT.pures hT 5 rfl (.nil (.seq (.seq (.region (.pures hT 1 rfl (.nil (.seq (.cut (ι := Unit) (fun j => True) (fun j => [(0, .slice a0 os.length c0), (4, .pointer (some ⟨bd, 0, none⟩)), (5, .pointer (some ⟨bl, 0, none⟩)), (7, .pointer (some ⟨bp, 0, none⟩)), (8, .pointer (some ⟨b_8, 0, none⟩)), (9, .pointer (some ⟨b_9, 0, none⟩)), (11, .int .i64 (i : Nat)), (12, .pointer (some ⟨b_12, 0, none⟩)), (13, .bool (decide (mayPage o.no))), (14, .int .i64 (mayPool o.no))]) (fun j => [(b_12, blk (encOp o) 41 (0, 0))] :: [(b_8, blk vs 38 (0, 0))] :: [(b_9, blk (ns.flatMap Go.Sx.encI) 39 (0, 0))] :: K :: P :: L :: D :: hs) ?_ ?_))))))))
          ·
            refine TT.seq (.region (.pures hT 2 rfl (.nil (.seq (.cond_true rfl (.region (.pures hT 1 rfl (.nil ?_))))))))
            have hmp : ¬ mayPage o.no := by unfold mayPage; omega
            refine KT.cut (()) ?_ (SubR.cons rfl (SubR.cons rfl (SubR.cons rfl (SubR.cons rfl (SubR.cons rfl (SubR.cons rfl (SubR.cons rfl (SubR.cons rfl (SubR.cons' rfl (by (try dsimp only); exact (by rw [decide_eq_false hmp]; rfl)) (SubR.cons' rfl (by (try dsimp only); exact (by unfold mayPool; rw [if_neg hmp])) (SubR.nil _))))))))))) sl
            · trivial
          ·
            rintro _ -
            show TT _ _ _ [(0, .slice a0 os.length c0), (4, .pointer (some ⟨bd, 0, none⟩)), (5, .pointer (some ⟨bl, 0, none⟩)), (7, .pointer (some ⟨bp, 0, none⟩)), (8, .pointer (some ⟨b_8, 0, none⟩)), (9, .pointer (some ⟨b_9, 0, none⟩)), (11, .int .i64 (i : Nat)), (12, .pointer (some ⟨b_12, 0, none⟩)), (13, .bool (decide (mayPage o.no))), (14, .int .i64 (mayPool o.no))] ([(b_12, blk (encOp o) 41 (0, 0))] :: [(b_8, blk vs 38 (0, 0))] :: [(b_9, blk (ns.flatMap Go.Sx.encI) 39 (0, 0))] :: K :: P :: L :: D :: hs)
            refine TT.cut (ι := (Int → List UInt8) × (Int → Int) × (List Fr) × Log × Dev × (List Value) × (List Int) × Chunk × Chunk × Chunk × Chunk) (fun j => AInv (i + 1) (j.1) (j.2.1) (j.2.2.1) (j.2.2.2.1) (j.2.2.2.2.1) ∧ Arr (j.1) (j.2.2.2.2.2.2.2.2.2.2) (j.2.2.2.2.2.1) 96 ∧ Nums (j.2.1) (j.2.2.2.2.2.2.1) ∧ IsPool 5 79 75 76 (.pointer (some ⟨bp, 0, none⟩)) (.pointer (some ⟨bd, 0, none⟩)) (.pointer (some ⟨bl, 0, none⟩)) (j.2.2.1) (j.2.2.2.2.2.2.2.1) ∧ IsLog 5 2 98 72 (.pointer (some ⟨bl, 0, none⟩)) (.pointer (some ⟨bd, 0, none⟩)) (j.2.2.2.1) (j.2.2.2.2.2.2.2.2.1) ∧ IsDev 89 65 (.pointer (some ⟨bd, 0, none⟩)) (j.2.2.2.2.1) (j.2.2.2.2.2.2.2.2.2.1)) (fun j => [(0, .slice a0 os.length c0), (4, .pointer (some ⟨bd, 0, none⟩)), (5, .pointer (some ⟨bl, 0, none⟩)), (7, .pointer (some ⟨bp, 0, none⟩)), (8, .pointer (some ⟨b_8, 0, none⟩)), (9, .pointer (some ⟨b_9, 0, none⟩)), (11, .int .i64 (i : Nat))]) (fun j => [(b_8, blk (j.2.2.2.2.2.1) 38 (0, 0))] :: [(b_9, blk ((j.2.2.2.2.2.2.1).flatMap Go.Sx.encI) 39 (0, 0))] :: (j.2.2.2.2.2.2.2.2.2.2) :: (j.2.2.2.2.2.2.2.1) :: (j.2.2.2.2.2.2.2.2.1) :: (j.2.2.2.2.2.2.2.2.2.1) :: hs) ?_ ?_
            ·
              refine TT.seq (.region (.pures hT 1 rfl (.load rfl rfl (Ld.one hT rfl hz rfl) rfl ?_)))
              refine OT.nil (.seq (.block (.seq (.region (.pures hT 2 rfl (.nil (.seq (.cond rfl (fun c76 => ?_) (fun c76 => ?_)))))))))
              ·
                obtain ⟨l', e, ha, he, ht', hp1, hA1⟩ := hA.put (by omega) o.x (UInt8.ofNat i) (no := o.no) (b := (pageOf [o.x, UInt8.ofNat i, 3])) (pageOf_length (by simp))
                have hpo : (pageOf [o.x, UInt8.ofNat i, 3]).length = 256 := pageOf_length (by simp)
                have hfw := hA.few
                have hen := hA.end_
                refine TT.seq (.region (.pures hT 2 rfl (.load rfl rfl (Ld.one hT rfl hz rfl) rfl ?_)))
                refine OT.pures hT 2 rfl (.reg 83 rfl (v := .int .u8 ((UInt8.ofNat i).toNat : Int)) (int_eq (byte_of i)) ?_)
                refine OT.buildSlice (enc := Go.Sx.encB) (xs := [o.x, UInt8.ofNat i]) (xos := [.tmp 81, .tmp 83]) el31 rfl rfl rfl rfl rfl (by simp [Value.cells]) (fun _ _ => rfl) rfl (by decide) rfl (fun v_84 H_84 ho_84 => ?_)
                refine OT.call Try.call15 rfl rfl rfl rfl (Fun.pull (A := L) pl (wal_Append hl ho_84.row (by simp) (by omega))) ?_
                rintro v_85 hs_85 ⟨L1, rfl, rfl, hl1⟩
                rw [ha] at hl1 ⊢
                dsimp only at hl1 ⊢
                refine OT.pures hT 5 rfl (.nil (.seq (.seq (.region (.pures hT 1 rfl (.load rfl rfl (Ld.one hT rfl hz rfl) rfl ?_))))))
                refine OT.pures hT 2 rfl (.reg 91 rfl (v := .int .u8 ((UInt8.ofNat i).toNat : Int)) (int_eq (byte_of i)) ?_)
                refine OT.buildSlice (enc := Go.Sx.encB) (xs := [o.x, UInt8.ofNat i, 3]) (xos := [.tmp 89, .tmp 91, .const (.int .u8 (3))]) el31 rfl rfl rfl rfl rfl (by simp [Value.cells]) (fun _ _ => rfl) rfl (by decide) rfl (fun v_92 H_92 ho_92 => ?_)
                refine OT.call Try.call12 rfl rfl rfl rfl (law9_Of ho_92.row (by simp)) ?_
                rintro v_93 hs_93 ⟨HB, rfl, hoB⟩
                obtain ⟨aB, cB, hvB⟩ := (hoB.row (hs := hs)).len
                subst hvB
                refine OT.pures hT 1 rfl (.nil (.seq (.seq (.seq (.region (.pures hT 3 rfl (.pures hT 2 rfl (.load rfl rfl (Ld.one hT rfl hz rfl) rfl ?_))))))))
                refine OT.pures hT 2 rfl (.call Try.call13 rfl rfl rfl rfl (Fun.weaken (hs' := P :: L1 :: D :: HB :: [(b_12, blk (encOp o) 41 (0, 0))] :: [(b_8, blk vs 38 (0, 0))] :: [(b_9, blk (ns.flatMap Go.Sx.encI) 39 (0, 0))] :: K :: hs) sl (buf_Put hp hl1 hd (by omega) (by omega) hoB.row (by omega))) ?_)
                rintro v_102 hs_102 ⟨P2, L2, D2, rfl, rfl, hp2, hl2, hd2⟩
                rw [hp1]
                refine OT.pures hT 3 rfl (.nil (.seq (.cond rfl (fun c105 => ?_) (fun c105 => ?_))))
                ·
                  exact absurd c105 (by simp)
                ·
                  refine TT.skip (.seq (.seq (.region (.pures hT 1 rfl (.nil (.seq (.cond rfl (fun c106 => ?_) (fun c106 => ?_))))))))
                  ·
                    have hmp : mayPage o.no := of_decide_eq_true c106
                    have hmp' : 0 ≤ o.no ∧ o.no < 96 := hmp
                    have hk : ((o.no.toNat : Nat) : Int) = o.no := by omega
                    have hvl := hV.len
                    have hnl := hN.1
                    rw [show updN now o.no (pageOf [o.x, UInt8.ofNat i, 3]) = upd now o.no (pageOf [o.x, UInt8.ofNat i, 3]) by unfold updN; rw [if_pos hmp], show updL ls o.no (e : Int) = updI ls o.no (e : Int) by unfold updL; rw [if_pos hmp]] at hA1
                    refine TT.draw ([(b_12, blk (encOp o) 41 (0, 0))] :: K :: hs) mixed (.takes (fuel := 6) hT [0, 2, 4, 5] kr kr rfl (.take (fuel := 5) hT 1 rfl rfl kr kr kr rfl (.load rfl (Ld.one hT rfl hz rfl)) rfl ?_))
                    refine AT.take (fuel := 4) hT 3 rfl rfl kr kr kr rfl (.load rfl (Ld.one hT rfl hz rfl)) rfl ?_
                    refine AT.index_at (fuel := 3) hT 6 rfl kr kr kr rfl rfl rfl rfl (by omega) (by omega) rfl (.op (fuel := 2) 7 kr rfl sl (.store hT rfl rfl rfl rfl pl rfl (by rw [hvl]; show 0 + o.no.toNat * 1 + 1 ≤ 96; omega) rfl (.inl (Nat.le_refl _)) (cs' := vs.set o.no.toNat (.slice aB (pageOf [o.x, UInt8.ofNat i, 3]).length cB)) (splice_one (by omega) _ (by omega)) ?_))
                    refine OT.nil (.any (.index_at (fuel := 1) hT 8 rfl kr kr kr rfl rfl rfl rfl (by omega) (by omega) rfl (.op (fuel := 0) 9 kr rfl sl (.store hT rfl rfl rfl rfl pl rfl (by rw [ints_length, hnl]; show 0 + o.no.toNat * 1 + 1 ≤ 96; omega) rfl (.inl (Nat.le_refl _)) (cs' := (ns.set o.no.toNat (e : Int)).flatMap Go.Sx.encI) (ints_set (by omega) _ (by omega)) ?_))))
                    refine OT.nil (.any (.done kr sl (.blk (.cut (upd now o.no (pageOf [o.x, UInt8.ofNat i, 3]), updI ls o.no (e : Int), (poolPut fs l' d o.no (pageOf [o.x, UInt8.ofNat i, 3]) (e : Int)).2.1, (poolPut fs l' d o.no (pageOf [o.x, UInt8.ofNat i, 3]) (e : Int)).2.2.1, (poolPut fs l' d o.no (pageOf [o.x, UInt8.ofNat i, 3]) (e : Int)).2.2.2, vs.set o.no.toNat (.slice aB (pageOf [o.x, UInt8.ofNat i, 3]).length cB), ns.set o.no.toNat (e : Int), P2, L2, D2, HB ++ K) ?_ (SubR.cons rfl (SubR.cons rfl (SubR.cons rfl (SubR.cons rfl (SubR.cons rfl (SubR.cons rfl (SubR.cons rfl (SubR.nil _)))))))) sl))))
                    · dsimp only
                      refine ⟨hA1, ?_, ?_, hp2, hl2, hd2⟩
                      · have h := hV.put (k := o.no.toNat) (by omega) (v := .slice aB (pageOf [o.x, UInt8.ofNat i, 3]).length cB) rfl hoB
                        rw [hk] at h; exact h
                      · have h := hN.put (k := o.no.toNat) (by omega) (e : Int)
                        rw [hk] at h; exact h
                  ·
                    have hmp : ¬ mayPage o.no := of_decide_eq_false c106
                    rw [show updN now o.no (pageOf [o.x, UInt8.ofNat i, 3]) = now by unfold updN; rw [if_neg hmp], show updL ls o.no (e : Int) = ls by unfold updL; rw [if_neg hmp]] at hA1
                    refine TT.skip (.blk (.cut (now, ls, (poolPut fs l' d o.no (pageOf [o.x, UInt8.ofNat i, 3]) (e : Int)).2.1, (poolPut fs l' d o.no (pageOf [o.x, UInt8.ofNat i, 3]) (e : Int)).2.2.1, (poolPut fs l' d o.no (pageOf [o.x, UInt8.ofNat i, 3]) (e : Int)).2.2.2, vs, ns, P2, L2, D2, K) ?_ (SubR.cons rfl (SubR.cons rfl (SubR.cons rfl (SubR.cons rfl (SubR.cons rfl (SubR.cons rfl (SubR.cons rfl (SubR.nil _)))))))) sl))
                    · dsimp only
                      exact ⟨hA1, hV, hN, hp2, hl2, hd2⟩
              ·
                refine TT.seq (.region (.pures hT 2 rfl (.nil (.seq (.cond rfl (fun c115 => ?_) (fun c115 => ?_))))))
                ·
                  obtain ⟨p1, p2, hA1⟩ := hA.page o.no
                  have hfw := hA.few
                  have htu := hA.turn
                  have hvl := hV.len
                  refine TT.seq (.region (.pures hT 2 rfl (.load rfl rfl (Ld.one hT rfl hz rfl) rfl ?_)))
                  refine OT.call Try.call14 rfl rfl rfl rfl (Fun.weaken (hs' := P :: L :: D :: [(b_12, blk (encOp o) 41 (0, 0))] :: [(b_8, blk vs 38 (0, 0))] :: [(b_9, blk (ns.flatMap Go.Sx.encI) 39 (0, 0))] :: K :: hs) sl (buf_Page hp hl hd (by omega) (by omega))) ?_
                  rintro v_121 hs_121 ⟨w, HW, P2, L2, D2, rfl, rfl, hoW, hp2, hl2, hd2⟩
                  rw [p1]
                  obtain ⟨aw, cw, hvw⟩ := (hoW.row (hs := hs)).len
                  subst hvw
                  refine OT.pures hT 5 rfl (.nil (.seq (.seq (.draw (HW :: P2 :: L2 :: D2 :: [(b_12, blk (encOp o) 41 (0, 0))] :: [(b_8, blk vs 38 (0, 0))] :: [(b_9, blk (ns.flatMap Go.Sx.encI) 39 (0, 0))] :: K :: hs) mixed (.takes (fuel := 12) hT [0, 1, 2, 3] kr kr rfl (.split 127 rfl (fun g127 => ?_) (fun g127 => ?_)))))))
                  ·
                    exact absurd g127 (by simp)
                  ·
                    refine AT.takes (fuel := 10) hT [4, 5] kr kr rfl (.split 129 rfl (fun g129 => ?_) (fun g129 => ?_))
                    ·
                      have hmp : mayPage o.no := of_decide_eq_true g129
                      have hmp' : 0 ≤ o.no ∧ o.no < 96 := hmp
                      have hk : ((o.no.toNat : Nat) : Int) = o.no := by omega
                      obtain ⟨u, hu, hur⟩ := hV.row o.no.toNat (by omega)
                      rw [hk] at hur
                      refine AT.takes (fuel := 8) hT [6, 8] kr kr rfl (.take (fuel := 7) hT 9 rfl rfl kr kr kr rfl (.load rfl (Ld.one hT rfl hz rfl)) rfl ?_)
                      refine AT.index_at (fuel := 6) hT 10 rfl kr kr kr rfl rfl rfl rfl (by omega) (by omega) rfl (.take (fuel := 5) hT 11 rfl rfl kr kr kr rfl (.load rfl (Ld.slc hT rfl hz (show vs[0 + o.no.toNat * 1]? = some u by rw [show 0 + o.no.toNat * 1 = o.no.toNat by omega]; exact hu))) rfl ?_)
                      refine AT.all (fuel := 4) [7, 12] kr (by decide) sl ?_
                      intro i hi
                      simp only [List.mem_cons, List.not_mem_nil, or_false] at hi
                      rcases hi with rfl | rfl
                      ·
                        refine ⟨_, rfl, ?_⟩
                        refine OT.conv_bs (fun _ => rfl) hT rfl rfl rfl rfl rfl hoW.row rfl (.nil (.any (.op (fuel := 3) 12 kr rfl sl (.conv_bs (fun _ => rfl) hT rfl rfl rfl rfl rfl (hur hs).there.there.there.there.there.there.there rfl (.nil (.any (.takes (fuel := 0) hT [13, 14, 15] kr kr rfl (.done kr sl (.seq (.cond rfl (fun c139 => ?_) (fun c139 => ?_)))))))))))
                        ·
                          exact absurd c139 (by rw [p2 hmp]; simp)
                        ·
                          refine TT.skip (.blk (.cut (now, ls, (poolPage fs l d o.no).2.2.1, (poolPage fs l d o.no).2.2.2.1, (poolPage fs l d o.no).2.2.2.2, vs, ns, P2, L2, D2, K) ?_ (SubR.cons rfl (SubR.cons rfl (SubR.cons rfl (SubR.cons rfl (SubR.cons rfl (SubR.cons rfl (SubR.cons rfl (SubR.nil _)))))))) sl))
                          · dsimp only
                            exact ⟨hA1, hV, hN, hp2, hl2, hd2⟩
                      ·
                        refine ⟨_, rfl, ?_⟩
                        refine OT.conv_bs (fun _ => rfl) hT rfl rfl rfl rfl rfl (hur hs).there.there.there.there.there.there.there rfl (.nil (.any (.op (fuel := 3) 7 kr rfl sl (.conv_bs (fun _ => rfl) hT rfl rfl rfl rfl rfl hoW.row rfl (.nil (.any (.takes (fuel := 0) hT [13, 14, 15] kr kr rfl (.done kr sl (.seq (.cond rfl (fun c139 => ?_) (fun c139 => ?_)))))))))))
                        ·
                          exact absurd c139 (by rw [p2 hmp]; simp)
                        ·
                          refine TT.skip (.blk (.cut (now, ls, (poolPage fs l d o.no).2.2.1, (poolPage fs l d o.no).2.2.2.1, (poolPage fs l d o.no).2.2.2.2, vs, ns, P2, L2, D2, K) ?_ (SubR.cons rfl (SubR.cons rfl (SubR.cons rfl (SubR.cons rfl (SubR.cons rfl (SubR.cons rfl (SubR.cons rfl (SubR.nil _)))))))) sl))
                          · dsimp only
                            exact ⟨hA1, hV, hN, hp2, hl2, hd2⟩
                    ·
                      refine AT.takes (fuel := 0) hT [6, 7, 8, 9, 10, 11, 12, 13, 14, 15] kr kr rfl (.done kr sl (.seq (.cond_false rfl (.skip (.blk (.cut (now, ls, (poolPage fs l d o.no).2.2.1, (poolPage fs l d o.no).2.2.2.1, (poolPage fs l d o.no).2.2.2.2, vs, ns, P2, L2, D2, K) ?_ (SubR.cons rfl (SubR.cons rfl (SubR.cons rfl (SubR.cons rfl (SubR.cons rfl (SubR.cons rfl (SubR.cons rfl (SubR.nil _)))))))) sl))))))
                      · dsimp only
                        exact ⟨hA1, hV, hN, hp2, hl2, hd2⟩
                ·
                  refine TT.seq (.region (.pures hT 2 rfl (.nil (.seq (.cond rfl (fun c140 => ?_) (fun c140 => ?_))))))
                  ·
                    obtain ⟨p1, hA1⟩ := hA.flush o.no
                    have hfw := hA.few
                    have htu := hA.turn
                    refine TT.seq (.region (.pures hT 2 rfl (.load rfl rfl (Ld.one hT rfl hz rfl) rfl ?_)))
                    refine OT.call Try.call16 rfl rfl rfl rfl (Fun.weaken (hs' := P :: L :: D :: [(b_12, blk (encOp o) 41 (0, 0))] :: [(b_8, blk vs 38 (0, 0))] :: [(b_9, blk (ns.flatMap Go.Sx.encI) 39 (0, 0))] :: K :: hs) sl (buf_Flush hp hl hd (by omega) (by omega))) ?_
                    rintro v_145 hs_145 ⟨P2, L2, D2, rfl, rfl, hp2, hl2, hd2⟩
                    rw [p1]
                    refine OT.pures hT 2 rfl (.nil (.seq (.cond rfl (fun c147 => ?_) (fun c147 => ?_))))
                    ·
                      exact absurd c147 (by simp)
                    ·
                      refine TT.skip (.blk (.cut (now, ls, (poolFlush fs l d o.no).2.1, (poolFlush fs l d o.no).2.2.1, (poolFlush fs l d o.no).2.2.2, vs, ns, P2, L2, D2, K) ?_ (SubR.cons rfl (SubR.cons rfl (SubR.cons rfl (SubR.cons rfl (SubR.cons rfl (SubR.cons rfl (SubR.cons rfl (SubR.nil _)))))))) sl))
                      · dsimp only
                        exact ⟨hA1, hV, hN, hp2, hl2, hd2⟩
                  ·
                    obtain ⟨p1, p2, hA1⟩ := hA.all
                    have hfw := hA.few
                    have htu := hA.turn
                    refine TT.seq (.region (.pures hT 1 rfl (.call Try.call17 rfl rfl rfl rfl (Fun.weaken (hs' := P :: L :: D :: [(b_12, blk (encOp o) 41 (0, 0))] :: [(b_8, blk vs 38 (0, 0))] :: [(b_9, blk (ns.flatMap Go.Sx.encI) 39 (0, 0))] :: K :: hs) sl (buf_All hp hl hd (by omega) (by omega))) ?_)))
                    rintro v_68 hs_68 ⟨P2, L2, D2, rfl, rfl, hp2, hl2, hd2⟩
                    rw [p1]
                    refine OT.pures hT 2 rfl (.pures hT 1 rfl (.call Try.call18 rfl rfl rfl rfl (buf_Dirty hp2) ?_))
                    rintro v_72 hs_72 ⟨HI, rfl, hoI⟩
                    rw [p2] at hoI
                    obtain ⟨aI, cI, hvI⟩ := (hoI.row (hs := hs)).len
                    subst hvI
                    refine OT.pures hT 3 rfl (.nil (.seq (.cond rfl (fun c75 => ?_) (fun c75 => ?_))))
                    ·
                      exact absurd c75 (by simp)
                    ·
                      refine TT.skip (.blk (.cut (now, ls, (poolAll fs l d).2.1, (poolAll fs l d).2.2.1, (poolAll fs l d).2.2.2, vs, ns, P2, L2, D2, K) ?_ (SubR.cons rfl (SubR.cons rfl (SubR.cons rfl (SubR.cons rfl (SubR.cons rfl (SubR.cons rfl (SubR.cons rfl (SubR.nil _)))))))) sl))
                      · dsimp only
                        exact ⟨hA1, hV, hN, hp2, hl2, hd2⟩
            ·
              rintro ⟨now, ls, fs, l, d, vs, ns, P, L, D, K⟩ hI
              dsimp only at hI
              obtain ⟨hA, hV, hN, hp, hl, hd⟩ := hI
              show TT _ _ _ [(0, .slice a0 os.length c0), (4, .pointer (some ⟨bd, 0, none⟩)), (5, .pointer (some ⟨bl, 0, none⟩)), (7, .pointer (some ⟨bp, 0, none⟩)), (8, .pointer (some ⟨b_8, 0, none⟩)), (9, .pointer (some ⟨b_9, 0, none⟩)), (11, .int .i64 (i : Nat))] ([(b_8, blk vs 38 (0, 0))] :: [(b_9, blk (ns.flatMap Go.Sx.encI) 39 (0, 0))] :: K :: P :: L :: D :: hs)
              have hvl := hV.len
              have hnl := hN.1
              refine TT.seq (.region (.pures hT 3 rfl (.load rfl rfl (Ld.arr_all hT rfl hz (by rw [hvl])) rfl ?_)))
              refine OT.load rfl rfl (Ld.arr_all hT rfl hz (by rw [ints_length, hnl])) rfl ?_
              refine OT.call Try.call19 rfl rfl rfl rfl (Fun.weaken (hs' := P :: L :: D :: K :: [(b_8, blk vs 38 (0, 0))] :: [(b_9, blk (ns.flatMap Go.Sx.encI) 39 (0, 0))] :: hs) sl (law18_right hA hp hl hd hV hN)) ?_
              rintro v_153 hs_153 ⟨rfl, rfl⟩
              refine OT.pures hT 1 rfl (.nil (.seq (.cond_false rfl (.skip (.blk (.seq (.region (.pures hT 3 rfl (.nil (.loop (i + 1, now, ls, fs, l, d, vs, ns, P, L, D, K) ?_ ?_ (SubR.cons rfl (SubR.cons rfl (SubR.cons rfl (SubR.cons rfl (SubR.cons rfl (SubR.cons rfl (SubR.cons' rfl (by (try dsimp only); exact (int_eq (by rw [wrap_i64 (by omega) (by omega)]; omega))) (SubR.nil _)))))))) sl))))))))))
              · dsimp only
                exact ⟨by omega, by omega, hA, hV, hN, hp, hl, hd⟩
              · dsimp only
                omega
      ·
        have c48 := of_decide_eq_false c48
        refine TT.exit (.seq (.loop (.here (.seq (.seq (.region (.pures hT 1 rfl (.nil (.seq (.ret (.of (rs := [.tmp 2]) [_] hs rfl (.tmp rfl .nil) sl ?_)))))))))))
        dsimp only [one]
        exact ⟨rfl, rfl⟩
    ·
      have g45 := of_decide_eq_false g45
      refine OT.pures hT 3 rfl (.nil (.seq (.cond_false rfl (.exit (.seq (.loop (.here (.seq (.seq (.region (.pures hT 1 rfl (.nil (.seq (.ret (.of (rs := [.tmp 2]) [_] hs rfl (.tmp rfl .nil) sl ?_)))))))))))))))
      dsimp only [one]
      exact ⟨rfl, rfl⟩

end Go.Proofs.Ytoalhcodigpgkaa.Sx
