/- BufBack: it answers true. Printed by a program of ours off the loaded program and our notes; Lean checks it. -/
import Derived.Test.YtoalhcodigpgkaaPhB
import Derived.Test.YtoalhcodigpgkaaSxT
import Derived.Test.YtoalhcodigpgkaaCdQ
import Derived.Test.YtoalhcodigpgkaaCdR
import Derived.Test.YtoalhcodigpgkaaSxL
namespace Go.Proofs.Ytoalhcodigpgkaa.Sx
open Go Go.Sx Go.Pl
variable [Outer]

set_option maxHeartbeats 8000000 in
set_option maxRecDepth 100000 in
theorem law_BufBack {v : Value} {ys : List Int} {x : UInt8} {hs : List Chunk} (hy : Row Go.Sx.encI 1 hs v ys) (hyl : ys.length ≤ 9223372036854775807) (hyr : ∀ y ∈ ys, -9223372036854775808 ≤ y ∧ y ≤ 9223372036854775807) : Fun Try.prog 6 [v, .int .u8 x.toNat] hs (fun v' hs' => v' = .bool true ∧ hs = hs') := by
  refine Fun.enter 100 Try.func6 rfl Try.ntmps6 rfl ?_
  obtain ⟨a0, c0, hv0⟩ := hy.len
  subst hv0
  obtain ⟨l0, d1, hm, hinv0, he0, hb0, hfo0, hes0, ht0⟩ := logMake_inv
  have hzero : (Value.agg Try.zeroCells51).cells.toList = (noughts 96).flatMap Go.Sx.encB := by kernel_rfl
  refine TT.seq (.region (.pures hT 1 rfl (.nil (.seq (.seq (.region (.call Try.call8 rfl rfl rfl rfl (law18_begun) ?_)))))))
  rintro v_17 hs_17 ⟨rfl, rfl⟩
  refine OT.pures hT 1 rfl (.nil (.seq (.seq (.seq (.region (.pures hT 2 rfl (.nil (.seq (.cond_false rfl (.skip (.seq (.seq (.region (.call Try.call9 rfl rfl rfl rfl (dev_New (n := 1410)) ?_))))))))))))))
  rintro v_20 hs_20 ⟨HD, rfl, hd⟩
  obtain ⟨bd, hpd⟩ := hd.ptr
  subst hpd
  refine OT.pures hT 1 rfl (.nil (.seq (.seq (.region (.pures hT 1 rfl (.call Try.call10 rfl rfl rfl rfl (wal_Make hd) ?_))))))
  rintro v_23 hs_23 ⟨q, HL, HD1, rfl, rfl, hopt, hd1⟩
  rw [hm] at hopt hd1 ⊢
  have hl : IsLog 5 2 98 72 q (.pointer (some ⟨bd, 0, none⟩)) l0 HL := hopt
  obtain ⟨bl, hql⟩ := hl.ptr
  subst hql
  refine OT.pures hT 5 rfl (.nil (.seq (.seq (.region (.pures hT 2 rfl (.call Try.call11 rfl rfl rfl rfl (buf_New) ?_))))))
  rintro v_28 hs_28 ⟨HP, rfl, hp⟩
  obtain ⟨bp, _, _, _, hpp, _⟩ := hp.is
  subst hpp
  refine OT.pures hT 1 rfl (.nil (.seq (.seq (.region (.alloc Try.zeroValue51 rfl rfl (fun b_10 => ?_))))))
  refine OT.nil (.seq (.cut (ι := (List UInt8) × (Int → List UInt8) × (List Fr) × Log × Dev × Chunk × Chunk × Chunk) (fun j => (j.1).length = 96 ∧ Firsts (j.2.1) (j.1) ∧ PInv (j.2.1) (j.2.2.1) (j.2.2.2.1) (j.2.2.2.2.1) ∧ (j.2.2.1).length ≤ 6 ∧ (j.2.2.2.1).sup.turn ≤ 31 ∧ IsPool 5 79 75 76 (.pointer (some ⟨bp, 0, none⟩)) (.pointer (some ⟨bd, 0, none⟩)) (.pointer (some ⟨bl, 0, none⟩)) (j.2.2.1) (j.2.2.2.2.2.1) ∧ IsLog 5 2 98 72 (.pointer (some ⟨bl, 0, none⟩)) (.pointer (some ⟨bd, 0, none⟩)) (j.2.2.2.1) (j.2.2.2.2.2.2.1) ∧ IsDev 89 65 (.pointer (some ⟨bd, 0, none⟩)) (j.2.2.2.2.1) (j.2.2.2.2.2.2.2)) (fun j => [(0, .slice a0 ys.length c0), (1, .int .u8 x.toNat), (6, .pointer (some ⟨bd, 0, none⟩)), (7, .pointer (some ⟨bl, 0, none⟩)), (9, .pointer (some ⟨bp, 0, none⟩)), (10, .pointer (some ⟨b_10, 0, none⟩))]) (fun j => [(b_10, blk ((j.1).flatMap Go.Sx.encB) 51 (0, 0))] :: (j.2.2.2.2.2.1) :: (j.2.2.2.2.2.2.1) :: (j.2.2.2.2.2.2.2) :: hs) ?_ ?_))
  ·
    refine TT.seq (.region (.pures hT 1 rfl (.nil (.seq (.block (.loop (ι := Nat × (List UInt8) × (Int → List UInt8) × (List Fr) × Log × Dev × Chunk × Chunk × Chunk) (fun j => (j.1) ≤ ys.length ∧ (j.1) ≤ 30 ∧ (j.2.1).length = 96 ∧ Firsts (j.2.2.1) (j.2.1) ∧ PInv (j.2.2.1) (j.2.2.2.1) (j.2.2.2.2.1) (j.2.2.2.2.2.1) ∧ (j.2.2.2.1).length ≤ 6 ∧ (j.2.2.2.2.1).sup.turn ≤ 1 + (j.1) ∧ IsPool 5 79 75 76 (.pointer (some ⟨bp, 0, none⟩)) (.pointer (some ⟨bd, 0, none⟩)) (.pointer (some ⟨bl, 0, none⟩)) (j.2.2.2.1) (j.2.2.2.2.2.2.1) ∧ IsLog 5 2 98 72 (.pointer (some ⟨bl, 0, none⟩)) (.pointer (some ⟨bd, 0, none⟩)) (j.2.2.2.2.1) (j.2.2.2.2.2.2.2.1) ∧ IsDev 89 65 (.pointer (some ⟨bd, 0, none⟩)) (j.2.2.2.2.2.1) (j.2.2.2.2.2.2.2.2)) (fun j => ys.length - (j.1)) (fun j => [(0, .slice a0 ys.length c0), (1, .int .u8 x.toNat), (6, .pointer (some ⟨bd, 0, none⟩)), (7, .pointer (some ⟨bl, 0, none⟩)), (9, .pointer (some ⟨bp, 0, none⟩)), (10, .pointer (some ⟨b_10, 0, none⟩)), (11, .int .i64 ((j.1) : Nat))]) (fun j => [(b_10, blk ((j.2.1).flatMap Go.Sx.encB) 51 (0, 0))] :: (j.2.2.2.2.2.2.1) :: (j.2.2.2.2.2.2.2.1) :: (j.2.2.2.2.2.2.2.2) :: hs) (0, noughts 96, (fun _ => noughts 256), [], l0, d1, HP, HL, HD1) ?_ (SubR.cons rfl (SubR.cons rfl (SubR.cons rfl (SubR.cons rfl (SubR.cons rfl (SubR.cons rfl (SubR.cons rfl (SubR.nil _)))))))) (by rw [hzero]; exact sl) ?_))))))
    · dsimp only
      exact ⟨by omega, by omega, by simp [noughts], Firsts.zero, hinv0, by simp, by omega, hp, hl, hd1⟩
    rintro ⟨i, nb, now, fs, l, d, P, L, D⟩ hI
    dsimp only at hI
    obtain ⟨hi, hi30, hnb, hfi, hinv, hfs, hturn, hp, hl, hd⟩ := hI
    show TT _ _ _ [(0, .slice a0 ys.length c0), (1, .int .u8 x.toNat), (6, .pointer (some ⟨bd, 0, none⟩)), (7, .pointer (some ⟨bl, 0, none⟩)), (9, .pointer (some ⟨bp, 0, none⟩)), (10, .pointer (some ⟨b_10, 0, none⟩)), (11, .int .i64 (i : Nat))] ([(b_10, blk (nb.flatMap Go.Sx.encB) 51 (0, 0))] :: P :: L :: D :: hs)
    refine TT.seq (.seq (.region (.pures hT 5 rfl (.split 33 rfl (fun g33 => ?_) (fun g33 => ?_)))))
    ·
      have g33 := of_decide_eq_true g33
      refine OT.pures hT 3 rfl (.nil (.seq (.cond rfl (fun c36 => ?_) (fun c36 => ?_))))
      ·
        have c36 := of_decide_eq_true c36
        refine TT.skip (.seq (.seq (.block (.seq (.region (.pures hT 2 rfl ?_))))))
        obtain ⟨y, hyk⟩ := nth (l := ys) (i := i) (by omega)
        obtain ⟨hy0, hy1⟩ := hyr y (List.mem_of_getElem? hyk)
        obtain ⟨k, hk96, hk⟩ := mod96 y hy0 hy1
        have hmk : mayPage (k : Nat) := by unfold mayPage; omega
        have hpo : (pageOf [(UInt8.ofNat (x.toNat + i)), 7]).length = 256 := pageOf_length (by simp)
        obtain ⟨p1, p2, p3, p4, p5, p6⟩ := hinv.put hfs hmk hpo 0
        refine OT.index hT rfl rfl rfl rfl ro (by omega) hyk rfl (fun ad_41 hel_41 => ?_)
        refine OT.load rfl rfl (hel_41.ld_one hT rfl rfl) rfl (.pures hT 3 rfl (.pures hT 1 rfl (.reg 12 rfl (v := .int .i64 (k : Nat)) (int_eq hk) (.nil (.seq (.seq (.region (.pures hT 5 rfl (.reg 50 rfl (v := .int .u8 ((UInt8.ofNat (x.toNat + i)).toNat : Int)) (int_eq (byte_sum x i)) (.index_at hT rfl rfl rfl rfl (by omega) (by omega) rfl (.store hT rfl rfl rfl rfl pl rfl (by rw [length_bytes, hnb]; show 0 + ((k : Nat) : Int).toNat * 1 + 1 ≤ 96; omega) rfl (.inl (Nat.le_refl _)) (cs' := (nb.set k (UInt8.ofNat (x.toNat + i))).flatMap Go.Sx.encB) (bytes_set (by omega) _ (by omega)) ?_)))))))))))
        refine OT.nil (.seq (.seq (.region (.pures hT 3 rfl (.index_at hT rfl rfl rfl rfl (by omega) (by omega) rfl (.load rfl rfl (Ld.one hT rfl hz (bytes_at (k := k) (c := (UInt8.ofNat (x.toNat + i))) (List.getElem?_set_self (by omega)) (by omega))) rfl ?_))))))
        refine OT.buildSlice (enc := Go.Sx.encB) (xs := [(UInt8.ofNat (x.toNat + i)), 7]) (xos := [.tmp 56, .const (.int .u8 (7))]) el31 rfl rfl rfl rfl rfl (by simp [Value.cells]) (fun _ _ => rfl) rfl (by decide) rfl (fun v_57 H_57 ho_57 => ?_)
        refine OT.call Try.call12 rfl rfl rfl rfl (law9_Of ho_57.row (by simp)) ?_
        rintro v_58 hs_58 ⟨HB, rfl, hoB⟩
        refine OT.call Try.call13 rfl rfl rfl rfl (Fun.weaken (hs' := P :: L :: D :: HB :: [(b_10, blk ((nb.set k (UInt8.ofNat (x.toNat + i))).flatMap Go.Sx.encB) 51 (0, 0))] :: hs) sl (buf_Put hp hl hd (by omega) (by omega) hoB.row (by omega))) ?_
        rintro v_59 hs_59 ⟨P1, L1, D1, rfl, rfl, hp1, hl1, hd1'⟩
        rw [p1]
        refine OT.pures hT 1 rfl (.nil (.seq (.cond rfl (fun c60 => ?_) (fun c60 => ?_))))
        ·
          exact absurd c60 (by decide)
        ·
          refine TT.skip (.blk (.seq (.region (.pures hT 3 rfl (.nil (.loop (i + 1, nb.set k (UInt8.ofNat (x.toNat + i)), upd now k (pageOf [(UInt8.ofNat (x.toNat + i)), 7]), (poolPut fs l d (k : Nat) (pageOf [(UInt8.ofNat (x.toNat + i)), 7]) 0).2.1, (poolPut fs l d (k : Nat) (pageOf [(UInt8.ofNat (x.toNat + i)), 7]) 0).2.2.1, (poolPut fs l d (k : Nat) (pageOf [(UInt8.ofNat (x.toNat + i)), 7]) 0).2.2.2, P1, L1, D1) ?_ ?_ (SubR.cons rfl (SubR.cons rfl (SubR.cons rfl (SubR.cons rfl (SubR.cons rfl (SubR.cons rfl (SubR.cons' rfl (by (try dsimp only); exact (int_eq (by rw [wrap_i64 (by omega) (by omega)]; omega))) (SubR.nil _)))))))) sl))))))
          · dsimp only
            exact ⟨by omega, by omega, by rw [List.length_set]; exact hnb, hfi.set hnb hk96 rfl, p2, p3, by omega, hp1, hl1, hd1'⟩
          · dsimp only
            omega
      ·
        have c36 := of_decide_eq_false c36
        refine TT.exit (.seq (.loop (.here (.cut (nb, now, fs, l, d, P, L, D) ?_ (SubR.cons rfl (SubR.cons rfl (SubR.cons rfl (SubR.cons rfl (SubR.cons rfl (SubR.cons rfl (SubR.nil _))))))) sl))))
        · dsimp only
          exact ⟨hnb, hfi, hinv, hfs, by omega, hp, hl, hd⟩
    ·
      have g33 := of_decide_eq_false g33
      refine OT.pures hT 3 rfl (.nil (.seq (.cond_false rfl (.exit (.seq (.loop (.here (.cut (nb, now, fs, l, d, P, L, D) ?_ (SubR.cons rfl (SubR.cons rfl (SubR.cons rfl (SubR.cons rfl (SubR.cons rfl (SubR.cons rfl (SubR.nil _))))))) sl))))))))
      · dsimp only
        exact ⟨hnb, hfi, hinv, hfs, by omega, hp, hl, hd⟩
  ·
    rintro ⟨nb, now, fs, l, d, P, L, D⟩ hI
    dsimp only at hI
    obtain ⟨hnb, hfi, hinv, hfs, hturn, hp, hl, hd⟩ := hI
    show TT _ _ _ [(0, .slice a0 ys.length c0), (1, .int .u8 x.toNat), (6, .pointer (some ⟨bd, 0, none⟩)), (7, .pointer (some ⟨bl, 0, none⟩)), (9, .pointer (some ⟨bp, 0, none⟩)), (10, .pointer (some ⟨b_10, 0, none⟩))] ([(b_10, blk (nb.flatMap Go.Sx.encB) 51 (0, 0))] :: P :: L :: D :: hs)
    obtain ⟨q1, q2, q3, q4, q5, q6, q7, q8⟩ := hinv.allClean
    refine TT.seq (.seq (.region (.pures hT 1 rfl (.call Try.call17 rfl rfl rfl rfl (Fun.weaken (hs' := P :: L :: D :: [(b_10, blk (nb.flatMap Go.Sx.encB) 51 (0, 0))] :: hs) sl (buf_All hp hl hd (by omega) (by omega))) ?_))))
    rintro v_62 hs_62 ⟨P2, L2, D2, rfl, rfl, hp2, hl2, hd2⟩
    rw [q1]
    refine OT.pures hT 1 rfl (.nil (.seq (.cond rfl (fun c63 => ?_) (fun c63 => ?_))))
    ·
      exact absurd c63 (by decide)
    ·
      refine TT.skip (.seq (.seq (.region (.pures hT 1 rfl (.call Try.call21 rfl rfl rfl rfl (Fun.pull (A := D2) pl (dev_Crash hd2 (ks := []) Row.nil)) ?_)))))
      rintro v_65 hs_65 ⟨X, rfl, hx⟩
      obtain ⟨bx, hpx⟩ := hx.ptr
      subst hpx
      have hcr := q2.crash q8
      have hci : CInv now [] ((poolAll fs l d).2.2.2.crash []) := ⟨hcr.free, by simp, fun no hn => hcr.on no hn (by simp), by simp⟩
      refine OT.pures hT 1 rfl (.call Try.call11 rfl rfl rfl rfl (buf_New) ?_)
      rintro v_67 hs_67 ⟨Q, rfl, hq⟩
      obtain ⟨bq, _, _, _, hqq, _⟩ := hq.is
      subst hqq
      refine OT.pures hT 1 rfl (.nil (.seq (.seq (.seq (.region (.pures hT 1 rfl (.nil (.seq (.block (.loop (ι := Nat × (List Fr) × Chunk) (fun j => (j.1) ≤ 96 ∧ CInv now (j.2.1) ((poolAll fs l d).2.2.2.crash []) ∧ IsPool 5 79 75 76 (.pointer (some ⟨bq, 0, none⟩)) (.pointer (some ⟨bx, 0, none⟩)) (.pointer (some ⟨bl, 0, none⟩)) (j.2.1) (j.2.2)) (fun j => 96 - (j.1)) (fun j => [(10, .pointer (some ⟨b_10, 0, none⟩)), (13, .pointer (some ⟨bq, 0, none⟩)), (14, .int .i64 ((j.1) : Nat))]) (fun j => [(b_10, blk (nb.flatMap Go.Sx.encB) 51 (0, 0))] :: (j.2.2) :: X :: hs) (0, [], Q) ?_ (SubR.cons rfl (SubR.cons rfl (SubR.cons rfl (SubR.nil _)))) sl ?_))))))))))
      · dsimp only
        exact ⟨by omega, hci, hq⟩
      rintro ⟨j2, gs, Q2⟩ hI
      dsimp only at hI
      obtain ⟨hj, hc, hq2⟩ := hI
      show TT _ _ _ [(10, .pointer (some ⟨b_10, 0, none⟩)), (13, .pointer (some ⟨bq, 0, none⟩)), (14, .int .i64 (j2 : Nat))] ([(b_10, blk (nb.flatMap Go.Sx.encB) 51 (0, 0))] :: Q2 :: X :: hs)
      refine TT.seq (.seq (.region (.pures hT 2 rfl (.nil (.seq (.cond rfl (fun c69 => ?_) (fun c69 => ?_)))))))
      ·
        have c69 := of_decide_eq_true c69
        have hmj : mayPage (j2 : Nat) := by unfold mayPage; omega
        obtain ⟨r1, r2, r3⟩ := hc.page hmj
        have hgc : ∀ f ∈ gs, f.dirty = false := fun f hf => (hc.fr f hf).2.2.2
        have hgc2 := fun f hf => (r3.fr f hf).2.2.2
        have hfew := r3.few
        have hgfew := hc.few
        obtain ⟨cb, hcb⟩ := nth (l := nb) (i := j2) (by omega)
        have hcn : (now (j2 : Nat))[0]? = some cb := by rw [hfi j2 (by omega)]; exact hcb
        refine TT.skip (.seq (.seq (.block (.seq (.region (.pures hT 2 rfl (.call Try.call14 rfl rfl rfl rfl (Fun.weaken (hs' := Q2 :: X :: [(b_10, blk (nb.flatMap Go.Sx.encB) 51 (0, 0))] :: hs) sl (buf_PageC hq2 hx hgc (by omega) hmj r1)) ?_)))))))
        rintro v_75 hs_75 ⟨w, HW, Q3, rfl, rfl, hoW, hq3⟩
        rw [r2] at hoW
        obtain ⟨aw, cw, hvw⟩ := (hoW.row (hs := hs)).len
        subst hvw
        refine OT.pures hT 5 rfl (.nil (.seq (.seq (.draw (HW :: Q3 :: X :: [(b_10, blk (nb.flatMap Go.Sx.encB) 51 (0, 0))] :: hs) mixed (.takes (fuel := 19) hT [0, 1, 2] kr kr rfl (.takes (fuel := 17) hT [3, 6] kr kr rfl (.index (fuel := 16) hT 4 rfl kr kr kr rfl rfl rfl rfl hoW.row (by omega) hcn rfl (fun ad_82 hel_82 => ?_))))))))
        refine AT.take (fuel := 15) hT 5 rfl rfl kr kr kr rfl (.load rfl (hel_82.ld_one hT rfl rfl)) rfl (.index_at (fuel := 14) hT 7 rfl kr kr kr rfl rfl rfl rfl (by omega) (by omega) rfl (.take (fuel := 13) hT 8 rfl rfl kr kr kr rfl (.load rfl (Ld.one hT rfl hz (bytes_at hcb (by omega)))) rfl ?_))
        refine AT.takes (fuel := 10) hT [9, 10, 11] kr kr rfl (.split 89 rfl (fun g89 => ?_) (fun g89 => ?_))
        ·
          exact absurd g89 (by simp)
        ·
          refine AT.takes (fuel := 9) hT [12] kr kr rfl (.op (fuel := 8) 13 kr rfl sl (.call Try.call20 rfl rfl rfl rfl (Fun.pull (A := Q3) pl (buf_HeldC hq3)) ?_))
          rintro v_91 hs_91 ⟨rfl, rfl⟩
          refine OT.nil (.any (.takes (fuel := 5) hT [14, 15, 16] kr kr rfl (.split 94 rfl (fun g94 => ?_) (fun g94 => ?_))))
          ·
            exact absurd (of_decide_eq_true g94) (by omega)
          ·
            refine AT.takes (fuel := 4) hT [17] kr kr rfl (.op (fuel := 3) 18 kr rfl sl (.call Try.call18 rfl rfl rfl rfl (Fun.pull (A := Q3) pl (buf_Dirty hq3)) ?_))
            rintro v_96 hs_96 ⟨HI, rfl, hoI⟩
            rw [poolDirty_nil hgc2] at hoI
            obtain ⟨aI, cI, hvI⟩ := (hoI.row (hs := hs)).len
            subst hvI
            refine OT.nil (.any (.takes (fuel := 0) hT [19, 20, 21] kr kr rfl (.done kr sl (.seq (.cond rfl (fun c99 => ?_) (fun c99 => ?_))))))
            ·
              exact absurd c99 (by simp)
            ·
              refine TT.skip (.blk (.seq (.region (.pures hT 3 rfl (.nil (.loop (j2 + 1, (pageC gs ((poolAll fs l d).2.2.2.crash []) (j2 : Nat)).2, Q3) ?_ ?_ (SubR.cons rfl (SubR.cons rfl (SubR.cons' rfl (by (try dsimp only); exact (int_eq (by rw [wrap_i64 (by omega) (by omega)]; omega))) (SubR.nil _)))) sl))))))
              · dsimp only
                exact ⟨by omega, r3, hq3⟩
              · dsimp only
                omega
      ·
        refine TT.exit (.seq (.loop (.here (.seq (.seq (.region (.pures hT 1 rfl (.nil (.seq (.ret (.of (rs := [.tmp 4]) [_] hs rfl (.tmp rfl .nil) sl ?_)))))))))))
        dsimp only [one]
        exact ⟨rfl, rfl⟩

end Go.Proofs.Ytoalhcodigpgkaa.Sx
