/- BufAll: it answers true. Printed by a program of ours off the loaded program and our notes; Lean checks it. -/
import Derived.Test.YtoalhcodigpgkaaPhE
import Derived.Test.YtoalhcodigpgkaaSxT
import Derived.Test.YtoalhcodigpgkaaCdQ
import Derived.Test.YtoalhcodigpgkaaCdR
import Derived.Test.YtoalhcodigpgkaaSxL
namespace Go.Proofs.Ytoalhcodigpgkaa.Sx
open Go Go.Sx Go.Pl
variable [Outer]

set_option maxHeartbeats 4000000 in
set_option maxRecDepth 100000 in
theorem law18_right {bd bl bp : Nat} {m : Nat} {now : Int → List UInt8} {ls : Int → Int} {fs : List Fr} {l : Log} {d : Dev} {P L D K : Chunk} {r : List Chunk} {vs : List Value} {ns : List Int} (hA : AInv m now ls fs l d) (hp : IsPool 5 79 75 76 (.pointer (some ⟨bp, 0, none⟩)) (.pointer (some ⟨bd, 0, none⟩)) (.pointer (some ⟨bl, 0, none⟩)) fs P) (hl : IsLog 5 2 98 72 (.pointer (some ⟨bl, 0, none⟩)) (.pointer (some ⟨bd, 0, none⟩)) l L) (hd : IsDev 89 65 (.pointer (some ⟨bd, 0, none⟩)) d D) (hV : Arr now K vs 96) (hN : Nums ls ns) : Fun Try.prog 19 [.pointer (some ⟨bd, 0, none⟩), .pointer (some ⟨bl, 0, none⟩), .pointer (some ⟨bp, 0, none⟩), .agg ⟨vs⟩, .agg ⟨ns.flatMap Go.Sx.encI⟩] (P :: L :: D :: K :: r) (fun v' hs' => v' = .bool true ∧ P :: L :: D :: K :: r = hs') := by
  refine Fun.enter 73 Try.func19 rfl Try.ntmps19 rfl ?_
  have hrise := poolDirty_rises hA.inv.nodup
  have hdl : (poolDirty fs).length ≤ 6 := by unfold poolDirty dirties; rw [List.length_mergeSort, List.length_map]; exact Nat.le_trans (List.length_filter_le _ _) hA.few
  have hfew := hA.few
  refine TT.seq (.region (.box rfl rfl rfl (fun b_8 => ?_)))
  refine OT.box rfl rfl rfl (fun b_9 => ?_)
  refine OT.pures hT 1 rfl (.nil (.seq (.seq (.region (.pures hT 1 rfl (.call Try.call18 rfl rfl rfl rfl (Fun.pull (A := P) pl (buf_Dirty hp)) ?_))))))
  rintro v_18 hs_18 ⟨HI, rfl, hoI⟩
  obtain ⟨aD, cD, hvD⟩ := (hoI.row (hs := r)).len
  subst hvD
  refine OT.pures hT 1 rfl (.nil (.seq (.seq (.region (.pures hT 1 rfl (.call Try.call21 rfl rfl rfl rfl (Fun.pull (A := D) pl (dev_Crash hd (ks := []) Row.nil)) ?_))))))
  rintro v_20 hs_20 ⟨X, rfl, hx⟩
  obtain ⟨bx, hpx⟩ := hx.ptr
  subst hpx
  refine OT.pures hT 1 rfl (.nil (.seq (.seq (.region (.pures hT 1 rfl (.nil (.seq (.seq (.seq (.region (.pures hT 1 rfl (.nil (.seq (.block (.loop (ι := Nat) (fun j => (j) ≤ 96) (fun j => 96 - (j)) (fun j => [(0, .pointer (some ⟨bd, 0, none⟩)), (1, .pointer (some ⟨bl, 0, none⟩)), (2, .pointer (some ⟨bp, 0, none⟩)), (8, .pointer (some ⟨b_8, 0, none⟩)), (9, .pointer (some ⟨b_9, 0, none⟩)), (11, .slice aD (poolDirty fs).length cD), (12, .pointer (some ⟨bx, 0, none⟩)), (14, .int .i64 ((j) : Nat)), (13, .int .i64 (below (poolDirty fs) ((j) : Nat) : Nat))]) (fun j => [(b_8, blk vs 38 (0, 0))] :: [(b_9, blk (ns.flatMap Go.Sx.encI) 39 (0, 0))] :: HI :: P :: L :: D :: X :: K :: r) (0) ?_ (SubR.cons rfl (SubR.cons rfl (SubR.cons rfl (SubR.cons rfl (SubR.cons rfl (SubR.cons rfl (SubR.cons rfl (SubR.cons rfl (SubR.cons' rfl (by (try dsimp only); exact (int_eq (by rw [show below (poolDirty fs) ((0 : Nat) : Int) = 0 by unfold below; rw [List.filter_eq_nil_iff.2 (fun x hx => by obtain ⟨f, hf, _, rfl⟩ := poolDirty_mem.1 hx; have := (hA.inv.fr f hf).1; unfold mayPage at this; simp; omega)]; rfl]; rfl))) (SubR.nil _)))))))))) sl ?_)))))))))))))))
  · omega
  rintro n hn
  show TT _ _ _ [(0, .pointer (some ⟨bd, 0, none⟩)), (1, .pointer (some ⟨bl, 0, none⟩)), (2, .pointer (some ⟨bp, 0, none⟩)), (8, .pointer (some ⟨b_8, 0, none⟩)), (9, .pointer (some ⟨b_9, 0, none⟩)), (11, .slice aD (poolDirty fs).length cD), (12, .pointer (some ⟨bx, 0, none⟩)), (14, .int .i64 (n : Nat)), (13, .int .i64 (below (poolDirty fs) (n : Nat) : Nat))] ([(b_8, blk vs 38 (0, 0))] :: [(b_9, blk (ns.flatMap Go.Sx.encI) 39 (0, 0))] :: HI :: P :: L :: D :: X :: K :: r)
  refine TT.seq (.seq (.region (.pures hT 2 rfl (.nil (.seq (.cond rfl (fun c22 => ?_) (fun c22 => ?_)))))))
  ·
    have c22 := of_decide_eq_true c22
    have hmn : mayPage (n : Nat) := by unfold mayPage; omega
    obtain ⟨hs1, hs2⟩ := below_step (n := ((n : Nat) : Int)) hrise
    refine TT.skip (.seq (.seq (.block (.cut (ι := Unit) (fun j => below (poolDirty fs) ((n : Nat) + 1) = below (poolDirty fs) (n : Nat) ∧ ((n : Nat) : Int) ∉ (poolDirty fs)) (fun j => [(0, .pointer (some ⟨bd, 0, none⟩)), (1, .pointer (some ⟨bl, 0, none⟩)), (2, .pointer (some ⟨bp, 0, none⟩)), (8, .pointer (some ⟨b_8, 0, none⟩)), (9, .pointer (some ⟨b_9, 0, none⟩)), (11, .slice aD (poolDirty fs).length cD), (12, .pointer (some ⟨bx, 0, none⟩)), (14, .int .i64 (n : Nat)), (13, .int .i64 (below (poolDirty fs) (n : Nat) : Nat))]) (fun j => [(b_8, blk vs 38 (0, 0))] :: [(b_9, blk (ns.flatMap Go.Sx.encI) 39 (0, 0))] :: HI :: P :: L :: D :: X :: K :: r) ?_ ?_))))
    ·
      refine TT.seq (.region (.pures hT 5 rfl (.split 29 rfl (fun g29 => ?_) (fun g29 => ?_))))
      ·
        have g29 := of_decide_eq_true g29
        obtain ⟨e, he⟩ := nth (l := (poolDirty fs)) (i := below (poolDirty fs) (n : Nat)) (by omega)
        refine OT.pures hT 2 rfl (.index hT rfl rfl rfl rfl ro (by omega) he rfl (fun ad_32 hel_32 => ?_))
        refine OT.load rfl rfl (hel_32.ld_one hT rfl rfl) rfl (.pures hT 3 rfl (.nil (.seq (.cond rfl (fun c36 => ?_) (fun c36 => ?_)))))
        ·
          have c36 := eq_of_beq c36
          obtain ⟨hb0, _⟩ := hs1 (by rw [he, c36])
          refine TT.seq (.region (.pures hT 3 rfl (.nil (.seq (.exit (.loop (.here (.seq (.region (.pures hT 3 rfl (.nil (.loop (n + 1) ?_ ?_ (SubR.cons rfl (SubR.cons rfl (SubR.cons rfl (SubR.cons rfl (SubR.cons rfl (SubR.cons rfl (SubR.cons rfl (SubR.cons' rfl (by (try dsimp only); exact (int_eq (by rw [wrap_i64 (by omega) (by omega)]; omega))) (SubR.cons' rfl (by (try dsimp only); exact (int_eq (by rw [wrap_i64 (by omega) (by omega), show ((n + 1 : Nat) : Int) = (n : Int) + 1 by omega, hb0]; omega))) (SubR.nil _)))))))))) sl))))))))))))
          · omega
          · omega
        ·
          have c36 := ne_of_beq_false c36
          have hnd := hs2 (by rw [he]; intro hh; exact c36 (Option.some.inj hh))
          refine TT.skip (.cut (()) ?_ (SubR.cons rfl (SubR.cons rfl (SubR.cons rfl (SubR.cons rfl (SubR.cons rfl (SubR.cons rfl (SubR.cons rfl (SubR.cons rfl (SubR.cons rfl (SubR.nil _)))))))))) sl)
          · exact hnd
      ·
        have g29 := of_decide_eq_false g29
        have hnd := hs2 (by rw [List.getElem?_eq_none (by omega)]; simp)
        refine OT.pures hT 7 rfl (.nil (.seq (.cond_false rfl (.skip (.cut (()) ?_ (SubR.cons rfl (SubR.cons rfl (SubR.cons rfl (SubR.cons rfl (SubR.cons rfl (SubR.cons rfl (SubR.cons rfl (SubR.cons rfl (SubR.cons rfl (SubR.nil _)))))))))) sl)))))
        · exact hnd
    ·
      rintro _ ⟨hb0, hnm⟩
      show TT _ _ _ [(0, .pointer (some ⟨bd, 0, none⟩)), (1, .pointer (some ⟨bl, 0, none⟩)), (2, .pointer (some ⟨bp, 0, none⟩)), (8, .pointer (some ⟨b_8, 0, none⟩)), (9, .pointer (some ⟨b_9, 0, none⟩)), (11, .slice aD (poolDirty fs).length cD), (12, .pointer (some ⟨bx, 0, none⟩)), (14, .int .i64 (n : Nat)), (13, .int .i64 (below (poolDirty fs) (n : Nat) : Nat))] ([(b_8, blk vs 38 (0, 0))] :: [(b_9, blk (ns.flatMap Go.Sx.encI) 39 (0, 0))] :: HI :: P :: L :: D :: X :: K :: r)
      obtain ⟨hrd, hle⟩ := hA.inv.lasts hA.log hmn hnm
      obtain ⟨u, hu, hur⟩ := hV.row n (by omega)
      have hnn := hN.2 n (by omega)
      have hb1 : below (poolDirty fs) ((n + 1 : Nat) : Int) = below (poolDirty fs) (n : Nat) := by rw [show ((n + 1 : Nat) : Int) = (n : Int) + 1 by omega]; exact hb0
      refine TT.seq (.region (.pures hT 2 rfl (.call Try.call24 rfl rfl rfl rfl (Fun.pull (A := X) pl (page_Read hx)) ?_)))
      rintro v_42 hs_42 ⟨w, HW, rfl, rfl, hoW⟩
      rw [hrd] at hoW ⊢
      dsimp only at hoW ⊢
      obtain ⟨aw, cw, hvw⟩ := (hoW.row (hs := r)).len
      subst hvw
      refine OT.pures hT 5 rfl (.nil (.seq (.seq (.draw (HW :: X :: [(b_8, blk vs 38 (0, 0))] :: [(b_9, blk (ns.flatMap Go.Sx.encI) 39 (0, 0))] :: HI :: P :: L :: D :: K :: r) mixed (.takes (fuel := 16) hT [0, 1, 2] kr kr rfl (.takes (fuel := 14) hT [3, 5] kr kr rfl (.index_at (fuel := 13) hT 6 rfl kr kr kr rfl rfl rfl rfl (by omega) (by omega) rfl (.take (fuel := 12) hT 7 rfl rfl kr kr kr rfl (.load rfl (Ld.slc hT rfl hz (show vs[0 + ((n : Nat) : Int).toNat * 1]? = some u by rw [show 0 + ((n : Nat) : Int).toNat * 1 = n by omega]; exact hu))) rfl ?_))))))))
      refine AT.all (fuel := 11) [4, 8] kr (by decide) sl ?_
      intro i hi
      simp only [List.mem_cons, List.not_mem_nil, or_false] at hi
      rcases hi with rfl | rfl
      ·
        refine ⟨_, rfl, ?_⟩
        refine OT.conv_bs (fun _ => rfl) hT rfl rfl rfl rfl rfl hoW.row rfl (.nil (.any (.op (fuel := 10) 8 kr rfl sl (.conv_bs (fun _ => rfl) hT rfl rfl rfl rfl rfl (hur r).there.there.there.there.there.there.there.there rfl (.nil (.any (.takes (fuel := 7) hT [9, 10, 11] kr kr rfl (.split 56 rfl (fun g56 => ?_) (fun g56 => ?_)))))))))
        ·
          exact absurd g56 (by simp)
        ·
          refine AT.takes (fuel := 5) hT [12, 15] kr kr rfl (.index_at (fuel := 4) hT 13 rfl kr kr kr rfl rfl rfl rfl (by omega) (by omega) rfl (.take (fuel := 3) hT 14 rfl rfl kr kr kr rfl (.load rfl (Ld.one hT rfl hz (ints_at hnn (by omega)))) rfl ?_))
          refine AT.op (fuel := 2) 16 kr rfl sl (.call Try.call25 rfl rfl rfl rfl (Fun.pull (A := L) pl (wal_Forced hl)) ?_)
          rintro v_61 hs_61 ⟨rfl, rfl⟩
          refine OT.nil (.any (.takes (fuel := 0) hT [17, 18] kr kr rfl (.done kr sl (.seq (.cond rfl (fun c63 => ?_) (fun c63 => ?_))))))
          ·
            exact absurd (of_decide_eq_true c63) (by omega)
          ·
            refine TT.skip (.blk (.seq (.region (.pures hT 3 rfl (.nil (.loop (n + 1) ?_ ?_ (SubR.cons rfl (SubR.cons rfl (SubR.cons rfl (SubR.cons rfl (SubR.cons rfl (SubR.cons rfl (SubR.cons rfl (SubR.cons' rfl (by (try dsimp only); exact (int_eq (by rw [wrap_i64 (by omega) (by omega)]; omega))) (SubR.cons' rfl (by (try dsimp only); exact (int_eq (by rw [hb1]))) (SubR.nil _)))))))))) sl))))))
            · omega
            · omega
      ·
        refine ⟨_, rfl, ?_⟩
        refine OT.conv_bs (fun _ => rfl) hT rfl rfl rfl rfl rfl (hur r).there.there.there.there.there.there.there.there rfl (.nil (.any (.op (fuel := 10) 4 kr rfl sl (.conv_bs (fun _ => rfl) hT rfl rfl rfl rfl rfl hoW.row rfl (.nil (.any (.takes (fuel := 7) hT [9, 10, 11] kr kr rfl (.split 56 rfl (fun g56 => ?_) (fun g56 => ?_)))))))))
        ·
          exact absurd g56 (by simp)
        ·
          refine AT.takes (fuel := 5) hT [12, 15] kr kr rfl (.index_at (fuel := 4) hT 13 rfl kr kr kr rfl rfl rfl rfl (by omega) (by omega) rfl (.take (fuel := 3) hT 14 rfl rfl kr kr kr rfl (.load rfl (Ld.one hT rfl hz (ints_at hnn (by omega)))) rfl ?_))
          refine AT.op (fuel := 2) 16 kr rfl sl (.call Try.call25 rfl rfl rfl rfl (Fun.pull (A := L) pl (wal_Forced hl)) ?_)
          rintro v_61 hs_61 ⟨rfl, rfl⟩
          refine OT.nil (.any (.takes (fuel := 0) hT [17, 18] kr kr rfl (.done kr sl (.seq (.cond rfl (fun c63 => ?_) (fun c63 => ?_))))))
          ·
            exact absurd (of_decide_eq_true c63) (by omega)
          ·
            refine TT.skip (.blk (.seq (.region (.pures hT 3 rfl (.nil (.loop (n + 1) ?_ ?_ (SubR.cons rfl (SubR.cons rfl (SubR.cons rfl (SubR.cons rfl (SubR.cons rfl (SubR.cons rfl (SubR.cons rfl (SubR.cons' rfl (by (try dsimp only); exact (int_eq (by rw [wrap_i64 (by omega) (by omega)]; omega))) (SubR.cons' rfl (by (try dsimp only); exact (int_eq (by rw [hb1]))) (SubR.nil _)))))))))) sl))))))
            · omega
            · omega
  ·
    have c22 := of_decide_eq_false c22
    obtain rfl : n = 96 := by omega
    have hba : below (poolDirty fs) ((96 : Nat) : Int) = (poolDirty fs).length := below_all fun x hx => by obtain ⟨f, hf, _, rfl⟩ := poolDirty_mem.1 hx; have := (hA.inv.fr f hf).1; unfold mayPage at this; omega
    refine TT.exit (.seq (.loop (.here (.seq (.seq (.region (.pures hT 5 rfl (.split 68 rfl (fun g68 => ?_) (fun g68 => ?_)))))))))
    ·
      refine OT.pures hT 1 rfl (.call Try.call20 rfl rfl rfl rfl (Fun.pull (A := P) pl (buf_HeldC hp)) ?_)
      rintro v_70 hs_70 ⟨rfl, rfl⟩
      refine OT.pures hT 3 rfl (.nil (.seq (.ret (.of (rs := [.tmp 10]) [_] (P :: L :: D :: K :: r) rfl (.tmp rfl .nil) sl ?_))))
      dsimp only [one]
      exact ⟨by rw [decide_eq_true (show ((fs.length : Nat) : Int) ≤ 6 by omega)]; rfl, rfl⟩
    ·
      exact absurd g68 (by rw [hba]; simp)

end Go.Proofs.Ytoalhcodigpgkaa.Sx
