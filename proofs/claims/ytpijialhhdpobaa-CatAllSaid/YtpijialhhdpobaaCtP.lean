/- CatAll: it answers true. Printed by a program of ours off the loaded program and our notes; Lean checks it. -/
import Derived.Test.YtpijialhhdpobaaPlM
import Derived.Test.YtpijialhhdpobaaSxT
import Derived.Test.YtpijialhhdpobaaSxK
import Derived.Test.YtpijialhhdpobaaCtM
import Derived.Test.YtpijialhhdpobaaSxU
namespace Go.Proofs.Ytpijialhhdpobaa.Sx
open Go Go.Sx Go.Pl
variable [Outer]

set_option maxHeartbeats 8000000 in
set_option maxRecDepth 100000 in
theorem law_CatAll {vc : Value} {next : Int} {s0 : ByteArray} {xs : List Snap} {hs : List Chunk} (hr : Row encSnap 35 hs vc xs) (hl : xs.length ≤ 9223372036854775807) : Fun Try.prog 3 [.agg ⟨[.int .i64 next, vc]⟩, .string s0] hs (fun v' hs' => v' = .bool true ∧ hs = hs') := by
  refine Fun.enter 151 Try.func3 rfl Try.ntmps3 rfl ?_
  obtain ⟨a0, c0, hv⟩ := hr.len
  subst hv
  refine TT.seq (.region (.box rfl rfl rfl (fun b_2 => ?_)))
  refine OT.pures hT 1 rfl (.nil (.seq (.seq (.region (.call Try.call9 rfl rfl rfl rfl (law20_begun) ?_)))))
  rintro v_20 hs_20 ⟨rfl, rfl⟩
  refine OT.pures hT 1 rfl (.nil (.seq (.seq (.seq (.region (.pures hT 2 rfl (.nil (.seq (.cond rfl (fun c22 => ?_) (fun c22 => ?_))))))))))
  ·
    exact absurd c22 (by decide)
  ·
    refine TT.skip (.seq (.seq (.region (.load rfl rfl (Ld.struct_all hT rfl hz rfl) rfl ?_))))
    refine OT.call Try.call10 rfl rfl rfl rfl (law20_CutB hr.there hl) ?_
    rintro v_24 hs_24 ⟨w24, H24, rfl, rfl, ho24⟩
    generalize hys : (xs.take 6).map cutSnap = ys at ho24
    obtain ⟨a24, ca24, hv24⟩ := (ho24.row (hs := hs)).len
    subst hv24
    have hyl := cut_len hys
    refine OT.pures hT 1 rfl (.call Try.call11 rfl rfl rfl rfl (law1_Cut (n := 10)) ?_)
    rintro v_26 hs_26 ⟨rfl, rfl⟩
    generalize cutS s0 10 = nm
    refine OT.store_all hT rfl rfl rfl rfl pl rfl rfl rfl (.inl (Nat.le_refl _)) ?_
    refine OT.pures hT 1 rfl (.nil (.seq (.seq (.region (.load rfl rfl (Ld.struct_all hT rfl hz rfl) rfl ?_)))))
    refine OT.call Try.call12 rfl rfl rfl rfl (ref_MayCat (by first | exact ho24.row | exact ho24.row.there | exact ho24.row.there.there | exact ho24.row.there.there.there | exact ho24.row.there.there.there.there | exact ho24.row.there.there.there.there.there | exact ho24.row.there.there.there.there.there.there | exact ho24.row.there.there.there.there.there.there.there | exact ho24.row.there.there.there.there.there.there.there.there) (by omega)) ?_
    rintro v_28 hs_28 ⟨rfl, rfl⟩
    rw [← may_eq ho24.1]
    generalize hmay : mayB next ys = may
    refine OT.pures hT 1 rfl (.nil (.seq (.seq (.region (.load rfl rfl (Ld.struct_all hT rfl hz rfl) rfl ?_)))))
    refine OT.call Try.call14 rfl rfl rfl rfl (law20_Of) ?_
    rintro v_31 hs_31 ⟨rfl, rfl⟩
    refine OT.call Try.call13 rfl rfl rfl rfl (cat_Encode (by first | exact ho24.row | exact ho24.row.there | exact ho24.row.there.there | exact ho24.row.there.there.there | exact ho24.row.there.there.there.there | exact ho24.row.there.there.there.there.there | exact ho24.row.there.there.there.there.there.there | exact ho24.row.there.there.there.there.there.there.there | exact ho24.row.there.there.there.there.there.there.there.there) (by omega)) ?_
    rintro v_32 hs_32 ⟨w32, H32, rfl, rfl, ho32⟩
    refine OT.pures hT 5 rfl (.nil (.seq (.seq (.seq (.draw ([(b_2, blk [.int .i64 next, .slice a24 ys.length ca24] 24 (0, 0))] :: H32 :: H24 :: hs) mixed (.takes (fuel := 25) hT [3] kr kr rfl (.take (fuel := 24) hT 0 rfl rfl kr kr kr rfl (.load rfl (Ld.struct_all hT rfl hz rfl)) rfl ?_)))))))
    refine AT.op (fuel := 23) 1 kr rfl sl (.call Try.call14 rfl rfl rfl rfl (law20_Of) ?_)
    rintro v_36 hs_36 ⟨rfl, rfl⟩
    refine OT.nil (.any (.op (fuel := 22) 2 kr rfl sl (.call Try.call15 rfl rfl rfl rfl (cat_May (by first | exact ho24.row | exact ho24.row.there | exact ho24.row.there.there | exact ho24.row.there.there.there | exact ho24.row.there.there.there.there | exact ho24.row.there.there.there.there.there | exact ho24.row.there.there.there.there.there.there | exact ho24.row.there.there.there.there.there.there.there | exact ho24.row.there.there.there.there.there.there.there.there) (by omega)) ?_)))
    rintro v_37 hs_37 ⟨rfl, rfl⟩
    rw [hmay]
    refine OT.nil (.any (.takes (fuel := 20) hT [4, 5] kr kr rfl (.split 40 rfl (fun g40 => ?_) (fun g40 => ?_))))
    ·
      exact absurd g40 (by simp)
    ·
      refine AT.takes (fuel := 14) hT [6, 7, 8, 9, 10, 11] kr kr rfl (.split 46 rfl (fun g46 => ?_) (fun g46 => ?_))
      ·
        exfalso
        rw [enc_err hmay] at g46
        cases may <;> exact absurd g46 (by decide)
      ·
        refine AT.takes (fuel := 13) hT [12] kr kr rfl (.take (fuel := 12) hT 14 rfl rfl kr kr kr rfl (.load rfl (Ld.struct_all hT rfl hz rfl)) rfl ?_)
        refine AT.all (fuel := 11) [13, 15] kr (by decide) sl ?_
        intro i hi
        simp only [List.mem_cons, List.not_mem_nil, or_false] at hi
        rcases hi with rfl | rfl
        ·
          refine ⟨_, rfl, ?_⟩
          refine OT.conv_bs (fun _ => rfl) hT rfl rfl rfl rfl rfl (by first | exact ho32.row | exact ho32.row.there | exact ho32.row.there.there | exact ho32.row.there.there.there | exact ho32.row.there.there.there.there | exact ho32.row.there.there.there.there.there | exact ho32.row.there.there.there.there.there.there | exact ho32.row.there.there.there.there.there.there.there | exact ho32.row.there.there.there.there.there.there.there.there) rfl ?_
          refine OT.nil (.any (.op (fuel := 10) 15 kr rfl sl (.call Try.call16 rfl rfl rfl rfl (ref_CatBytes (by first | exact ho24.row | exact ho24.row.there | exact ho24.row.there.there | exact ho24.row.there.there.there | exact ho24.row.there.there.there.there | exact ho24.row.there.there.there.there.there | exact ho24.row.there.there.there.there.there.there | exact ho24.row.there.there.there.there.there.there.there | exact ho24.row.there.there.there.there.there.there.there.there) (by omega)) ?_)))
          rintro v_50 hs_50 ⟨H50, rfl, ho50⟩
          refine OT.nil (.any (.op (fuel := 9) 16 kr rfl sl (.conv_bs (fun _ => rfl) hT rfl rfl rfl rfl rfl (by first | exact ho50.row | exact ho50.row.there | exact ho50.row.there.there | exact ho50.row.there.there.there | exact ho50.row.there.there.there.there | exact ho50.row.there.there.there.there.there | exact ho50.row.there.there.there.there.there.there | exact ho50.row.there.there.there.there.there.there.there | exact ho50.row.there.there.there.there.there.there.there.there) rfl ?_)))
          rw [bytes_eq ho24.1]
          refine OT.nil (.any (.takes (fuel := 6) hT [17, 18, 19] kr kr rfl (.split 54 rfl (fun g54 => ?_) (fun g54 => ?_))))
          ·
            exact absurd g54 (by simp)
          ·
            refine AT.takes (fuel := 4) hT [20, 22] kr kr rfl (.op (fuel := 3) 21 kr rfl sl (.call Try.call17 rfl rfl rfl rfl (cat_Name) ?_))
            rintro v_56 hs_56 ⟨rfl, rfl⟩
            refine OT.nil (.any (.op (fuel := 2) 23 kr rfl sl (.call Try.call18 rfl rfl rfl rfl (ref_Name) ?_)))
            rintro v_58 hs_58 ⟨rfl, rfl⟩
            refine OT.nil (.any (.takes (fuel := 0) hT [24, 25] kr kr rfl (.done kr sl (.seq (.cond rfl (fun c60 => ?_) (fun c60 => ?_))))))
            ·
              exact absurd c60 (by simp)
            ·
              refine TT.skip (.seq (.seq (.seq (.region (.pures hT 2 rfl (.nil (.seq (.cond rfl (fun c62 => ?_) (fun c62 => ?_)))))))))
              ·
                have c62 : may = false := by simpa using c62
                refine TT.seq (.region (.pures hT 3 rfl (.nil (.seq (.ret (.of (rs := [.tmp 4]) [_] hs rfl (.tmp rfl .nil) sl ?_))))))
                dsimp only [one]
                rw [enc_err hmay, c62]
                exact ⟨rfl, rfl⟩
              ·
                have c62 : may = true := by simpa using c62
                subst c62
                have hm4 := (may_ok hmay).2.2.1
                refine TT.skip (.seq (.seq (.region (.pures hT 1 rfl (.call Try.call19 rfl rfl rfl rfl (cat_Decode (by first | exact ho32.row | exact ho32.row.there | exact ho32.row.there.there | exact ho32.row.there.there.there | exact ho32.row.there.there.there.there | exact ho32.row.there.there.there.there.there | exact ho32.row.there.there.there.there.there.there | exact ho32.row.there.there.there.there.there.there.there | exact ho32.row.there.there.there.there.there.there.there.there) (by rw [enc_page hmay, page_length (by have := catBytes_length hmay ho24.1; omega)]; decide)) ?_)))))
                rintro v_67 hs_67 ⟨w67, H67, rfl, rfl, ho67⟩
                rw [enc_page hmay, decode_encode ho24.1 hmay] at ho67 ⊢
                dsimp only at ho67 ⊢
                obtain ⟨a67, ca67, hv67⟩ := (ho67.row (hs := hs)).len
                subst hv67
                refine OT.pures hT 3 rfl (.alloc Try.zeroValue33 rfl rfl (fun b_9 => ?_))
                refine OT.store_all hT rfl rfl rfl rfl pl rfl rfl rfl (.inl (Nat.le_refl _)) ?_
                refine OT.pures hT 1 rfl (.nil (.seq (.seq (.region (.pures hT 1 rfl (.nil (.seq (.seq (.seq (.region (.pures hT 1 rfl (.nil (.seq (.block (.loop (ι := Nat) (fun j => (j) ≤ ys.length) (fun j => ys.length - (j)) (fun j => [(1, .string nm), (2, .pointer (some ⟨b_2, 0, none⟩)), (9, .pointer (some ⟨b_9, 0, none⟩)), (10, .int .i64 0), (11, .int .i64 (findAt (named nm) 0 (ys.take (j)))), (12, .int .i64 ((j) : Nat))]) (fun j => [(b_9, blk [.int .i64 next, .slice a67 ys.length ca67] 33 (0, 0))] :: [(b_2, blk [.int .i64 next, .slice a24 ys.length ca24] 24 (0, 0))] :: H67 :: H32 :: H24 :: hs) (0) ?_ (SubR.cons rfl (SubR.cons rfl (SubR.cons rfl (SubR.cons rfl (SubR.cons' rfl (by (try dsimp only); exact (rfl)) (SubR.cons rfl (SubR.nil _))))))) sl ?_)))))))))))))))
                · omega
                rintro k hk
                show TT _ _ _ [(1, .string nm), (2, .pointer (some ⟨b_2, 0, none⟩)), (9, .pointer (some ⟨b_9, 0, none⟩)), (10, .int .i64 0), (11, .int .i64 (findAt (named nm) 0 (ys.take k))), (12, .int .i64 (k : Nat))] ([(b_9, blk [.int .i64 next, .slice a67 ys.length ca67] 33 (0, 0))] :: [(b_2, blk [.int .i64 next, .slice a24 ys.length ca24] 24 (0, 0))] :: H67 :: H32 :: H24 :: hs)
                refine TT.seq (.seq (.region (.pures hT 2 rfl (.load rfl rfl (Ld.slc hT rfl hz rfl) rfl ?_))))
                refine OT.pures hT 2 rfl (.nil (.seq (.cond rfl (fun c74 => ?_) (fun c74 => ?_))))
                ·
                  have c74 := of_decide_eq_true c74
                  obtain ⟨s, hy⟩ := nth (l := ys) (i := k) (by omega)
                  have hst := find_step hmay hy nm
                  refine TT.skip (.seq (.seq (.block (.seq (.region (.pures hT 1 rfl (.load rfl rfl (Ld.slc hT rfl hz rfl) rfl ?_)))))))
                  refine OT.pures hT 1 rfl (.index hT rfl rfl rfl rfl (by first | exact ho24.row | exact ho24.row.there | exact ho24.row.there.there | exact ho24.row.there.there.there | exact ho24.row.there.there.there.there | exact ho24.row.there.there.there.there.there | exact ho24.row.there.there.there.there.there.there | exact ho24.row.there.there.there.there.there.there.there | exact ho24.row.there.there.there.there.there.there.there.there) (by omega) hy rfl (fun ad_80 hel_80 => ?_))
                  obtain ⟨eb_80, eo_80, rfl, hfld_80⟩ := hel_80.at (P := Try.prog)
                  refine OT.pures hT 1 rfl (.load rfl rfl (hfld_80 hT rfl rfl) rfl (.pures hT 2 rfl (.nil (.seq (.cond rfl (fun c84 => ?_) (fun c84 => ?_))))))
                  ·
                    have c84 := of_decide_eq_true c84
                    refine TT.region (.pures hT 2 rfl (.nil (.blk (.seq (.region (.pures hT 3 rfl (.nil (.loop (k + 1) ?_ ?_ (SubR.cons rfl (SubR.cons rfl (SubR.cons rfl (SubR.cons rfl (SubR.cons' rfl (by (try dsimp only); exact (int_eq (by rw [hst, if_pos c84]))) (SubR.cons' rfl (by (try dsimp only); exact (int_eq (by rw [wrap_i64 (by omega) (by omega)]; omega))) (SubR.nil _))))))) sl))))))))
                    · omega
                    · omega
                  ·
                    have c84 := of_decide_eq_false c84
                    refine TT.skip (.blk (.seq (.region (.pures hT 3 rfl (.nil (.loop (k + 1) ?_ ?_ (SubR.cons rfl (SubR.cons rfl (SubR.cons rfl (SubR.cons rfl (SubR.cons' rfl (by (try dsimp only); exact (int_eq (by rw [hst, if_neg c84]))) (SubR.cons' rfl (by (try dsimp only); exact (int_eq (by rw [wrap_i64 (by omega) (by omega)]; omega))) (SubR.nil _))))))) sl))))))
                    · omega
                    · omega
                ·
                  have c74 := of_decide_eq_false c74
                  obtain rfl : k = ys.length := by omega
                  refine TT.exit (.seq (.loop (.here (.seq (.seq (.region (.reg 11 rfl (v := .int .i64 (findAt (named nm) 0 ys)) (int_eq (by rw [List.take_length])) (.load rfl rfl (Ld.struct_all hT rfl hz rfl) rfl ?_))))))))
                  refine OT.call Try.call14 rfl rfl rfl rfl (law20_Of) ?_
                  rintro v_88 hs_88 ⟨rfl, rfl⟩
                  refine OT.call Try.call20 rfl rfl rfl rfl (cat_Take (by first | exact ho24.row | exact ho24.row.there | exact ho24.row.there.there | exact ho24.row.there.there.there | exact ho24.row.there.there.there.there | exact ho24.row.there.there.there.there.there | exact ho24.row.there.there.there.there.there.there | exact ho24.row.there.there.there.there.there.there.there | exact ho24.row.there.there.there.there.there.there.there.there) (by omega)) ?_
                  rintro v_89 hs_89 ⟨rfl, rfl⟩
                  refine OT.pures hT 5 rfl (.nil (.seq (.seq (.region (.load rfl rfl (Ld.struct_all hT rfl hz rfl) rfl ?_)))))
                  refine OT.call Try.call21 rfl rfl rfl rfl (ref_Take (by first | exact ho24.row | exact ho24.row.there | exact ho24.row.there.there | exact ho24.row.there.there.there | exact ho24.row.there.there.there.there | exact ho24.row.there.there.there.there.there | exact ho24.row.there.there.there.there.there.there | exact ho24.row.there.there.there.there.there.there.there | exact ho24.row.there.there.there.there.there.there.there.there) (by omega)) ?_
                  rintro v_94 hs_94 ⟨rfl, rfl⟩
                  rw [take_eq hmay]
                  refine OT.pures hT 5 rfl (.nil (.seq (.seq (.draw ([(b_9, blk [.int .i64 next, .slice a67 ys.length ca67] 33 (0, 0))] :: [(b_2, blk [.int .i64 next, .slice a24 ys.length ca24] 24 (0, 0))] :: H67 :: H32 :: H24 :: hs) mixed (.take (fuel := 6) hT 0 rfl rfl kr kr kr rfl (.load rfl (Ld.struct_all hT rfl hz rfl)) rfl ?_)))))
                  refine AT.take (fuel := 5) hT 3 rfl rfl kr kr kr rfl (.load rfl (Ld.struct_all hT rfl hz rfl)) rfl ?_
                  refine AT.op (fuel := 4) 1 kr rfl sl (.call Try.call14 rfl rfl rfl rfl (law20_Of) ?_)
                  rintro v_98 hs_98 ⟨rfl, rfl⟩
                  refine OT.nil (.any (.op (fuel := 3) 2 kr rfl sl (.call Try.call22 rfl rfl rfl rfl (cat_Copies (by first | exact ho24.row | exact ho24.row.there | exact ho24.row.there.there | exact ho24.row.there.there.there | exact ho24.row.there.there.there.there | exact ho24.row.there.there.there.there.there | exact ho24.row.there.there.there.there.there.there | exact ho24.row.there.there.there.there.there.there.there | exact ho24.row.there.there.there.there.there.there.there.there) (by omega)) ?_)))
                  rintro v_99 hs_99 ⟨H99, rfl, ho99⟩
                  obtain ⟨a99, ca99, hv99⟩ := (ho99.row (hs := hs)).len
                  subst hv99
                  refine OT.nil (.any (.op (fuel := 2) 4 kr rfl sl (.call Try.call23 rfl rfl rfl rfl (ref_Copies (by first | exact ho24.row | exact ho24.row.there | exact ho24.row.there.there | exact ho24.row.there.there.there | exact ho24.row.there.there.there.there | exact ho24.row.there.there.there.there.there | exact ho24.row.there.there.there.there.there.there | exact ho24.row.there.there.there.there.there.there.there | exact ho24.row.there.there.there.there.there.there.there.there) (by omega)) ?_)))
                  rintro v_101 hs_101 ⟨H101, rfl, ho101⟩
                  rw [← copies_eq (may_range hmay)] at ho101
                  obtain ⟨a101, ca101, hv101⟩ := (ho101.row (hs := hs)).len
                  subst hv101
                  refine OT.nil (.any (.takes (fuel := 0) hT [5, 6] kr kr rfl (.done kr sl (.seq (.seq (.seq (.draw ([(b_9, blk [.int .i64 next, .slice a67 ys.length ca67] 33 (0, 0))] :: [(b_2, blk [.int .i64 next, .slice a24 ys.length ca24] 24 (0, 0))] :: H101 :: H99 :: H67 :: H32 :: H24 :: hs) mixed (.takes (fuel := 31) hT [0, 1, 2] kr kr rfl (.split 104 rfl (fun g104 => ?_) (fun g104 => ?_))))))))))
                  ·
                    exact absurd g104 (by decide)
                  ·
                    refine AT.take (fuel := 30) hT 3 rfl rfl kr kr kr rfl (.load rfl (Ld.struct_all hT rfl hz rfl)) rfl ?_
                    refine AT.take (fuel := 29) hT 5 rfl rfl kr kr kr rfl (.load rfl (Ld.struct_all hT rfl hz rfl)) rfl ?_
                    refine AT.op (fuel := 28) 4 kr rfl sl (.call Try.call25 rfl rfl rfl rfl (law20_Back) ?_)
                    rintro v_106 hs_106 ⟨rfl, rfl⟩
                    refine OT.nil (.any (.op (fuel := 27) 6 kr rfl sl (.call Try.call24 rfl rfl rfl rfl (ref_EqCat (by first | exact ho67.row | exact ho67.row.there | exact ho67.row.there.there | exact ho67.row.there.there.there | exact ho67.row.there.there.there.there | exact ho67.row.there.there.there.there.there | exact ho67.row.there.there.there.there.there.there | exact ho67.row.there.there.there.there.there.there.there | exact ho67.row.there.there.there.there.there.there.there.there) (by first | exact ho24.row | exact ho24.row.there | exact ho24.row.there.there | exact ho24.row.there.there.there | exact ho24.row.there.there.there.there | exact ho24.row.there.there.there.there.there | exact ho24.row.there.there.there.there.there.there | exact ho24.row.there.there.there.there.there.there.there | exact ho24.row.there.there.there.there.there.there.there.there) (by omega)) ?_)))
                    rintro v_108 hs_108 ⟨rfl, rfl⟩
                    rw [eqCat_refl]
                    refine OT.nil (.any (.takes (fuel := 24) hT [7, 8, 9] kr kr rfl (.split 111 rfl (fun g111 => ?_) (fun g111 => ?_))))
                    ·
                      exact absurd g111 (by decide)
                    ·
                      refine AT.takes (fuel := 22) hT [12, 14] kr kr rfl (.take (fuel := 21) hT 10 rfl rfl kr kr kr rfl (.load rfl (Ld.struct_all hT rfl hz rfl)) rfl ?_)
                      refine AT.op (fuel := 20) 11 kr rfl sl (.call Try.call14 rfl rfl rfl rfl (law20_Of) ?_)
                      rintro v_113 hs_113 ⟨rfl, rfl⟩
                      refine OT.nil (.any (.op (fuel := 19) 13 kr rfl sl (.call Try.call26 rfl rfl rfl rfl (cat_Find (by first | exact ho24.row | exact ho24.row.there | exact ho24.row.there.there | exact ho24.row.there.there.there | exact ho24.row.there.there.there.there | exact ho24.row.there.there.there.there.there | exact ho24.row.there.there.there.there.there.there | exact ho24.row.there.there.there.there.there.there.there | exact ho24.row.there.there.there.there.there.there.there.there) (by omega)) ?_)))
                      rintro v_115 hs_115 ⟨rfl, rfl⟩
                      refine OT.nil (.any (.takes (fuel := 16) hT [15, 16, 17] kr kr rfl (.split 119 rfl (fun g119 => ?_) (fun g119 => ?_))))
                      ·
                        exact absurd g119 (by simp)
                      ·
                        refine AT.takes (fuel := 11) hT [18, 19, 20, 21, 22] kr kr rfl (.split 124 rfl (fun g124 => ?_) (fun g124 => ?_))
                        ·
                          exact absurd g124 (by simp)
                        ·
                          refine AT.takes (fuel := 6) hT [23, 24, 25, 26, 27] kr kr rfl (.split 129 rfl (fun g129 => ?_) (fun g129 => ?_))
                          ·
                            exact absurd g129 (by simp)
                          ·
                            refine AT.takes (fuel := 0) hT [28, 29, 30, 31, 32, 33] kr kr rfl (.done kr sl (.seq (.cond rfl (fun c135 => ?_) (fun c135 => ?_))))
                            ·
                              exact absurd c135 (by simp)
                            ·
                              refine TT.skip (.seq (.seq (.seq (.region (.pures hT 1 rfl (.nil (.seq (.block (.loop (ι := Nat) (fun j => (j) ≤ (copiesP ys).length) (fun j => (copiesP ys).length - (j)) (fun j => [(17, .slice a99 (copiesP ys).length ca99), (18, .slice a101 (copiesP ys).length ca101), (19, .int .i64 ((j) : Nat))]) (fun j => H101 :: H99 :: hs) (0) ?_ (SubR.cons rfl (SubR.cons rfl (SubR.cons rfl (SubR.nil _)))) sl ?_)))))))))
                              · omega
                              rintro k2 hk2
                              show TT _ _ _ [(17, .slice a99 (copiesP ys).length ca99), (18, .slice a101 (copiesP ys).length ca101), (19, .int .i64 (k2 : Nat))] (H101 :: H99 :: hs)
                              refine TT.seq (.seq (.region (.pures hT 4 rfl (.nil (.seq (.cond rfl (fun c139 => ?_) (fun c139 => ?_)))))))
                              ·
                                have c139 := of_decide_eq_true c139
                                obtain ⟨x, hx⟩ := nth (l := copiesP ys) (i := k2) (by omega)
                                have hcl : (copiesP ys).length ≤ 200 := by
                                  unfold copiesP
                                  rw [List.length_mergeSort]
                                  have := gather_length ho24.1
                                  omega
                                refine TT.skip (.seq (.seq (.block (.seq (.draw (H101 :: H99 :: hs) mixed (.takes (fuel := 5) hT [0, 1, 4, 5] kr kr rfl (.index (fuel := 4) hT 2 rfl kr kr kr rfl rfl rfl rfl (by first | exact ho99.row | exact ho99.row.there | exact ho99.row.there.there | exact ho99.row.there.there.there | exact ho99.row.there.there.there.there | exact ho99.row.there.there.there.there.there | exact ho99.row.there.there.there.there.there.there | exact ho99.row.there.there.there.there.there.there.there | exact ho99.row.there.there.there.there.there.there.there.there) (by omega) hx rfl (fun ad_144 hel_144 => ?_))))))))
                                refine AT.take (fuel := 3) hT 3 rfl rfl kr kr kr rfl (.load rfl (hel_144.ld_one hT rfl rfl)) rfl (.index (fuel := 2) hT 6 rfl kr kr kr rfl rfl rfl rfl (by first | exact ho101.row | exact ho101.row.there | exact ho101.row.there.there | exact ho101.row.there.there.there | exact ho101.row.there.there.there.there | exact ho101.row.there.there.there.there.there | exact ho101.row.there.there.there.there.there.there | exact ho101.row.there.there.there.there.there.there.there | exact ho101.row.there.there.there.there.there.there.there.there) (by omega) hx rfl (fun ad_148 hel_148 => ?_))
                                refine AT.take (fuel := 1) hT 7 rfl rfl kr kr kr rfl (.load rfl (hel_148.ld_one hT rfl rfl)) rfl (.takes (fuel := 0) hT [8] kr kr rfl (.done kr sl (.seq (.cond rfl (fun c150 => ?_) (fun c150 => ?_)))))
                                ·
                                  exact absurd c150 (by simp)
                                ·
                                  refine TT.skip (.blk (.seq (.region (.pures hT 3 rfl (.nil (.loop (k2 + 1) ?_ ?_ (SubR.cons rfl (SubR.cons rfl (SubR.cons' rfl (by (try dsimp only); exact (int_eq (by rw [wrap_i64 (by omega) (by omega)]; omega))) (SubR.nil _)))) sl))))))
                                  · omega
                                  · omega
                              ·
                                refine TT.exit (.seq (.loop (.here (.seq (.seq (.region (.pures hT 1 rfl (.nil (.seq (.ret (.of (rs := [.tmp 4]) [_] hs rfl (.tmp rfl .nil) sl ?_)))))))))))
                                dsimp only [one]
                                exact ⟨rfl, rfl⟩
        ·
          refine ⟨_, rfl, ?_⟩
          refine OT.call Try.call16 rfl rfl rfl rfl (ref_CatBytes (by first | exact ho24.row | exact ho24.row.there | exact ho24.row.there.there | exact ho24.row.there.there.there | exact ho24.row.there.there.there.there | exact ho24.row.there.there.there.there.there | exact ho24.row.there.there.there.there.there.there | exact ho24.row.there.there.there.there.there.there.there | exact ho24.row.there.there.there.there.there.there.there.there) (by omega)) ?_
          rintro v_50 hs_50 ⟨H50, rfl, ho50⟩
          refine OT.nil (.any (.all (fuel := 10) [13, 16] kr (by decide) sl ?_))
          intro i hi
          simp only [List.mem_cons, List.not_mem_nil, or_false] at hi
          rcases hi with rfl | rfl
          ·
            refine ⟨_, rfl, ?_⟩
            refine OT.conv_bs (fun _ => rfl) hT rfl rfl rfl rfl rfl (by first | exact ho32.row | exact ho32.row.there | exact ho32.row.there.there | exact ho32.row.there.there.there | exact ho32.row.there.there.there.there | exact ho32.row.there.there.there.there.there | exact ho32.row.there.there.there.there.there.there | exact ho32.row.there.there.there.there.there.there.there | exact ho32.row.there.there.there.there.there.there.there.there) rfl ?_
            refine OT.nil (.any (.op (fuel := 9) 16 kr rfl sl (.conv_bs (fun _ => rfl) hT rfl rfl rfl rfl rfl (by first | exact ho50.row | exact ho50.row.there | exact ho50.row.there.there | exact ho50.row.there.there.there | exact ho50.row.there.there.there.there | exact ho50.row.there.there.there.there.there | exact ho50.row.there.there.there.there.there.there | exact ho50.row.there.there.there.there.there.there.there | exact ho50.row.there.there.there.there.there.there.there.there) rfl ?_)))
            rw [bytes_eq ho24.1]
            refine OT.nil (.any (.takes (fuel := 6) hT [17, 18, 19] kr kr rfl (.split 54 rfl (fun g54 => ?_) (fun g54 => ?_))))
            ·
              exact absurd g54 (by simp)
            ·
              refine AT.takes (fuel := 4) hT [20, 22] kr kr rfl (.op (fuel := 3) 21 kr rfl sl (.call Try.call17 rfl rfl rfl rfl (cat_Name) ?_))
              rintro v_56 hs_56 ⟨rfl, rfl⟩
              refine OT.nil (.any (.op (fuel := 2) 23 kr rfl sl (.call Try.call18 rfl rfl rfl rfl (ref_Name) ?_)))
              rintro v_58 hs_58 ⟨rfl, rfl⟩
              refine OT.nil (.any (.takes (fuel := 0) hT [24, 25] kr kr rfl (.done kr sl (.seq (.cond rfl (fun c60 => ?_) (fun c60 => ?_))))))
              ·
                exact absurd c60 (by simp)
              ·
                refine TT.skip (.seq (.seq (.seq (.region (.pures hT 2 rfl (.nil (.seq (.cond rfl (fun c62 => ?_) (fun c62 => ?_)))))))))
                ·
                  have c62 : may = false := by simpa using c62
                  refine TT.seq (.region (.pures hT 3 rfl (.nil (.seq (.ret (.of (rs := [.tmp 4]) [_] hs rfl (.tmp rfl .nil) sl ?_))))))
                  dsimp only [one]
                  rw [enc_err hmay, c62]
                  exact ⟨rfl, rfl⟩
                ·
                  have c62 : may = true := by simpa using c62
                  subst c62
                  have hm4 := (may_ok hmay).2.2.1
                  refine TT.skip (.seq (.seq (.region (.pures hT 1 rfl (.call Try.call19 rfl rfl rfl rfl (cat_Decode (by first | exact ho32.row | exact ho32.row.there | exact ho32.row.there.there | exact ho32.row.there.there.there | exact ho32.row.there.there.there.there | exact ho32.row.there.there.there.there.there | exact ho32.row.there.there.there.there.there.there | exact ho32.row.there.there.there.there.there.there.there | exact ho32.row.there.there.there.there.there.there.there.there) (by rw [enc_page hmay, page_length (by have := catBytes_length hmay ho24.1; omega)]; decide)) ?_)))))
                  rintro v_67 hs_67 ⟨w67, H67, rfl, rfl, ho67⟩
                  rw [enc_page hmay, decode_encode ho24.1 hmay] at ho67 ⊢
                  dsimp only at ho67 ⊢
                  obtain ⟨a67, ca67, hv67⟩ := (ho67.row (hs := hs)).len
                  subst hv67
                  refine OT.pures hT 3 rfl (.alloc Try.zeroValue33 rfl rfl (fun b_9 => ?_))
                  refine OT.store_all hT rfl rfl rfl rfl pl rfl rfl rfl (.inl (Nat.le_refl _)) ?_
                  refine OT.pures hT 1 rfl (.nil (.seq (.seq (.region (.pures hT 1 rfl (.nil (.seq (.seq (.seq (.region (.pures hT 1 rfl (.nil (.seq (.block (.loop (ι := Nat) (fun j => (j) ≤ ys.length) (fun j => ys.length - (j)) (fun j => [(1, .string nm), (2, .pointer (some ⟨b_2, 0, none⟩)), (9, .pointer (some ⟨b_9, 0, none⟩)), (10, .int .i64 0), (11, .int .i64 (findAt (named nm) 0 (ys.take (j)))), (12, .int .i64 ((j) : Nat))]) (fun j => [(b_9, blk [.int .i64 next, .slice a67 ys.length ca67] 33 (0, 0))] :: [(b_2, blk [.int .i64 next, .slice a24 ys.length ca24] 24 (0, 0))] :: H67 :: H32 :: H24 :: hs) (0) ?_ (SubR.cons rfl (SubR.cons rfl (SubR.cons rfl (SubR.cons rfl (SubR.cons' rfl (by (try dsimp only); exact (rfl)) (SubR.cons rfl (SubR.nil _))))))) sl ?_)))))))))))))))
                  · omega
                  rintro k hk
                  show TT _ _ _ [(1, .string nm), (2, .pointer (some ⟨b_2, 0, none⟩)), (9, .pointer (some ⟨b_9, 0, none⟩)), (10, .int .i64 0), (11, .int .i64 (findAt (named nm) 0 (ys.take k))), (12, .int .i64 (k : Nat))] ([(b_9, blk [.int .i64 next, .slice a67 ys.length ca67] 33 (0, 0))] :: [(b_2, blk [.int .i64 next, .slice a24 ys.length ca24] 24 (0, 0))] :: H67 :: H32 :: H24 :: hs)
                  refine TT.seq (.seq (.region (.pures hT 2 rfl (.load rfl rfl (Ld.slc hT rfl hz rfl) rfl ?_))))
                  refine OT.pures hT 2 rfl (.nil (.seq (.cond rfl (fun c74 => ?_) (fun c74 => ?_))))
                  ·
                    have c74 := of_decide_eq_true c74
                    obtain ⟨s, hy⟩ := nth (l := ys) (i := k) (by omega)
                    have hst := find_step hmay hy nm
                    refine TT.skip (.seq (.seq (.block (.seq (.region (.pures hT 1 rfl (.load rfl rfl (Ld.slc hT rfl hz rfl) rfl ?_)))))))
                    refine OT.pures hT 1 rfl (.index hT rfl rfl rfl rfl (by first | exact ho24.row | exact ho24.row.there | exact ho24.row.there.there | exact ho24.row.there.there.there | exact ho24.row.there.there.there.there | exact ho24.row.there.there.there.there.there | exact ho24.row.there.there.there.there.there.there | exact ho24.row.there.there.there.there.there.there.there | exact ho24.row.there.there.there.there.there.there.there.there) (by omega) hy rfl (fun ad_80 hel_80 => ?_))
                    obtain ⟨eb_80, eo_80, rfl, hfld_80⟩ := hel_80.at (P := Try.prog)
                    refine OT.pures hT 1 rfl (.load rfl rfl (hfld_80 hT rfl rfl) rfl (.pures hT 2 rfl (.nil (.seq (.cond rfl (fun c84 => ?_) (fun c84 => ?_))))))
                    ·
                      have c84 := of_decide_eq_true c84
                      refine TT.region (.pures hT 2 rfl (.nil (.blk (.seq (.region (.pures hT 3 rfl (.nil (.loop (k + 1) ?_ ?_ (SubR.cons rfl (SubR.cons rfl (SubR.cons rfl (SubR.cons rfl (SubR.cons' rfl (by (try dsimp only); exact (int_eq (by rw [hst, if_pos c84]))) (SubR.cons' rfl (by (try dsimp only); exact (int_eq (by rw [wrap_i64 (by omega) (by omega)]; omega))) (SubR.nil _))))))) sl))))))))
                      · omega
                      · omega
                    ·
                      have c84 := of_decide_eq_false c84
                      refine TT.skip (.blk (.seq (.region (.pures hT 3 rfl (.nil (.loop (k + 1) ?_ ?_ (SubR.cons rfl (SubR.cons rfl (SubR.cons rfl (SubR.cons rfl (SubR.cons' rfl (by (try dsimp only); exact (int_eq (by rw [hst, if_neg c84]))) (SubR.cons' rfl (by (try dsimp only); exact (int_eq (by rw [wrap_i64 (by omega) (by omega)]; omega))) (SubR.nil _))))))) sl))))))
                      · omega
                      · omega
                  ·
                    have c74 := of_decide_eq_false c74
                    obtain rfl : k = ys.length := by omega
                    refine TT.exit (.seq (.loop (.here (.seq (.seq (.region (.reg 11 rfl (v := .int .i64 (findAt (named nm) 0 ys)) (int_eq (by rw [List.take_length])) (.load rfl rfl (Ld.struct_all hT rfl hz rfl) rfl ?_))))))))
                    refine OT.call Try.call14 rfl rfl rfl rfl (law20_Of) ?_
                    rintro v_88 hs_88 ⟨rfl, rfl⟩
                    refine OT.call Try.call20 rfl rfl rfl rfl (cat_Take (by first | exact ho24.row | exact ho24.row.there | exact ho24.row.there.there | exact ho24.row.there.there.there | exact ho24.row.there.there.there.there | exact ho24.row.there.there.there.there.there | exact ho24.row.there.there.there.there.there.there | exact ho24.row.there.there.there.there.there.there.there | exact ho24.row.there.there.there.there.there.there.there.there) (by omega)) ?_
                    rintro v_89 hs_89 ⟨rfl, rfl⟩
                    refine OT.pures hT 5 rfl (.nil (.seq (.seq (.region (.load rfl rfl (Ld.struct_all hT rfl hz rfl) rfl ?_)))))
                    refine OT.call Try.call21 rfl rfl rfl rfl (ref_Take (by first | exact ho24.row | exact ho24.row.there | exact ho24.row.there.there | exact ho24.row.there.there.there | exact ho24.row.there.there.there.there | exact ho24.row.there.there.there.there.there | exact ho24.row.there.there.there.there.there.there | exact ho24.row.there.there.there.there.there.there.there | exact ho24.row.there.there.there.there.there.there.there.there) (by omega)) ?_
                    rintro v_94 hs_94 ⟨rfl, rfl⟩
                    rw [take_eq hmay]
                    refine OT.pures hT 5 rfl (.nil (.seq (.seq (.draw ([(b_9, blk [.int .i64 next, .slice a67 ys.length ca67] 33 (0, 0))] :: [(b_2, blk [.int .i64 next, .slice a24 ys.length ca24] 24 (0, 0))] :: H67 :: H32 :: H24 :: hs) mixed (.take (fuel := 6) hT 0 rfl rfl kr kr kr rfl (.load rfl (Ld.struct_all hT rfl hz rfl)) rfl ?_)))))
                    refine AT.take (fuel := 5) hT 3 rfl rfl kr kr kr rfl (.load rfl (Ld.struct_all hT rfl hz rfl)) rfl ?_
                    refine AT.op (fuel := 4) 1 kr rfl sl (.call Try.call14 rfl rfl rfl rfl (law20_Of) ?_)
                    rintro v_98 hs_98 ⟨rfl, rfl⟩
                    refine OT.nil (.any (.op (fuel := 3) 2 kr rfl sl (.call Try.call22 rfl rfl rfl rfl (cat_Copies (by first | exact ho24.row | exact ho24.row.there | exact ho24.row.there.there | exact ho24.row.there.there.there | exact ho24.row.there.there.there.there | exact ho24.row.there.there.there.there.there | exact ho24.row.there.there.there.there.there.there | exact ho24.row.there.there.there.there.there.there.there | exact ho24.row.there.there.there.there.there.there.there.there) (by omega)) ?_)))
                    rintro v_99 hs_99 ⟨H99, rfl, ho99⟩
                    obtain ⟨a99, ca99, hv99⟩ := (ho99.row (hs := hs)).len
                    subst hv99
                    refine OT.nil (.any (.op (fuel := 2) 4 kr rfl sl (.call Try.call23 rfl rfl rfl rfl (ref_Copies (by first | exact ho24.row | exact ho24.row.there | exact ho24.row.there.there | exact ho24.row.there.there.there | exact ho24.row.there.there.there.there | exact ho24.row.there.there.there.there.there | exact ho24.row.there.there.there.there.there.there | exact ho24.row.there.there.there.there.there.there.there | exact ho24.row.there.there.there.there.there.there.there.there) (by omega)) ?_)))
                    rintro v_101 hs_101 ⟨H101, rfl, ho101⟩
                    rw [← copies_eq (may_range hmay)] at ho101
                    obtain ⟨a101, ca101, hv101⟩ := (ho101.row (hs := hs)).len
                    subst hv101
                    refine OT.nil (.any (.takes (fuel := 0) hT [5, 6] kr kr rfl (.done kr sl (.seq (.seq (.seq (.draw ([(b_9, blk [.int .i64 next, .slice a67 ys.length ca67] 33 (0, 0))] :: [(b_2, blk [.int .i64 next, .slice a24 ys.length ca24] 24 (0, 0))] :: H101 :: H99 :: H67 :: H32 :: H24 :: hs) mixed (.takes (fuel := 31) hT [0, 1, 2] kr kr rfl (.split 104 rfl (fun g104 => ?_) (fun g104 => ?_))))))))))
                    ·
                      exact absurd g104 (by decide)
                    ·
                      refine AT.take (fuel := 30) hT 3 rfl rfl kr kr kr rfl (.load rfl (Ld.struct_all hT rfl hz rfl)) rfl ?_
                      refine AT.take (fuel := 29) hT 5 rfl rfl kr kr kr rfl (.load rfl (Ld.struct_all hT rfl hz rfl)) rfl ?_
                      refine AT.op (fuel := 28) 4 kr rfl sl (.call Try.call25 rfl rfl rfl rfl (law20_Back) ?_)
                      rintro v_106 hs_106 ⟨rfl, rfl⟩
                      refine OT.nil (.any (.op (fuel := 27) 6 kr rfl sl (.call Try.call24 rfl rfl rfl rfl (ref_EqCat (by first | exact ho67.row | exact ho67.row.there | exact ho67.row.there.there | exact ho67.row.there.there.there | exact ho67.row.there.there.there.there | exact ho67.row.there.there.there.there.there | exact ho67.row.there.there.there.there.there.there | exact ho67.row.there.there.there.there.there.there.there | exact ho67.row.there.there.there.there.there.there.there.there) (by first | exact ho24.row | exact ho24.row.there | exact ho24.row.there.there | exact ho24.row.there.there.there | exact ho24.row.there.there.there.there | exact ho24.row.there.there.there.there.there | exact ho24.row.there.there.there.there.there.there | exact ho24.row.there.there.there.there.there.there.there | exact ho24.row.there.there.there.there.there.there.there.there) (by omega)) ?_)))
                      rintro v_108 hs_108 ⟨rfl, rfl⟩
                      rw [eqCat_refl]
                      refine OT.nil (.any (.takes (fuel := 24) hT [7, 8, 9] kr kr rfl (.split 111 rfl (fun g111 => ?_) (fun g111 => ?_))))
                      ·
                        exact absurd g111 (by decide)
                      ·
                        refine AT.takes (fuel := 22) hT [12, 14] kr kr rfl (.take (fuel := 21) hT 10 rfl rfl kr kr kr rfl (.load rfl (Ld.struct_all hT rfl hz rfl)) rfl ?_)
                        refine AT.op (fuel := 20) 11 kr rfl sl (.call Try.call14 rfl rfl rfl rfl (law20_Of) ?_)
                        rintro v_113 hs_113 ⟨rfl, rfl⟩
                        refine OT.nil (.any (.op (fuel := 19) 13 kr rfl sl (.call Try.call26 rfl rfl rfl rfl (cat_Find (by first | exact ho24.row | exact ho24.row.there | exact ho24.row.there.there | exact ho24.row.there.there.there | exact ho24.row.there.there.there.there | exact ho24.row.there.there.there.there.there | exact ho24.row.there.there.there.there.there.there | exact ho24.row.there.there.there.there.there.there.there | exact ho24.row.there.there.there.there.there.there.there.there) (by omega)) ?_)))
                        rintro v_115 hs_115 ⟨rfl, rfl⟩
                        refine OT.nil (.any (.takes (fuel := 16) hT [15, 16, 17] kr kr rfl (.split 119 rfl (fun g119 => ?_) (fun g119 => ?_))))
                        ·
                          exact absurd g119 (by simp)
                        ·
                          refine AT.takes (fuel := 11) hT [18, 19, 20, 21, 22] kr kr rfl (.split 124 rfl (fun g124 => ?_) (fun g124 => ?_))
                          ·
                            exact absurd g124 (by simp)
                          ·
                            refine AT.takes (fuel := 6) hT [23, 24, 25, 26, 27] kr kr rfl (.split 129 rfl (fun g129 => ?_) (fun g129 => ?_))
                            ·
                              exact absurd g129 (by simp)
                            ·
                              refine AT.takes (fuel := 0) hT [28, 29, 30, 31, 32, 33] kr kr rfl (.done kr sl (.seq (.cond rfl (fun c135 => ?_) (fun c135 => ?_))))
                              ·
                                exact absurd c135 (by simp)
                              ·
                                refine TT.skip (.seq (.seq (.seq (.region (.pures hT 1 rfl (.nil (.seq (.block (.loop (ι := Nat) (fun j => (j) ≤ (copiesP ys).length) (fun j => (copiesP ys).length - (j)) (fun j => [(17, .slice a99 (copiesP ys).length ca99), (18, .slice a101 (copiesP ys).length ca101), (19, .int .i64 ((j) : Nat))]) (fun j => H101 :: H99 :: hs) (0) ?_ (SubR.cons rfl (SubR.cons rfl (SubR.cons rfl (SubR.nil _)))) sl ?_)))))))))
                                · omega
                                rintro k2 hk2
                                show TT _ _ _ [(17, .slice a99 (copiesP ys).length ca99), (18, .slice a101 (copiesP ys).length ca101), (19, .int .i64 (k2 : Nat))] (H101 :: H99 :: hs)
                                refine TT.seq (.seq (.region (.pures hT 4 rfl (.nil (.seq (.cond rfl (fun c139 => ?_) (fun c139 => ?_)))))))
                                ·
                                  have c139 := of_decide_eq_true c139
                                  obtain ⟨x, hx⟩ := nth (l := copiesP ys) (i := k2) (by omega)
                                  have hcl : (copiesP ys).length ≤ 200 := by
                                    unfold copiesP
                                    rw [List.length_mergeSort]
                                    have := gather_length ho24.1
                                    omega
                                  refine TT.skip (.seq (.seq (.block (.seq (.draw (H101 :: H99 :: hs) mixed (.takes (fuel := 5) hT [0, 1, 4, 5] kr kr rfl (.index (fuel := 4) hT 2 rfl kr kr kr rfl rfl rfl rfl (by first | exact ho99.row | exact ho99.row.there | exact ho99.row.there.there | exact ho99.row.there.there.there | exact ho99.row.there.there.there.there | exact ho99.row.there.there.there.there.there | exact ho99.row.there.there.there.there.there.there | exact ho99.row.there.there.there.there.there.there.there | exact ho99.row.there.there.there.there.there.there.there.there) (by omega) hx rfl (fun ad_144 hel_144 => ?_))))))))
                                  refine AT.take (fuel := 3) hT 3 rfl rfl kr kr kr rfl (.load rfl (hel_144.ld_one hT rfl rfl)) rfl (.index (fuel := 2) hT 6 rfl kr kr kr rfl rfl rfl rfl (by first | exact ho101.row | exact ho101.row.there | exact ho101.row.there.there | exact ho101.row.there.there.there | exact ho101.row.there.there.there.there | exact ho101.row.there.there.there.there.there | exact ho101.row.there.there.there.there.there.there | exact ho101.row.there.there.there.there.there.there.there | exact ho101.row.there.there.there.there.there.there.there.there) (by omega) hx rfl (fun ad_148 hel_148 => ?_))
                                  refine AT.take (fuel := 1) hT 7 rfl rfl kr kr kr rfl (.load rfl (hel_148.ld_one hT rfl rfl)) rfl (.takes (fuel := 0) hT [8] kr kr rfl (.done kr sl (.seq (.cond rfl (fun c150 => ?_) (fun c150 => ?_)))))
                                  ·
                                    exact absurd c150 (by simp)
                                  ·
                                    refine TT.skip (.blk (.seq (.region (.pures hT 3 rfl (.nil (.loop (k2 + 1) ?_ ?_ (SubR.cons rfl (SubR.cons rfl (SubR.cons' rfl (by (try dsimp only); exact (int_eq (by rw [wrap_i64 (by omega) (by omega)]; omega))) (SubR.nil _)))) sl))))))
                                    · omega
                                    · omega
                                ·
                                  refine TT.exit (.seq (.loop (.here (.seq (.seq (.region (.pures hT 1 rfl (.nil (.seq (.ret (.of (rs := [.tmp 4]) [_] hs rfl (.tmp rfl .nil) sl ?_)))))))))))
                                  dsimp only [one]
                                  exact ⟨rfl, rfl⟩
          ·
            refine ⟨_, rfl, ?_⟩
            refine OT.conv_bs (fun _ => rfl) hT rfl rfl rfl rfl rfl (by first | exact ho50.row | exact ho50.row.there | exact ho50.row.there.there | exact ho50.row.there.there.there | exact ho50.row.there.there.there.there | exact ho50.row.there.there.there.there.there | exact ho50.row.there.there.there.there.there.there | exact ho50.row.there.there.there.there.there.there.there | exact ho50.row.there.there.there.there.there.there.there.there) rfl ?_
            rw [bytes_eq ho24.1]
            refine OT.nil (.any (.op (fuel := 9) 13 kr rfl sl (.conv_bs (fun _ => rfl) hT rfl rfl rfl rfl rfl (by first | exact ho32.row | exact ho32.row.there | exact ho32.row.there.there | exact ho32.row.there.there.there | exact ho32.row.there.there.there.there | exact ho32.row.there.there.there.there.there | exact ho32.row.there.there.there.there.there.there | exact ho32.row.there.there.there.there.there.there.there | exact ho32.row.there.there.there.there.there.there.there.there) rfl ?_)))
            refine OT.nil (.any (.takes (fuel := 6) hT [17, 18, 19] kr kr rfl (.split 54 rfl (fun g54 => ?_) (fun g54 => ?_))))
            ·
              exact absurd g54 (by simp)
            ·
              refine AT.takes (fuel := 4) hT [20, 22] kr kr rfl (.op (fuel := 3) 21 kr rfl sl (.call Try.call17 rfl rfl rfl rfl (cat_Name) ?_))
              rintro v_56 hs_56 ⟨rfl, rfl⟩
              refine OT.nil (.any (.op (fuel := 2) 23 kr rfl sl (.call Try.call18 rfl rfl rfl rfl (ref_Name) ?_)))
              rintro v_58 hs_58 ⟨rfl, rfl⟩
              refine OT.nil (.any (.takes (fuel := 0) hT [24, 25] kr kr rfl (.done kr sl (.seq (.cond rfl (fun c60 => ?_) (fun c60 => ?_))))))
              ·
                exact absurd c60 (by simp)
              ·
                refine TT.skip (.seq (.seq (.seq (.region (.pures hT 2 rfl (.nil (.seq (.cond rfl (fun c62 => ?_) (fun c62 => ?_)))))))))
                ·
                  have c62 : may = false := by simpa using c62
                  refine TT.seq (.region (.pures hT 3 rfl (.nil (.seq (.ret (.of (rs := [.tmp 4]) [_] hs rfl (.tmp rfl .nil) sl ?_))))))
                  dsimp only [one]
                  rw [enc_err hmay, c62]
                  exact ⟨rfl, rfl⟩
                ·
                  have c62 : may = true := by simpa using c62
                  subst c62
                  have hm4 := (may_ok hmay).2.2.1
                  refine TT.skip (.seq (.seq (.region (.pures hT 1 rfl (.call Try.call19 rfl rfl rfl rfl (cat_Decode (by first | exact ho32.row | exact ho32.row.there | exact ho32.row.there.there | exact ho32.row.there.there.there | exact ho32.row.there.there.there.there | exact ho32.row.there.there.there.there.there | exact ho32.row.there.there.there.there.there.there | exact ho32.row.there.there.there.there.there.there.there | exact ho32.row.there.there.there.there.there.there.there.there) (by rw [enc_page hmay, page_length (by have := catBytes_length hmay ho24.1; omega)]; decide)) ?_)))))
                  rintro v_67 hs_67 ⟨w67, H67, rfl, rfl, ho67⟩
                  rw [enc_page hmay, decode_encode ho24.1 hmay] at ho67 ⊢
                  dsimp only at ho67 ⊢
                  obtain ⟨a67, ca67, hv67⟩ := (ho67.row (hs := hs)).len
                  subst hv67
                  refine OT.pures hT 3 rfl (.alloc Try.zeroValue33 rfl rfl (fun b_9 => ?_))
                  refine OT.store_all hT rfl rfl rfl rfl pl rfl rfl rfl (.inl (Nat.le_refl _)) ?_
                  refine OT.pures hT 1 rfl (.nil (.seq (.seq (.region (.pures hT 1 rfl (.nil (.seq (.seq (.seq (.region (.pures hT 1 rfl (.nil (.seq (.block (.loop (ι := Nat) (fun j => (j) ≤ ys.length) (fun j => ys.length - (j)) (fun j => [(1, .string nm), (2, .pointer (some ⟨b_2, 0, none⟩)), (9, .pointer (some ⟨b_9, 0, none⟩)), (10, .int .i64 0), (11, .int .i64 (findAt (named nm) 0 (ys.take (j)))), (12, .int .i64 ((j) : Nat))]) (fun j => [(b_9, blk [.int .i64 next, .slice a67 ys.length ca67] 33 (0, 0))] :: [(b_2, blk [.int .i64 next, .slice a24 ys.length ca24] 24 (0, 0))] :: H67 :: H32 :: H24 :: hs) (0) ?_ (SubR.cons rfl (SubR.cons rfl (SubR.cons rfl (SubR.cons rfl (SubR.cons' rfl (by (try dsimp only); exact (rfl)) (SubR.cons rfl (SubR.nil _))))))) sl ?_)))))))))))))))
                  · omega
                  rintro k hk
                  show TT _ _ _ [(1, .string nm), (2, .pointer (some ⟨b_2, 0, none⟩)), (9, .pointer (some ⟨b_9, 0, none⟩)), (10, .int .i64 0), (11, .int .i64 (findAt (named nm) 0 (ys.take k))), (12, .int .i64 (k : Nat))] ([(b_9, blk [.int .i64 next, .slice a67 ys.length ca67] 33 (0, 0))] :: [(b_2, blk [.int .i64 next, .slice a24 ys.length ca24] 24 (0, 0))] :: H67 :: H32 :: H24 :: hs)
                  refine TT.seq (.seq (.region (.pures hT 2 rfl (.load rfl rfl (Ld.slc hT rfl hz rfl) rfl ?_))))
                  refine OT.pures hT 2 rfl (.nil (.seq (.cond rfl (fun c74 => ?_) (fun c74 => ?_))))
                  ·
                    have c74 := of_decide_eq_true c74
                    obtain ⟨s, hy⟩ := nth (l := ys) (i := k) (by omega)
                    have hst := find_step hmay hy nm
                    refine TT.skip (.seq (.seq (.block (.seq (.region (.pures hT 1 rfl (.load rfl rfl (Ld.slc hT rfl hz rfl) rfl ?_)))))))
                    refine OT.pures hT 1 rfl (.index hT rfl rfl rfl rfl (by first | exact ho24.row | exact ho24.row.there | exact ho24.row.there.there | exact ho24.row.there.there.there | exact ho24.row.there.there.there.there | exact ho24.row.there.there.there.there.there | exact ho24.row.there.there.there.there.there.there | exact ho24.row.there.there.there.there.there.there.there | exact ho24.row.there.there.there.there.there.there.there.there) (by omega) hy rfl (fun ad_80 hel_80 => ?_))
                    obtain ⟨eb_80, eo_80, rfl, hfld_80⟩ := hel_80.at (P := Try.prog)
                    refine OT.pures hT 1 rfl (.load rfl rfl (hfld_80 hT rfl rfl) rfl (.pures hT 2 rfl (.nil (.seq (.cond rfl (fun c84 => ?_) (fun c84 => ?_))))))
                    ·
                      have c84 := of_decide_eq_true c84
                      refine TT.region (.pures hT 2 rfl (.nil (.blk (.seq (.region (.pures hT 3 rfl (.nil (.loop (k + 1) ?_ ?_ (SubR.cons rfl (SubR.cons rfl (SubR.cons rfl (SubR.cons rfl (SubR.cons' rfl (by (try dsimp only); exact (int_eq (by rw [hst, if_pos c84]))) (SubR.cons' rfl (by (try dsimp only); exact (int_eq (by rw [wrap_i64 (by omega) (by omega)]; omega))) (SubR.nil _))))))) sl))))))))
                      · omega
                      · omega
                    ·
                      have c84 := of_decide_eq_false c84
                      refine TT.skip (.blk (.seq (.region (.pures hT 3 rfl (.nil (.loop (k + 1) ?_ ?_ (SubR.cons rfl (SubR.cons rfl (SubR.cons rfl (SubR.cons rfl (SubR.cons' rfl (by (try dsimp only); exact (int_eq (by rw [hst, if_neg c84]))) (SubR.cons' rfl (by (try dsimp only); exact (int_eq (by rw [wrap_i64 (by omega) (by omega)]; omega))) (SubR.nil _))))))) sl))))))
                      · omega
                      · omega
                  ·
                    have c74 := of_decide_eq_false c74
                    obtain rfl : k = ys.length := by omega
                    refine TT.exit (.seq (.loop (.here (.seq (.seq (.region (.reg 11 rfl (v := .int .i64 (findAt (named nm) 0 ys)) (int_eq (by rw [List.take_length])) (.load rfl rfl (Ld.struct_all hT rfl hz rfl) rfl ?_))))))))
                    refine OT.call Try.call14 rfl rfl rfl rfl (law20_Of) ?_
                    rintro v_88 hs_88 ⟨rfl, rfl⟩
                    refine OT.call Try.call20 rfl rfl rfl rfl (cat_Take (by first | exact ho24.row | exact ho24.row.there | exact ho24.row.there.there | exact ho24.row.there.there.there | exact ho24.row.there.there.there.there | exact ho24.row.there.there.there.there.there | exact ho24.row.there.there.there.there.there.there | exact ho24.row.there.there.there.there.there.there.there | exact ho24.row.there.there.there.there.there.there.there.there) (by omega)) ?_
                    rintro v_89 hs_89 ⟨rfl, rfl⟩
                    refine OT.pures hT 5 rfl (.nil (.seq (.seq (.region (.load rfl rfl (Ld.struct_all hT rfl hz rfl) rfl ?_)))))
                    refine OT.call Try.call21 rfl rfl rfl rfl (ref_Take (by first | exact ho24.row | exact ho24.row.there | exact ho24.row.there.there | exact ho24.row.there.there.there | exact ho24.row.there.there.there.there | exact ho24.row.there.there.there.there.there | exact ho24.row.there.there.there.there.there.there | exact ho24.row.there.there.there.there.there.there.there | exact ho24.row.there.there.there.there.there.there.there.there) (by omega)) ?_
                    rintro v_94 hs_94 ⟨rfl, rfl⟩
                    rw [take_eq hmay]
                    refine OT.pures hT 5 rfl (.nil (.seq (.seq (.draw ([(b_9, blk [.int .i64 next, .slice a67 ys.length ca67] 33 (0, 0))] :: [(b_2, blk [.int .i64 next, .slice a24 ys.length ca24] 24 (0, 0))] :: H67 :: H32 :: H24 :: hs) mixed (.take (fuel := 6) hT 0 rfl rfl kr kr kr rfl (.load rfl (Ld.struct_all hT rfl hz rfl)) rfl ?_)))))
                    refine AT.take (fuel := 5) hT 3 rfl rfl kr kr kr rfl (.load rfl (Ld.struct_all hT rfl hz rfl)) rfl ?_
                    refine AT.op (fuel := 4) 1 kr rfl sl (.call Try.call14 rfl rfl rfl rfl (law20_Of) ?_)
                    rintro v_98 hs_98 ⟨rfl, rfl⟩
                    refine OT.nil (.any (.op (fuel := 3) 2 kr rfl sl (.call Try.call22 rfl rfl rfl rfl (cat_Copies (by first | exact ho24.row | exact ho24.row.there | exact ho24.row.there.there | exact ho24.row.there.there.there | exact ho24.row.there.there.there.there | exact ho24.row.there.there.there.there.there | exact ho24.row.there.there.there.there.there.there | exact ho24.row.there.there.there.there.there.there.there | exact ho24.row.there.there.there.there.there.there.there.there) (by omega)) ?_)))
                    rintro v_99 hs_99 ⟨H99, rfl, ho99⟩
                    obtain ⟨a99, ca99, hv99⟩ := (ho99.row (hs := hs)).len
                    subst hv99
                    refine OT.nil (.any (.op (fuel := 2) 4 kr rfl sl (.call Try.call23 rfl rfl rfl rfl (ref_Copies (by first | exact ho24.row | exact ho24.row.there | exact ho24.row.there.there | exact ho24.row.there.there.there | exact ho24.row.there.there.there.there | exact ho24.row.there.there.there.there.there | exact ho24.row.there.there.there.there.there.there | exact ho24.row.there.there.there.there.there.there.there | exact ho24.row.there.there.there.there.there.there.there.there) (by omega)) ?_)))
                    rintro v_101 hs_101 ⟨H101, rfl, ho101⟩
                    rw [← copies_eq (may_range hmay)] at ho101
                    obtain ⟨a101, ca101, hv101⟩ := (ho101.row (hs := hs)).len
                    subst hv101
                    refine OT.nil (.any (.takes (fuel := 0) hT [5, 6] kr kr rfl (.done kr sl (.seq (.seq (.seq (.draw ([(b_9, blk [.int .i64 next, .slice a67 ys.length ca67] 33 (0, 0))] :: [(b_2, blk [.int .i64 next, .slice a24 ys.length ca24] 24 (0, 0))] :: H101 :: H99 :: H67 :: H32 :: H24 :: hs) mixed (.takes (fuel := 31) hT [0, 1, 2] kr kr rfl (.split 104 rfl (fun g104 => ?_) (fun g104 => ?_))))))))))
                    ·
                      exact absurd g104 (by decide)
                    ·
                      refine AT.take (fuel := 30) hT 3 rfl rfl kr kr kr rfl (.load rfl (Ld.struct_all hT rfl hz rfl)) rfl ?_
                      refine AT.take (fuel := 29) hT 5 rfl rfl kr kr kr rfl (.load rfl (Ld.struct_all hT rfl hz rfl)) rfl ?_
                      refine AT.op (fuel := 28) 4 kr rfl sl (.call Try.call25 rfl rfl rfl rfl (law20_Back) ?_)
                      rintro v_106 hs_106 ⟨rfl, rfl⟩
                      refine OT.nil (.any (.op (fuel := 27) 6 kr rfl sl (.call Try.call24 rfl rfl rfl rfl (ref_EqCat (by first | exact ho67.row | exact ho67.row.there | exact ho67.row.there.there | exact ho67.row.there.there.there | exact ho67.row.there.there.there.there | exact ho67.row.there.there.there.there.there | exact ho67.row.there.there.there.there.there.there | exact ho67.row.there.there.there.there.there.there.there | exact ho67.row.there.there.there.there.there.there.there.there) (by first | exact ho24.row | exact ho24.row.there | exact ho24.row.there.there | exact ho24.row.there.there.there | exact ho24.row.there.there.there.there | exact ho24.row.there.there.there.there.there | exact ho24.row.there.there.there.there.there.there | exact ho24.row.there.there.there.there.there.there.there | exact ho24.row.there.there.there.there.there.there.there.there) (by omega)) ?_)))
                      rintro v_108 hs_108 ⟨rfl, rfl⟩
                      rw [eqCat_refl]
                      refine OT.nil (.any (.takes (fuel := 24) hT [7, 8, 9] kr kr rfl (.split 111 rfl (fun g111 => ?_) (fun g111 => ?_))))
                      ·
                        exact absurd g111 (by decide)
                      ·
                        refine AT.takes (fuel := 22) hT [12, 14] kr kr rfl (.take (fuel := 21) hT 10 rfl rfl kr kr kr rfl (.load rfl (Ld.struct_all hT rfl hz rfl)) rfl ?_)
                        refine AT.op (fuel := 20) 11 kr rfl sl (.call Try.call14 rfl rfl rfl rfl (law20_Of) ?_)
                        rintro v_113 hs_113 ⟨rfl, rfl⟩
                        refine OT.nil (.any (.op (fuel := 19) 13 kr rfl sl (.call Try.call26 rfl rfl rfl rfl (cat_Find (by first | exact ho24.row | exact ho24.row.there | exact ho24.row.there.there | exact ho24.row.there.there.there | exact ho24.row.there.there.there.there | exact ho24.row.there.there.there.there.there | exact ho24.row.there.there.there.there.there.there | exact ho24.row.there.there.there.there.there.there.there | exact ho24.row.there.there.there.there.there.there.there.there) (by omega)) ?_)))
                        rintro v_115 hs_115 ⟨rfl, rfl⟩
                        refine OT.nil (.any (.takes (fuel := 16) hT [15, 16, 17] kr kr rfl (.split 119 rfl (fun g119 => ?_) (fun g119 => ?_))))
                        ·
                          exact absurd g119 (by simp)
                        ·
                          refine AT.takes (fuel := 11) hT [18, 19, 20, 21, 22] kr kr rfl (.split 124 rfl (fun g124 => ?_) (fun g124 => ?_))
                          ·
                            exact absurd g124 (by simp)
                          ·
                            refine AT.takes (fuel := 6) hT [23, 24, 25, 26, 27] kr kr rfl (.split 129 rfl (fun g129 => ?_) (fun g129 => ?_))
                            ·
                              exact absurd g129 (by simp)
                            ·
                              refine AT.takes (fuel := 0) hT [28, 29, 30, 31, 32, 33] kr kr rfl (.done kr sl (.seq (.cond rfl (fun c135 => ?_) (fun c135 => ?_))))
                              ·
                                exact absurd c135 (by simp)
                              ·
                                refine TT.skip (.seq (.seq (.seq (.region (.pures hT 1 rfl (.nil (.seq (.block (.loop (ι := Nat) (fun j => (j) ≤ (copiesP ys).length) (fun j => (copiesP ys).length - (j)) (fun j => [(17, .slice a99 (copiesP ys).length ca99), (18, .slice a101 (copiesP ys).length ca101), (19, .int .i64 ((j) : Nat))]) (fun j => H101 :: H99 :: hs) (0) ?_ (SubR.cons rfl (SubR.cons rfl (SubR.cons rfl (SubR.nil _)))) sl ?_)))))))))
                                · omega
                                rintro k2 hk2
                                show TT _ _ _ [(17, .slice a99 (copiesP ys).length ca99), (18, .slice a101 (copiesP ys).length ca101), (19, .int .i64 (k2 : Nat))] (H101 :: H99 :: hs)
                                refine TT.seq (.seq (.region (.pures hT 4 rfl (.nil (.seq (.cond rfl (fun c139 => ?_) (fun c139 => ?_)))))))
                                ·
                                  have c139 := of_decide_eq_true c139
                                  obtain ⟨x, hx⟩ := nth (l := copiesP ys) (i := k2) (by omega)
                                  have hcl : (copiesP ys).length ≤ 200 := by
                                    unfold copiesP
                                    rw [List.length_mergeSort]
                                    have := gather_length ho24.1
                                    omega
                                  refine TT.skip (.seq (.seq (.block (.seq (.draw (H101 :: H99 :: hs) mixed (.takes (fuel := 5) hT [0, 1, 4, 5] kr kr rfl (.index (fuel := 4) hT 2 rfl kr kr kr rfl rfl rfl rfl (by first | exact ho99.row | exact ho99.row.there | exact ho99.row.there.there | exact ho99.row.there.there.there | exact ho99.row.there.there.there.there | exact ho99.row.there.there.there.there.there | exact ho99.row.there.there.there.there.there.there | exact ho99.row.there.there.there.there.there.there.there | exact ho99.row.there.there.there.there.there.there.there.there) (by omega) hx rfl (fun ad_144 hel_144 => ?_))))))))
                                  refine AT.take (fuel := 3) hT 3 rfl rfl kr kr kr rfl (.load rfl (hel_144.ld_one hT rfl rfl)) rfl (.index (fuel := 2) hT 6 rfl kr kr kr rfl rfl rfl rfl (by first | exact ho101.row | exact ho101.row.there | exact ho101.row.there.there | exact ho101.row.there.there.there | exact ho101.row.there.there.there.there | exact ho101.row.there.there.there.there.there | exact ho101.row.there.there.there.there.there.there | exact ho101.row.there.there.there.there.there.there.there | exact ho101.row.there.there.there.there.there.there.there.there) (by omega) hx rfl (fun ad_148 hel_148 => ?_))
                                  refine AT.take (fuel := 1) hT 7 rfl rfl kr kr kr rfl (.load rfl (hel_148.ld_one hT rfl rfl)) rfl (.takes (fuel := 0) hT [8] kr kr rfl (.done kr sl (.seq (.cond rfl (fun c150 => ?_) (fun c150 => ?_)))))
                                  ·
                                    exact absurd c150 (by simp)
                                  ·
                                    refine TT.skip (.blk (.seq (.region (.pures hT 3 rfl (.nil (.loop (k2 + 1) ?_ ?_ (SubR.cons rfl (SubR.cons rfl (SubR.cons' rfl (by (try dsimp only); exact (int_eq (by rw [wrap_i64 (by omega) (by omega)]; omega))) (SubR.nil _)))) sl))))))
                                    · omega
                                    · omega
                                ·
                                  refine TT.exit (.seq (.loop (.here (.seq (.seq (.region (.pures hT 1 rfl (.nil (.seq (.ret (.of (rs := [.tmp 4]) [_] hs rfl (.tmp rfl .nil) sl ?_)))))))))))
                                  dsimp only [one]
                                  exact ⟨rfl, rfl⟩

end Go.Proofs.Ytpijialhhdpobaa.Sx
