/- CatTwins: it answers true. Printed by a program of ours off the loaded program and our notes; Lean checks it. -/
import Derived.Test.YtpijialhhdpobaaPlL
import Derived.Test.YtpijialhhdpobaaSxT
import Derived.Test.YtpijialhhdpobaaSxK
import Derived.Test.YtpijialhhdpobaaCtM
namespace Go.Proofs.Ytpijialhhdpobaa.Sx
open Go Go.Sx Go.Pl
variable [Outer]

set_option maxHeartbeats 8000000 in
set_option maxRecDepth 100000 in
theorem law_CatTwins {vc : Value} {next which i w : Int} {xs : List Snap} {hs : List Chunk} (hr : Row encSnap 35 hs vc xs) (hl : xs.length ≤ 9223372036854775807) : Fun Try.prog 7 [.agg ⟨[.int .i64 next, vc]⟩, .int .i64 which, .int .i64 i, .int .i64 w] hs (fun v' hs' => v' = .bool true ∧ hs = hs') := by
  refine Fun.enter 114 Try.func7 rfl Try.ntmps7 rfl ?_
  obtain ⟨a0, c0, hv⟩ := hr.len
  subst hv
  refine TT.seq ?_
  refine TT.region ?_
  refine OT.box rfl rfl rfl (fun b_4 => ?_)
  refine OT.pures hT 1 rfl ?_
  refine OT.nil ?_
  refine KT.seq ?_
  refine TT.seq ?_
  refine TT.region ?_
  refine OT.call Try.call9 rfl rfl rfl rfl (law20_begun) ?_
  rintro v_16 hs_16 ⟨rfl, rfl⟩
  refine OT.pures hT 1 rfl ?_
  refine OT.nil ?_
  refine KT.seq ?_
  refine TT.seq ?_
  refine TT.seq ?_
  refine TT.region ?_
  refine OT.pures hT 2 rfl ?_
  refine OT.nil ?_
  refine KT.seq ?_
  refine TT.cond rfl (fun c18 => ?_) (fun c18 => ?_)
  ·
    exact absurd c18 (by decide)
  ·
    refine TT.skip ?_
    refine KT.seq ?_
    refine TT.seq ?_
    refine TT.region ?_
    refine OT.load rfl rfl (Ld.struct_all hT rfl (by repeat (first | exact Has.one | apply Has.there)) rfl) rfl ?_
    refine OT.call Try.call10 rfl rfl rfl rfl (law20_CutB hr.there hl) ?_
    rintro v_20 hs_20 ⟨w20, H20, rfl, rfl, ho20⟩
    generalize hys : (xs.take 6).map cutSnap = ys at ho20
    obtain ⟨a20, ca20, hv20⟩ := (ho20.row (hs := hs)).len
    subst hv20
    have hyl := cut_len hys
    refine OT.store_all hT rfl rfl rfl rfl (by repeat (first | exact Pull.head | apply Pull.tail)) rfl rfl rfl (.inl (Nat.le_refl _)) ?_
    refine OT.nil ?_
    refine KT.seq ?_
    refine TT.seq ?_
    refine TT.region ?_
    refine OT.load rfl rfl (Ld.struct_all hT rfl (by repeat (first | exact Has.one | apply Has.there)) rfl) rfl ?_
    refine OT.call Try.call10 rfl rfl rfl rfl (law20_CutB (by first | exact ho20.row | exact ho20.row.there | exact ho20.row.there.there | exact ho20.row.there.there.there | exact ho20.row.there.there.there.there | exact ho20.row.there.there.there.there.there | exact ho20.row.there.there.there.there.there.there | exact ho20.row.there.there.there.there.there.there.there) (by omega)) ?_
    rintro v_22 hs_22 ⟨w22, H22, rfl, rfl, ho22⟩
    generalize hzs : (ys.take 6).map cutSnap = zs at ho22
    obtain ⟨a22, ca22, hv22⟩ := (ho22.row (hs := hs)).len
    subst hv22
    have hzl := cut_len hzs
    have hzn := cut_names hzs
    refine OT.alloc Try.zeroValue24 rfl rfl (fun b_10 => ?_)
    refine OT.store_all hT rfl rfl rfl rfl (by repeat (first | exact Pull.head | apply Pull.tail)) rfl rfl rfl (.inl (Nat.le_refl _)) ?_
    refine OT.nil ?_
    refine KT.seq ?_
    refine TT.cut (ι := Int × (List Snap) × Chunk) (fun j => (j.2.1).length ≤ 6 ∧ Own encSnap 35 42 (.slice a22 zs.length ca22) (j.2.1) (j.2.2)) (fun j => [(4, .pointer (some ⟨b_4, 0, none⟩)), (10, .pointer (some ⟨b_10, 0, none⟩))]) (fun j => [(b_10, blk [.int .i64 (j.1), .slice a22 zs.length ca22] 24 (0, 0))] :: [(b_4, blk [.int .i64 next, .slice a20 ys.length ca20] 24 (0, 0))] :: (j.2.2) :: H20 :: hs) ?_ ?_
    ·
      refine TT.seq ?_
      refine TT.region ?_
      refine OT.pures hT 1 rfl ?_
      refine OT.load rfl rfl (Ld.slc hT rfl (by repeat (first | exact Has.one | apply Has.there)) rfl) rfl ?_
      refine OT.pures hT 3 rfl ?_
      refine OT.split 27 rfl (fun g27 => ?_) (fun g27 => ?_)
      ·
        have g27 := of_decide_eq_true g27
        refine OT.pures hT 3 rfl ?_
        refine OT.nil ?_
        refine KT.seq ?_
        refine TT.cond rfl (fun c30 => ?_) (fun c30 => ?_)
        ·
          have c30 := of_decide_eq_true c30
          refine TT.seq ?_
          refine TT.draw ([(b_10, blk [.int .i64 next, .slice a22 zs.length ca22] 24 (0, 0))] :: H22 :: [(b_4, blk [.int .i64 next, .slice a20 ys.length ca20] 24 (0, 0))] :: H20 :: hs) mixed ?_
          refine AT.takes (fuel := 6) hT [0, 2, 3] (by kernel_rfl) (by kernel_rfl) rfl ?_
          refine AT.take (fuel := 5) hT 1 rfl rfl (by kernel_rfl) (by kernel_rfl) (by kernel_rfl) rfl (.load rfl (Ld.slc hT rfl (by repeat (first | exact Has.one | apply Has.there)) rfl)) rfl ?_
          refine AT.take (fuel := 4) hT 4 rfl rfl (by kernel_rfl) (by kernel_rfl) (by kernel_rfl) rfl (.load rfl (Ld.slc hT rfl (by repeat (first | exact Has.one | apply Has.there)) rfl)) rfl ?_
          refine AT.takes (fuel := 3) hT [5] (by kernel_rfl) (by kernel_rfl) rfl ?_
          refine AT.op (fuel := 2) 6 (by kernel_rfl) rfl (by repeat (first | exact Sel.refl _ | refine Sel.empty ?_ | refine Sel.pull (by repeat (first | exact Pull.head | apply Pull.tail)) ?_ | refine Sel.drop ?_)) ?_
          refine OT.rem hT rfl rfl rfl (by omega) rfl ?_
          refine OT.nil ?_
          refine KT.any ?_
          refine AT.op (fuel := 1) 7 (by kernel_rfl) rfl (by repeat (first | exact Sel.refl _ | refine Sel.empty ?_ | refine Sel.pull (by repeat (first | exact Pull.head | apply Pull.tail)) ?_ | refine Sel.drop ?_)) ?_
          have hrm : 0 ≤ i.tmod zs.length ∧ i.tmod zs.length < zs.length := by rw [Int.tmod_eq_emod_of_nonneg (by omega)]; exact ⟨Int.emod_nonneg _ (by omega), Int.emod_lt_of_pos _ (by omega)⟩
          obtain ⟨s, hz⟩ := nth (l := zs) (i := (i.tmod zs.length).toNat) (by omega)
          have hs35 := ho22.1 s (List.mem_of_getElem? hz)
          have hs32 := map32 hs35
          have hsn := hzn s (List.mem_of_getElem? hz)
          obtain ⟨eb, eo, ec, ecs, efr, hva, rfl, hth, hle, hat, hget, hset⟩ := ho22.spot hz
          refine OT.index_raw hT rfl rfl (congrArg some hva) rfl hrm.1 hrm.2 rfl ?_
          refine OT.nil ?_
          refine KT.any ?_
          refine AT.takes (fuel := 0) hT [8] (by kernel_rfl) (by kernel_rfl) rfl ?_
          refine AT.done (by kernel_rfl) (by repeat (first | exact Sel.refl _ | refine Sel.empty ?_ | refine Sel.pull (by repeat (first | exact Pull.head | apply Pull.tail)) ?_ | refine Sel.drop ?_)) ?_
          refine KT.seq ?_
          refine TT.seq ?_
          refine TT.region ?_
          refine OT.pures hT 2 rfl ?_
          refine OT.nil ?_
          refine KT.seq ?_
          refine TT.block ?_
          refine TT.seq ?_
          refine TT.region ?_
          refine OT.pures hT 2 rfl ?_
          refine OT.nil ?_
          refine KT.seq ?_
          refine TT.cond rfl (fun c48 => ?_) (fun c48 => ?_)
          ·
            refine TT.region ?_
            refine OT.pures hT 9 rfl ?_
            have h31 : 0 ≤ i.tmod 31 ∧ i.tmod 31 < 31 := by rw [Int.tmod_eq_emod_of_nonneg (by omega)]; omega
            refine OT.reg 53 rfl (v := .int .i64 (1 + i.tmod 31)) (int_eq (wrap_i64 (n := 1 + i.tmod 31) (by omega) (by omega))) ?_
            refine OT.index_at hT rfl rfl rfl rfl (by omega) (by omega) rfl ?_
            refine OT.store hT rfl rfl rfl rfl (by repeat (first | exact Pull.head | apply Pull.tail)) rfl (by show _ + 1 ≤ _; omega) rfl hth rfl ?_
            refine OT.nil ?_
            refine KT.blk ?_
            refine KT.cut (next, zs.set (i.tmod zs.length).toNat (setMap s (1 + i.tmod 31).toNat (IntKind.i64.wrap (32 + IntKind.i64.wrap (BitVec.ofInt IntKind.i64.bits w &&& BitVec.ofInt IntKind.i64.bits 63).toNat))), _) ?_ (SubR.cons rfl (SubR.cons rfl (SubR.nil _))) (by repeat (first | exact Sel.refl _ | refine Sel.empty ?_ | refine Sel.pull (by repeat (first | exact Pull.head | apply Pull.tail)) ?_ | refine Sel.drop ?_))
            · dsimp only
              exact ⟨by rw [List.length_set]; exact hzl, hset (j := 3 + (1 + i.tmod 31).toNat) (by omega) (by show _ + 1 ≤ _; omega) (setMap_splice hs35 (by omega) _)⟩
          ·
            refine TT.seq ?_
            refine TT.region ?_
            refine OT.pures hT 2 rfl ?_
            refine OT.nil ?_
            refine KT.seq ?_
            refine TT.cond rfl (fun c60 => ?_) (fun c60 => ?_)
            ·
              refine TT.region ?_
              refine OT.pures hT 3 rfl ?_
              refine OT.load rfl rfl (Ld.one hT rfl (by repeat (first | exact Has.one | apply Has.there)) (hget (j := 0) rfl rfl)) rfl ?_
              refine OT.add_str rfl rfl rfl (by show s.name.size + 1 ≤ _; omega) rfl ?_
              refine OT.pures hT 2 rfl ?_
              refine OT.store hT rfl rfl rfl rfl (by repeat (first | exact Pull.head | apply Pull.tail)) rfl (by show _ + 1 ≤ _; omega) rfl hth rfl ?_
              refine OT.nil ?_
              refine KT.blk ?_
              refine KT.cut (next, zs.set (i.tmod zs.length).toNat ({ s with name := s.name ++ ⟨#[120]⟩ }), _) ?_ (SubR.cons rfl (SubR.cons rfl (SubR.nil _))) (by repeat (first | exact Sel.refl _ | refine Sel.empty ?_ | refine Sel.pull (by repeat (first | exact Pull.head | apply Pull.tail)) ?_ | refine Sel.drop ?_))
              · dsimp only
                exact ⟨by rw [List.length_set]; exact hzl, hset (j := 0) rfl (by show _ + 1 ≤ _; omega) (put_name s _)⟩
            ·
              refine TT.seq ?_
              refine TT.region ?_
              refine OT.pures hT 2 rfl ?_
              refine OT.nil ?_
              refine KT.seq ?_
              refine TT.cond rfl (fun c69 => ?_) (fun c69 => ?_)
              ·
                refine TT.region ?_
                refine OT.pures hT 4 rfl ?_
                refine OT.load rfl rfl (Ld.one hT rfl (by repeat (first | exact Has.one | apply Has.there)) (hget (j := 2) rfl rfl)) rfl ?_
                refine OT.pures hT 3 rfl ?_
                refine OT.store hT rfl rfl rfl rfl (by repeat (first | exact Pull.head | apply Pull.tail)) rfl (by show _ + 1 ≤ _; omega) rfl hth rfl ?_
                refine OT.nil ?_
                refine KT.blk ?_
                refine KT.cut (next, zs.set (i.tmod zs.length).toNat ({ s with inv := !s.inv }), _) ?_ (SubR.cons rfl (SubR.cons rfl (SubR.nil _))) (by repeat (first | exact Sel.refl _ | refine Sel.empty ?_ | refine Sel.pull (by repeat (first | exact Pull.head | apply Pull.tail)) ?_ | refine Sel.drop ?_))
                · dsimp only
                  exact ⟨by rw [List.length_set]; exact hzl, hset (j := 2) rfl (by show _ + 1 ≤ _; omega) (put_inv s _)⟩
              ·
                refine TT.region ?_
                refine OT.pures hT 3 rfl ?_
                refine OT.load rfl rfl (Ld.one hT rfl (by repeat (first | exact Has.one | apply Has.there)) (hget (j := 1) rfl rfl)) rfl ?_
                refine OT.pures hT 3 rfl ?_
                refine OT.store hT rfl rfl rfl rfl (by repeat (first | exact Pull.head | apply Pull.tail)) rfl (by show _ + 1 ≤ _; omega) rfl hth rfl ?_
                refine OT.nil ?_
                refine KT.blk ?_
                refine KT.cut (next, zs.set (i.tmod zs.length).toNat ({ s with id := IntKind.i64.wrap (s.id + 1) }), _) ?_ (SubR.cons rfl (SubR.cons rfl (SubR.nil _))) (by repeat (first | exact Sel.refl _ | refine Sel.empty ?_ | refine Sel.pull (by repeat (first | exact Pull.head | apply Pull.tail)) ?_ | refine Sel.drop ?_))
                · dsimp only
                  exact ⟨by rw [List.length_set]; exact hzl, hset (j := 1) rfl (by show _ + 1 ≤ _; omega) (put_id s _)⟩
        ·
          have c30 := of_decide_eq_false c30
          refine TT.region ?_
          refine OT.pures hT 1 rfl ?_
          refine OT.load rfl rfl (Ld.one hT rfl (by repeat (first | exact Has.one | apply Has.there)) rfl) rfl ?_
          refine OT.pures hT 4 rfl ?_
          refine OT.store hT rfl rfl rfl rfl (by repeat (first | exact Pull.head | apply Pull.tail)) rfl (Nat.le_of_ble_eq_true rfl) rfl (.inl (Nat.le_refl _)) (cs' := [.int .i64 (IntKind.i64.wrap (next + IntKind.i64.wrap (BitVec.ofInt IntKind.i64.bits w &&& BitVec.ofInt IntKind.i64.bits 3).toNat)), .slice a22 zs.length ca22]) rfl ?_
          refine OT.nil ?_
          refine KT.cut (_, zs, H22) ?_ (SubR.cons rfl (SubR.cons rfl (SubR.nil _))) (by repeat (first | exact Sel.refl _ | refine Sel.empty ?_ | refine Sel.pull (by repeat (first | exact Pull.head | apply Pull.tail)) ?_ | refine Sel.drop ?_))
          · dsimp only
            exact ⟨hzl, ho22⟩
      ·
        have g27 := of_decide_eq_false g27
        refine OT.pures hT 3 rfl ?_
        refine OT.nil ?_
        refine KT.seq ?_
        refine TT.cond_false rfl ?_
        refine TT.region ?_
        refine OT.pures hT 1 rfl ?_
        refine OT.load rfl rfl (Ld.one hT rfl (by repeat (first | exact Has.one | apply Has.there)) rfl) rfl ?_
        refine OT.pures hT 4 rfl ?_
        refine OT.store hT rfl rfl rfl rfl (by repeat (first | exact Pull.head | apply Pull.tail)) rfl (Nat.le_of_ble_eq_true rfl) rfl (.inl (Nat.le_refl _)) (cs' := [.int .i64 (IntKind.i64.wrap (next + IntKind.i64.wrap (BitVec.ofInt IntKind.i64.bits w &&& BitVec.ofInt IntKind.i64.bits 3).toNat)), .slice a22 zs.length ca22]) rfl ?_
        refine OT.nil ?_
        refine KT.cut (_, zs, H22) ?_ (SubR.cons rfl (SubR.cons rfl (SubR.nil _))) (by repeat (first | exact Sel.refl _ | refine Sel.empty ?_ | refine Sel.pull (by repeat (first | exact Pull.head | apply Pull.tail)) ?_ | refine Sel.drop ?_))
        · dsimp only
          exact ⟨hzl, ho22⟩
    ·
      rintro ⟨n2, L2, K2⟩ hI
      dsimp only at hI
      obtain ⟨hL6, hO2⟩ := hI
      show TT _ _ _ [(4, .pointer (some ⟨b_4, 0, none⟩)), (10, .pointer (some ⟨b_10, 0, none⟩))] ([(b_10, blk [.int .i64 n2, .slice a22 zs.length ca22] 24 (0, 0))] :: [(b_4, blk [.int .i64 next, .slice a20 ys.length ca20] 24 (0, 0))] :: K2 :: H20 :: hs)
      refine TT.seq ?_
      refine TT.region ?_
      refine OT.load rfl rfl (Ld.struct_all hT rfl (by repeat (first | exact Has.one | apply Has.there)) rfl) rfl ?_
      refine OT.call Try.call14 rfl rfl rfl rfl (law20_Of) ?_
      rintro v_87 hs_87 ⟨rfl, rfl⟩
      refine OT.call Try.call13 rfl rfl rfl rfl (cat_Encode (by first | exact ho20.row | exact ho20.row.there | exact ho20.row.there.there | exact ho20.row.there.there.there | exact ho20.row.there.there.there.there | exact ho20.row.there.there.there.there.there | exact ho20.row.there.there.there.there.there.there | exact ho20.row.there.there.there.there.there.there.there) (by omega)) ?_
      rintro v_88 hs_88 ⟨w88, H88, rfl, rfl, ho88⟩
      refine OT.pures hT 5 rfl ?_
      refine OT.nil ?_
      refine KT.seq ?_
      refine TT.seq ?_
      refine TT.region ?_
      refine OT.load rfl rfl (Ld.struct_all hT rfl (by repeat (first | exact Has.one | apply Has.there)) rfl) rfl ?_
      refine OT.call Try.call14 rfl rfl rfl rfl (law20_Of) ?_
      rintro v_93 hs_93 ⟨rfl, rfl⟩
      refine OT.call Try.call13 rfl rfl rfl rfl (cat_Encode (by first | exact hO2.row | exact hO2.row.there | exact hO2.row.there.there | exact hO2.row.there.there.there | exact hO2.row.there.there.there.there | exact hO2.row.there.there.there.there.there | exact hO2.row.there.there.there.there.there.there | exact hO2.row.there.there.there.there.there.there.there) (by omega)) ?_
      rintro v_94 hs_94 ⟨w94, H94, rfl, rfl, ho94⟩
      refine OT.pures hT 5 rfl ?_
      refine OT.nil ?_
      refine KT.seq ?_
      refine TT.seq ?_
      refine TT.draw ([(b_10, blk [.int .i64 n2, .slice a22 zs.length ca22] 24 (0, 0))] :: [(b_4, blk [.int .i64 next, .slice a20 ys.length ca20] 24 (0, 0))] :: H94 :: H88 :: K2 :: H20 :: hs) mixed ?_
      refine AT.takes (fuel := 15) hT [0, 1, 2] (by kernel_rfl) (by kernel_rfl) rfl ?_
      refine AT.split 99 rfl (fun g99 => ?_) (fun g99 => ?_)
      ·
        have g99 : ¬ (encode next ys).2 = 0 := by simpa using g99
        refine AT.takes (fuel := 0) hT [3, 4, 5, 6, 7, 8, 9, 10, 11, 12, 13, 14, 15, 16, 17] (by kernel_rfl) (by kernel_rfl) rfl ?_
        refine AT.done (by kernel_rfl) (by repeat (first | exact Sel.refl _ | refine Sel.empty ?_ | refine Sel.pull (by repeat (first | exact Pull.head | apply Pull.tail)) ?_ | refine Sel.drop ?_)) ?_
        refine KT.seq ?_
        refine TT.ret ?_
        refine RT.of (rs := [.tmp 8]) [_] hs rfl (.tmp rfl .nil) (by repeat (first | exact Sel.refl _ | refine Sel.empty ?_ | refine Sel.pull (by repeat (first | exact Pull.head | apply Pull.tail)) ?_ | refine Sel.drop ?_)) ?_
        dsimp only [one]
        exact ⟨rfl, rfl⟩
      ·
        have g99 : (encode next ys).2 = 0 := by simpa using g99
        refine AT.takes (fuel := 11) hT [3, 4, 5, 6] (by kernel_rfl) (by kernel_rfl) rfl ?_
        refine AT.split 103 rfl (fun g103 => ?_) (fun g103 => ?_)
        ·
          have g103 : ¬ (encode n2 L2).2 = 0 := by simpa using g103
          refine AT.takes (fuel := 0) hT [7, 8, 9, 10, 11, 12, 13, 14, 15, 16, 17] (by kernel_rfl) (by kernel_rfl) rfl ?_
          refine AT.done (by kernel_rfl) (by repeat (first | exact Sel.refl _ | refine Sel.empty ?_ | refine Sel.pull (by repeat (first | exact Pull.head | apply Pull.tail)) ?_ | refine Sel.drop ?_)) ?_
          refine KT.seq ?_
          refine TT.ret ?_
          refine RT.of (rs := [.tmp 8]) [_] hs rfl (.tmp rfl .nil) (by repeat (first | exact Sel.refl _ | refine Sel.empty ?_ | refine Sel.pull (by repeat (first | exact Pull.head | apply Pull.tail)) ?_ | refine Sel.drop ?_)) ?_
          dsimp only [one]
          exact ⟨rfl, rfl⟩
        ·
          have g103 : (encode n2 L2).2 = 0 := by simpa using g103
          refine AT.takes (fuel := 9) hT [7, 9] (by kernel_rfl) (by kernel_rfl) rfl ?_
          refine AT.take (fuel := 8) hT 12 rfl rfl (by kernel_rfl) (by kernel_rfl) (by kernel_rfl) rfl (.load rfl (Ld.struct_all hT rfl (by repeat (first | exact Has.one | apply Has.there)) rfl)) rfl ?_
          refine AT.take (fuel := 7) hT 13 rfl rfl (by kernel_rfl) (by kernel_rfl) (by kernel_rfl) rfl (.load rfl (Ld.struct_all hT rfl (by repeat (first | exact Has.one | apply Has.there)) rfl)) rfl ?_
          refine AT.all (fuel := 6) [8, 10, 14] (by kernel_rfl) (by decide) (by repeat (first | exact Sel.refl _ | refine Sel.empty ?_ | refine Sel.pull (by repeat (first | exact Pull.head | apply Pull.tail)) ?_ | refine Sel.drop ?_)) ?_
          intro i hi
          simp only [List.mem_cons, List.not_mem_nil, or_false] at hi
          rcases hi with rfl | rfl | rfl
          ·
            refine ⟨_, rfl, ?_⟩
            refine OT.conv_bs (fun _ => rfl) hT rfl rfl rfl rfl rfl (by first | exact ho88.row | exact ho88.row.there | exact ho88.row.there.there | exact ho88.row.there.there.there | exact ho88.row.there.there.there.there | exact ho88.row.there.there.there.there.there | exact ho88.row.there.there.there.there.there.there | exact ho88.row.there.there.there.there.there.there.there) rfl ?_
            refine OT.nil ?_
            refine KT.any ?_
            refine AT.all (fuel := 5) [10, 14] (by kernel_rfl) (by decide) (by repeat (first | exact Sel.refl _ | refine Sel.empty ?_ | refine Sel.pull (by repeat (first | exact Pull.head | apply Pull.tail)) ?_ | refine Sel.drop ?_)) ?_
            intro i hi
            simp only [List.mem_cons, List.not_mem_nil, or_false] at hi
            rcases hi with rfl | rfl
            ·
              refine ⟨_, rfl, ?_⟩
              refine OT.conv_bs (fun _ => rfl) hT rfl rfl rfl rfl rfl (by first | exact ho94.row | exact ho94.row.there | exact ho94.row.there.there | exact ho94.row.there.there.there | exact ho94.row.there.there.there.there | exact ho94.row.there.there.there.there.there | exact ho94.row.there.there.there.there.there.there | exact ho94.row.there.there.there.there.there.there.there) rfl ?_
              refine OT.nil ?_
              refine KT.any ?_
              refine AT.takes (fuel := 4) hT [11] (by kernel_rfl) (by kernel_rfl) rfl ?_
              refine AT.op (fuel := 3) 14 (by kernel_rfl) rfl (by repeat (first | exact Sel.refl _ | refine Sel.empty ?_ | refine Sel.pull (by repeat (first | exact Pull.head | apply Pull.tail)) ?_ | refine Sel.drop ?_)) ?_
              refine OT.call Try.call24 rfl rfl rfl rfl (ref_EqCat (by first | exact ho20.row | exact ho20.row.there | exact ho20.row.there.there | exact ho20.row.there.there.there | exact ho20.row.there.there.there.there | exact ho20.row.there.there.there.there.there | exact ho20.row.there.there.there.there.there.there | exact ho20.row.there.there.there.there.there.there.there) (by first | exact hO2.row | exact hO2.row.there | exact hO2.row.there.there | exact hO2.row.there.there.there | exact hO2.row.there.there.there.there | exact hO2.row.there.there.there.there.there | exact hO2.row.there.there.there.there.there.there | exact hO2.row.there.there.there.there.there.there.there) (by omega)) ?_
              rintro v_111 hs_111 ⟨rfl, rfl⟩
              refine OT.nil ?_
              refine KT.any ?_
              refine AT.takes (fuel := 0) hT [15, 16, 17] (by kernel_rfl) (by kernel_rfl) rfl ?_
              refine AT.done (by kernel_rfl) (by repeat (first | exact Sel.refl _ | refine Sel.empty ?_ | refine Sel.pull (by repeat (first | exact Pull.head | apply Pull.tail)) ?_ | refine Sel.drop ?_)) ?_
              refine KT.seq ?_
              refine TT.ret ?_
              refine RT.of (rs := [.tmp 8]) [_] hs rfl (.tmp rfl .nil) (by repeat (first | exact Sel.refl _ | refine Sel.empty ?_ | refine Sel.pull (by repeat (first | exact Pull.head | apply Pull.tail)) ?_ | refine Sel.drop ?_)) ?_
              dsimp only [one]
              exact ⟨congrArg Value.bool (tw g99 g103 ho20.1 hO2.1), rfl⟩
            ·
              refine ⟨_, rfl, ?_⟩
              refine OT.call Try.call24 rfl rfl rfl rfl (ref_EqCat (by first | exact ho20.row | exact ho20.row.there | exact ho20.row.there.there | exact ho20.row.there.there.there | exact ho20.row.there.there.there.there | exact ho20.row.there.there.there.there.there | exact ho20.row.there.there.there.there.there.there | exact ho20.row.there.there.there.there.there.there.there) (by first | exact hO2.row | exact hO2.row.there | exact hO2.row.there.there | exact hO2.row.there.there.there | exact hO2.row.there.there.there.there | exact hO2.row.there.there.there.there.there | exact hO2.row.there.there.there.there.there.there | exact hO2.row.there.there.there.there.there.there.there) (by omega)) ?_
              rintro v_111 hs_111 ⟨rfl, rfl⟩
              refine OT.nil ?_
              refine KT.any ?_
              refine AT.op (fuel := 4) 10 (by kernel_rfl) rfl (by repeat (first | exact Sel.refl _ | refine Sel.empty ?_ | refine Sel.pull (by repeat (first | exact Pull.head | apply Pull.tail)) ?_ | refine Sel.drop ?_)) ?_
              refine OT.conv_bs (fun _ => rfl) hT rfl rfl rfl rfl rfl (by first | exact ho94.row | exact ho94.row.there | exact ho94.row.there.there | exact ho94.row.there.there.there | exact ho94.row.there.there.there.there | exact ho94.row.there.there.there.there.there | exact ho94.row.there.there.there.there.there.there | exact ho94.row.there.there.there.there.there.there.there) rfl ?_
              refine OT.nil ?_
              refine KT.any ?_
              refine AT.takes (fuel := 0) hT [11, 15, 16, 17] (by kernel_rfl) (by kernel_rfl) rfl ?_
              refine AT.done (by kernel_rfl) (by repeat (first | exact Sel.refl _ | refine Sel.empty ?_ | refine Sel.pull (by repeat (first | exact Pull.head | apply Pull.tail)) ?_ | refine Sel.drop ?_)) ?_
              refine KT.seq ?_
              refine TT.ret ?_
              refine RT.of (rs := [.tmp 8]) [_] hs rfl (.tmp rfl .nil) (by repeat (first | exact Sel.refl _ | refine Sel.empty ?_ | refine Sel.pull (by repeat (first | exact Pull.head | apply Pull.tail)) ?_ | refine Sel.drop ?_)) ?_
              dsimp only [one]
              exact ⟨congrArg Value.bool (tw g99 g103 ho20.1 hO2.1), rfl⟩
          ·
            refine ⟨_, rfl, ?_⟩
            refine OT.conv_bs (fun _ => rfl) hT rfl rfl rfl rfl rfl (by first | exact ho94.row | exact ho94.row.there | exact ho94.row.there.there | exact ho94.row.there.there.there | exact ho94.row.there.there.there.there | exact ho94.row.there.there.there.there.there | exact ho94.row.there.there.there.there.there.there | exact ho94.row.there.there.there.there.there.there.there) rfl ?_
            refine OT.nil ?_
            refine KT.any ?_
            refine AT.all (fuel := 5) [8, 14] (by kernel_rfl) (by decide) (by repeat (first | exact Sel.refl _ | refine Sel.empty ?_ | refine Sel.pull (by repeat (first | exact Pull.head | apply Pull.tail)) ?_ | refine Sel.drop ?_)) ?_
            intro i hi
            simp only [List.mem_cons, List.not_mem_nil, or_false] at hi
            rcases hi with rfl | rfl
            ·
              refine ⟨_, rfl, ?_⟩
              refine OT.conv_bs (fun _ => rfl) hT rfl rfl rfl rfl rfl (by first | exact ho88.row | exact ho88.row.there | exact ho88.row.there.there | exact ho88.row.there.there.there | exact ho88.row.there.there.there.there | exact ho88.row.there.there.there.there.there | exact ho88.row.there.there.there.there.there.there | exact ho88.row.there.there.there.there.there.there.there) rfl ?_
              refine OT.nil ?_
              refine KT.any ?_
              refine AT.takes (fuel := 4) hT [11] (by kernel_rfl) (by kernel_rfl) rfl ?_
              refine AT.op (fuel := 3) 14 (by kernel_rfl) rfl (by repeat (first | exact Sel.refl _ | refine Sel.empty ?_ | refine Sel.pull (by repeat (first | exact Pull.head | apply Pull.tail)) ?_ | refine Sel.drop ?_)) ?_
              refine OT.call Try.call24 rfl rfl rfl rfl (ref_EqCat (by first | exact ho20.row | exact ho20.row.there | exact ho20.row.there.there | exact ho20.row.there.there.there | exact ho20.row.there.there.there.there | exact ho20.row.there.there.there.there.there | exact ho20.row.there.there.there.there.there.there | exact ho20.row.there.there.there.there.there.there.there) (by first | exact hO2.row | exact hO2.row.there | exact hO2.row.there.there | exact hO2.row.there.there.there | exact hO2.row.there.there.there.there | exact hO2.row.there.there.there.there.there | exact hO2.row.there.there.there.there.there.there | exact hO2.row.there.there.there.there.there.there.there) (by omega)) ?_
              rintro v_111 hs_111 ⟨rfl, rfl⟩
              refine OT.nil ?_
              refine KT.any ?_
              refine AT.takes (fuel := 0) hT [15, 16, 17] (by kernel_rfl) (by kernel_rfl) rfl ?_
              refine AT.done (by kernel_rfl) (by repeat (first | exact Sel.refl _ | refine Sel.empty ?_ | refine Sel.pull (by repeat (first | exact Pull.head | apply Pull.tail)) ?_ | refine Sel.drop ?_)) ?_
              refine KT.seq ?_
              refine TT.ret ?_
              refine RT.of (rs := [.tmp 8]) [_] hs rfl (.tmp rfl .nil) (by repeat (first | exact Sel.refl _ | refine Sel.empty ?_ | refine Sel.pull (by repeat (first | exact Pull.head | apply Pull.tail)) ?_ | refine Sel.drop ?_)) ?_
              dsimp only [one]
              exact ⟨congrArg Value.bool (tw g99 g103 ho20.1 hO2.1), rfl⟩
            ·
              refine ⟨_, rfl, ?_⟩
              refine OT.call Try.call24 rfl rfl rfl rfl (ref_EqCat (by first | exact ho20.row | exact ho20.row.there | exact ho20.row.there.there | exact ho20.row.there.there.there | exact ho20.row.there.there.there.there | exact ho20.row.there.there.there.there.there | exact ho20.row.there.there.there.there.there.there | exact ho20.row.there.there.there.there.there.there.there) (by first | exact hO2.row | exact hO2.row.there | exact hO2.row.there.there | exact hO2.row.there.there.there | exact hO2.row.there.there.there.there | exact hO2.row.there.there.there.there.there | exact hO2.row.there.there.there.there.there.there | exact hO2.row.there.there.there.there.there.there.there) (by omega)) ?_
              rintro v_111 hs_111 ⟨rfl, rfl⟩
              refine OT.nil ?_
              refine KT.any ?_
              refine AT.op (fuel := 4) 8 (by kernel_rfl) rfl (by repeat (first | exact Sel.refl _ | refine Sel.empty ?_ | refine Sel.pull (by repeat (first | exact Pull.head | apply Pull.tail)) ?_ | refine Sel.drop ?_)) ?_
              refine OT.conv_bs (fun _ => rfl) hT rfl rfl rfl rfl rfl (by first | exact ho88.row | exact ho88.row.there | exact ho88.row.there.there | exact ho88.row.there.there.there | exact ho88.row.there.there.there.there | exact ho88.row.there.there.there.there.there | exact ho88.row.there.there.there.there.there.there | exact ho88.row.there.there.there.there.there.there.there) rfl ?_
              refine OT.nil ?_
              refine KT.any ?_
              refine AT.takes (fuel := 0) hT [11, 15, 16, 17] (by kernel_rfl) (by kernel_rfl) rfl ?_
              refine AT.done (by kernel_rfl) (by repeat (first | exact Sel.refl _ | refine Sel.empty ?_ | refine Sel.pull (by repeat (first | exact Pull.head | apply Pull.tail)) ?_ | refine Sel.drop ?_)) ?_
              refine KT.seq ?_
              refine TT.ret ?_
              refine RT.of (rs := [.tmp 8]) [_] hs rfl (.tmp rfl .nil) (by repeat (first | exact Sel.refl _ | refine Sel.empty ?_ | refine Sel.pull (by repeat (first | exact Pull.head | apply Pull.tail)) ?_ | refine Sel.drop ?_)) ?_
              dsimp only [one]
              exact ⟨congrArg Value.bool (tw g99 g103 ho20.1 hO2.1), rfl⟩
          ·
            refine ⟨_, rfl, ?_⟩
            refine OT.call Try.call24 rfl rfl rfl rfl (ref_EqCat (by first | exact ho20.row | exact ho20.row.there | exact ho20.row.there.there | exact ho20.row.there.there.there | exact ho20.row.there.there.there.there | exact ho20.row.there.there.there.there.there | exact ho20.row.there.there.there.there.there.there | exact ho20.row.there.there.there.there.there.there.there) (by first | exact hO2.row | exact hO2.row.there | exact hO2.row.there.there | exact hO2.row.there.there.there | exact hO2.row.there.there.there.there | exact hO2.row.there.there.there.there.there | exact hO2.row.there.there.there.there.there.there | exact hO2.row.there.there.there.there.there.there.there) (by omega)) ?_
            rintro v_111 hs_111 ⟨rfl, rfl⟩
            refine OT.nil ?_
            refine KT.any ?_
            refine AT.all (fuel := 5) [8, 10] (by kernel_rfl) (by decide) (by repeat (first | exact Sel.refl _ | refine Sel.empty ?_ | refine Sel.pull (by repeat (first | exact Pull.head | apply Pull.tail)) ?_ | refine Sel.drop ?_)) ?_
            intro i hi
            simp only [List.mem_cons, List.not_mem_nil, or_false] at hi
            rcases hi with rfl | rfl
            ·
              refine ⟨_, rfl, ?_⟩
              refine OT.conv_bs (fun _ => rfl) hT rfl rfl rfl rfl rfl (by first | exact ho88.row | exact ho88.row.there | exact ho88.row.there.there | exact ho88.row.there.there.there | exact ho88.row.there.there.there.there | exact ho88.row.there.there.there.there.there | exact ho88.row.there.there.there.there.there.there | exact ho88.row.there.there.there.there.there.there.there) rfl ?_
              refine OT.nil ?_
              refine KT.any ?_
              refine AT.op (fuel := 4) 10 (by kernel_rfl) rfl (by repeat (first | exact Sel.refl _ | refine Sel.empty ?_ | refine Sel.pull (by repeat (first | exact Pull.head | apply Pull.tail)) ?_ | refine Sel.drop ?_)) ?_
              refine OT.conv_bs (fun _ => rfl) hT rfl rfl rfl rfl rfl (by first | exact ho94.row | exact ho94.row.there | exact ho94.row.there.there | exact ho94.row.there.there.there | exact ho94.row.there.there.there.there | exact ho94.row.there.there.there.there.there | exact ho94.row.there.there.there.there.there.there | exact ho94.row.there.there.there.there.there.there.there) rfl ?_
              refine OT.nil ?_
              refine KT.any ?_
              refine AT.takes (fuel := 0) hT [11, 15, 16, 17] (by kernel_rfl) (by kernel_rfl) rfl ?_
              refine AT.done (by kernel_rfl) (by repeat (first | exact Sel.refl _ | refine Sel.empty ?_ | refine Sel.pull (by repeat (first | exact Pull.head | apply Pull.tail)) ?_ | refine Sel.drop ?_)) ?_
              refine KT.seq ?_
              refine TT.ret ?_
              refine RT.of (rs := [.tmp 8]) [_] hs rfl (.tmp rfl .nil) (by repeat (first | exact Sel.refl _ | refine Sel.empty ?_ | refine Sel.pull (by repeat (first | exact Pull.head | apply Pull.tail)) ?_ | refine Sel.drop ?_)) ?_
              dsimp only [one]
              exact ⟨congrArg Value.bool (tw g99 g103 ho20.1 hO2.1), rfl⟩
            ·
              refine ⟨_, rfl, ?_⟩
              refine OT.conv_bs (fun _ => rfl) hT rfl rfl rfl rfl rfl (by first | exact ho94.row | exact ho94.row.there | exact ho94.row.there.there | exact ho94.row.there.there.there | exact ho94.row.there.there.there.there | exact ho94.row.there.there.there.there.there | exact ho94.row.there.there.there.there.there.there | exact ho94.row.there.there.there.there.there.there.there) rfl ?_
              refine OT.nil ?_
              refine KT.any ?_
              refine AT.op (fuel := 4) 8 (by kernel_rfl) rfl (by repeat (first | exact Sel.refl _ | refine Sel.empty ?_ | refine Sel.pull (by repeat (first | exact Pull.head | apply Pull.tail)) ?_ | refine Sel.drop ?_)) ?_
              refine OT.conv_bs (fun _ => rfl) hT rfl rfl rfl rfl rfl (by first | exact ho88.row | exact ho88.row.there | exact ho88.row.there.there | exact ho88.row.there.there.there | exact ho88.row.there.there.there.there | exact ho88.row.there.there.there.there.there | exact ho88.row.there.there.there.there.there.there | exact ho88.row.there.there.there.there.there.there.there) rfl ?_
              refine OT.nil ?_
              refine KT.any ?_
              refine AT.takes (fuel := 0) hT [11, 15, 16, 17] (by kernel_rfl) (by kernel_rfl) rfl ?_
              refine AT.done (by kernel_rfl) (by repeat (first | exact Sel.refl _ | refine Sel.empty ?_ | refine Sel.pull (by repeat (first | exact Pull.head | apply Pull.tail)) ?_ | refine Sel.drop ?_)) ?_
              refine KT.seq ?_
              refine TT.ret ?_
              refine RT.of (rs := [.tmp 8]) [_] hs rfl (.tmp rfl .nil) (by repeat (first | exact Sel.refl _ | refine Sel.empty ?_ | refine Sel.pull (by repeat (first | exact Pull.head | apply Pull.tail)) ?_ | refine Sel.drop ?_)) ?_
              dsimp only [one]
              exact ⟨congrArg Value.bool (tw g99 g103 ho20.1 hO2.1), rfl⟩

end Go.Proofs.Ytpijialhhdpobaa.Sx
