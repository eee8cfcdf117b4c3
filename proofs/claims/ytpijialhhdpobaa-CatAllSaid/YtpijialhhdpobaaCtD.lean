/- Catalogs as bytes: what the program's Encode and the document's CatBytes and MayCat compute. Printed by a program of ours off the loaded program and our notes; Lean checks it. -/
import Derived.Test.YtpijialhhdpobaaPlC
import Derived.Test.YtpijialhhdpobaaSxT
import Derived.Test.YtpijialhhdpobaaCtC
namespace Go.Proofs.Ytpijialhhdpobaa.Sx
open Go Go.Sx Go.Pl
variable [Outer]

set_option maxHeartbeats 4000000 in
set_option maxRecDepth 100000 in
theorem cat_Encode {next : Int} {v : Value} {xs : List Snap} {hs : List Chunk} (hr : Row encSnap 35 hs v xs) (hl : xs.length ≤ 1073741824) : Fun Try.prog 13 [.agg ⟨[.int .i64 next, v]⟩] hs (fun v' hs' => ∃ w H', v' = .tuple ⟨[w, .int .i64 (encode next xs).2]⟩ ∧ hs' = H' :: hs ∧ Own Go.Sx.encB 1 5 w (encode next xs).1 H') := by
  refine Fun.enter 60 Try.func13 rfl Try.ntmps13 rfl ?_
  obtain ⟨a0, c0, hv⟩ := hr.len
  subst hv
  refine TT.seq ?_
  refine TT.region ?_
  refine OT.box rfl rfl rfl (fun b_1 => ?_)
  refine OT.pures hT 2 rfl ?_
  refine OT.nil ?_
  refine KT.seq ?_
  refine TT.seq ?_
  refine TT.seq ?_
  refine TT.region ?_
  refine OT.load rfl rfl (Ld.struct_all hT rfl (by repeat (first | exact Has.one | apply Has.there)) rfl) rfl ?_
  refine OT.call Try.call15 rfl rfl rfl rfl (cat_May hr.there hl) ?_
  rintro v_10 hs_10 ⟨rfl, rfl⟩
  refine OT.pures hT 1 rfl ?_
  refine OT.nil ?_
  refine KT.seq ?_
  refine TT.cond rfl (fun c11 => ?_) (fun c11 => ?_)
  ·
    have c11 : mayB next xs = false := by simpa using c11
    refine TT.seq ?_
    refine TT.region ?_
    refine OT.pures hT 2 rfl ?_
    refine OT.nil ?_
    refine KT.seq ?_
    refine TT.ret ?_
    refine RT.of (rs := [.tmp 2, .tmp 3]) [_, _] ([] :: hs) rfl (.tmp rfl (.tmp rfl .nil)) (by repeat (first | exact Sel.refl _ | refine Sel.empty ?_ | refine Sel.pull (by repeat (first | exact Pull.head | apply Pull.tail)) ?_ | refine Sel.drop ?_)) ?_
    dsimp only [one]
    have e : encode next xs = ([], 1) := by unfold encode; rw [if_neg (by rw [c11]; decide)]
    rw [e]
    exact ⟨_, [], rfl, rfl, Own.nil⟩
  ·
    have hmay : mayB next xs = true := by simpa using c11
    obtain ⟨hb0, hb1, hb4, hbs⟩ := may_ok hmay
    refine TT.skip ?_
    refine KT.seq ?_
    refine TT.seq ?_
    refine TT.draw ([(b_1, blk [.int .i64 next, .slice a0 xs.length c0] 33 (0, 0))] :: hs) mixed ?_
    refine AT.takes (fuel := 6) hT [0, 3] (by kernel_rfl) (by kernel_rfl) rfl ?_
    refine AT.take (fuel := 5) hT 1 rfl rfl (by kernel_rfl) (by kernel_rfl) (by kernel_rfl) rfl (.load rfl (Ld.one hT rfl (by repeat (first | exact Has.one | apply Has.there)) rfl)) rfl ?_
    refine AT.take (fuel := 4) hT 4 rfl rfl (by kernel_rfl) (by kernel_rfl) (by kernel_rfl) rfl (.load rfl (Ld.slc hT rfl (by repeat (first | exact Has.one | apply Has.there)) rfl)) rfl ?_
    refine AT.takes (fuel := 3) hT [5] (by kernel_rfl) (by kernel_rfl) rfl ?_
    refine AT.op (fuel := 2) 2 (by kernel_rfl) rfl (by repeat (first | exact Sel.refl _ | refine Sel.empty ?_ | refine Sel.pull (by repeat (first | exact Pull.head | apply Pull.tail)) ?_ | refine Sel.drop ?_)) ?_
    refine OT.call Try.call32 rfl rfl rfl rfl (Fun.chunk0 (num_Put Own.nil (by omega) (by omega) (by simp))) ?_
    rintro v_14 hs_14 ⟨H14, rfl, ho14⟩
    refine OT.nil ?_
    refine KT.any ?_
    refine AT.op (fuel := 1) 6 (by kernel_rfl) rfl (by repeat (first | exact Sel.refl _ | refine Sel.empty ?_ | refine Sel.pull (by repeat (first | exact Pull.head | apply Pull.tail)) ?_ | refine Sel.drop ?_)) ?_
    refine OT.call Try.call32 rfl rfl rfl rfl (Fun.pull (by repeat (first | exact Pull.head | apply Pull.tail)) (num_Put ho14 (by omega) (by omega) (by have := put_ten (n := next) (by omega) (by omega); rw [List.nil_append]; omega))) ?_
    rintro v_18 hs_18 ⟨H18, rfl, ho18⟩
    refine OT.nil ?_
    refine KT.any ?_
    refine AT.takes (fuel := 0) hT [7] (by kernel_rfl) (by kernel_rfl) rfl ?_
    refine AT.done (by kernel_rfl) (by repeat (first | exact Sel.refl _ | refine Sel.empty ?_ | refine Sel.pull (by repeat (first | exact Pull.head | apply Pull.tail)) ?_ | refine Sel.drop ?_)) ?_
    refine KT.seq ?_
    refine TT.seq ?_
    refine TT.seq ?_
    refine TT.region ?_
    refine OT.pures hT 1 rfl ?_
    refine OT.load rfl rfl (Ld.slc hT rfl (by repeat (first | exact Has.one | apply Has.there)) rfl) rfl ?_
    refine OT.pures hT 2 rfl ?_
    refine OT.nil ?_
    refine KT.seq ?_
    refine TT.block ?_
    refine TT.loop (ι := Nat × Value × Chunk) (fun j => (j.1) ≤ xs.length ∧ Own Go.Sx.encB 1 5 (j.2.1) (catTo next xs (j.1)) (j.2.2)) (fun j => xs.length - (j.1)) (fun j => [(1, .pointer (some ⟨b_1, 0, none⟩)), (20, .slice a0 xs.length c0), (21, .int .i64 xs.length), (22, .int .i64 ((j.1) : Nat)), (4, (j.2.1))]) (fun j => [(b_1, blk [.int .i64 next, .slice a0 xs.length c0] 33 (0, 0))] :: (j.2.2) :: hs) (0, v_18, H18) ?_ (SubR.cons rfl (SubR.cons rfl (SubR.cons rfl (SubR.cons rfl (SubR.cons rfl (SubR.nil _)))))) (by repeat (first | exact Sel.refl _ | refine Sel.empty ?_ | refine Sel.pull (by repeat (first | exact Pull.head | apply Pull.tail)) ?_ | refine Sel.drop ?_)) ?_
    · dsimp only
      exact ⟨by omega, by unfold catTo; simpa using ho18⟩
    rintro ⟨i, w, K⟩ hI
    dsimp only at hI
    obtain ⟨hi, hO⟩ := hI
    show TT _ _ _ [(1, .pointer (some ⟨b_1, 0, none⟩)), (20, .slice a0 xs.length c0), (21, .int .i64 xs.length), (22, .int .i64 (i : Nat)), (4, w)] ([(b_1, blk [.int .i64 next, .slice a0 xs.length c0] 33 (0, 0))] :: K :: hs)
    obtain ⟨hb0, hb1, hb4, hbs⟩ := may_ok hmay
    have hLT := catTo_length hmay hr.1 i
    refine TT.seq ?_
    refine TT.region ?_
    refine OT.pures hT 1 rfl ?_
    refine OT.nil ?_
    refine KT.seq ?_
    refine TT.seq ?_
    refine TT.cond rfl (fun c23 => ?_) (fun c23 => ?_)
    ·
      have c23 := of_decide_eq_true c23
      obtain ⟨s, hy⟩ := nth (l := xs) (i := i) (by omega)
      have h35 := hr.1 s (List.mem_of_getElem? hy)
      have h32 := map32 h35
      obtain ⟨hn8, hid0, hid1⟩ := hbs s (List.mem_of_getElem? hy)
      have hn8 := (nameB_iff _).1 hn8
      have hsz : s.name.data.toList.length = s.name.size := Array.length_toList
      have hpt : (putText s.name).length ≤ 18 := by
        have := put_ten (n := s.name.size) (by omega) (by omega)
        unfold putText; simp only [List.length_append]; omega
      have hpi : (put s.id).length ≤ 10 := put_ten (by omega) (by omega)
      refine TT.skip ?_
      refine KT.seq ?_
      refine TT.seq ?_
      refine TT.block ?_
      refine TT.seq ?_
      refine TT.region ?_
      refine OT.index hT rfl rfl rfl rfl hr.there.there (by omega) hy rfl (fun ad_24 hel_24 => ?_)
      refine OT.load rfl rfl (hel_24.ld_struct hT rfl) rfl ?_
      refine OT.alloc Try.zeroValue42 rfl rfl (fun b_6 => ?_)
      refine OT.store_all hT rfl rfl rfl rfl (by repeat (first | exact Pull.head | apply Pull.tail)) (by exact h35) rfl (ones_snap s) (.inl (Nat.le_refl _)) ?_
      refine OT.nil ?_
      refine KT.seq ?_
      refine TT.seq ?_
      refine TT.draw ([(b_6, blk (encSnap s) 42 (0, 0))] :: [(b_1, blk [.int .i64 next, .slice a0 xs.length c0] 33 (0, 0))] :: hs) mixed ?_
      refine AT.takes (fuel := 5) hT [0, 1, 4] (by kernel_rfl) (by kernel_rfl) rfl ?_
      refine AT.take (fuel := 4) hT 2 rfl rfl (by kernel_rfl) (by kernel_rfl) (by kernel_rfl) rfl (.load rfl (Ld.one hT rfl (by repeat (first | exact Has.one | apply Has.there)) rfl)) rfl ?_
      refine AT.take (fuel := 3) hT 5 rfl rfl (by kernel_rfl) (by kernel_rfl) (by kernel_rfl) rfl (.load rfl (Ld.one hT rfl (by repeat (first | exact Has.one | apply Has.there)) rfl)) rfl ?_
      refine AT.op (fuel := 2) 3 (by kernel_rfl) rfl (by repeat (first | exact Sel.refl _ | refine Sel.empty ?_ | refine Sel.pull (by repeat (first | exact Pull.head | apply Pull.tail)) ?_ | refine Sel.drop ?_)) ?_
      refine OT.call Try.call33 rfl rfl rfl rfl (Fun.pull (by repeat (first | exact Pull.head | apply Pull.tail)) (num_PutText hO (by omega) (by omega))) ?_
      rintro v_29 hs_29 ⟨H29, rfl, ho29⟩
      refine OT.nil ?_
      refine KT.any ?_
      refine AT.op (fuel := 1) 6 (by kernel_rfl) rfl (by repeat (first | exact Sel.refl _ | refine Sel.empty ?_ | refine Sel.pull (by repeat (first | exact Pull.head | apply Pull.tail)) ?_ | refine Sel.drop ?_)) ?_
      refine OT.call Try.call32 rfl rfl rfl rfl (Fun.pull (by repeat (first | exact Pull.head | apply Pull.tail)) (num_Put ho29 (by omega) (by omega) (by rw [List.length_append]; omega))) ?_
      rintro v_32 hs_32 ⟨H32, rfl, ho32⟩
      refine OT.nil ?_
      refine KT.any ?_
      refine AT.takes (fuel := 0) hT [7] (by kernel_rfl) (by kernel_rfl) rfl ?_
      refine AT.done (by kernel_rfl) (by repeat (first | exact Sel.refl _ | refine Sel.empty ?_ | refine Sel.pull (by repeat (first | exact Pull.head | apply Pull.tail)) ?_ | refine Sel.drop ?_)) ?_
      refine KT.seq ?_
      refine TT.cut (ι := Value × Chunk) (fun j => Own Go.Sx.encB 1 5 (j.1) (catTo next xs i ++ headBytes s) (j.2)) (fun j => [(1, .pointer (some ⟨b_1, 0, none⟩)), (20, .slice a0 xs.length c0), (21, .int .i64 xs.length), (22, .int .i64 (i : Nat)), (4, (j.1)), (6, .pointer (some ⟨b_6, 0, none⟩))]) (fun j => [(b_6, blk (encSnap s) 42 (0, 0))] :: [(b_1, blk [.int .i64 next, .slice a0 xs.length c0] 33 (0, 0))] :: (j.2) :: hs) ?_ ?_
      ·
        refine TT.seq ?_
        refine TT.region ?_
        refine OT.pures hT 1 rfl ?_
        refine OT.load rfl rfl (Ld.one hT rfl (by repeat (first | exact Has.one | apply Has.there)) rfl) rfl ?_
        refine OT.nil ?_
        refine KT.seq ?_
        refine TT.cond rfl (fun c34 => ?_) (fun c34 => ?_)
        ·
          refine TT.region ?_
          refine OT.pures hT 1 rfl ?_
          refine OT.buildSlice (enc := Go.Sx.encB) (xs := [1]) (xos := [.const (.int .u8 (1))]) el29 rfl rfl rfl rfl rfl (by simp [Value.cells]) (fun _ _ => rfl) rfl (by decide) rfl (fun v_36 H_36 ho_36 => ?_)
          refine OT.append hT el29 rfl rfl rfl rfl (by repeat (first | exact Pull.head | apply Pull.tail)) ho32 ho_36.row rfl (by simp only [List.length_append, List.length_cons, List.length_nil]; omega) rfl (fun v_37 H_37 ho_37 => ?_)
          refine OT.pures hT 1 rfl ?_
          refine OT.nil ?_
          refine KT.cut (v_37, H_37) ?_ (SubR.cons rfl (SubR.cons rfl (SubR.cons rfl (SubR.cons rfl (SubR.cons rfl (SubR.cons rfl (SubR.nil _))))))) (by repeat (first | exact Sel.refl _ | refine Sel.empty ?_ | refine Sel.pull (by repeat (first | exact Pull.head | apply Pull.tail)) ?_ | refine Sel.drop ?_))
          · dsimp only
            have e : catTo next xs i ++ headBytes s = catTo next xs i ++ putText s.name ++ put s.id ++ [1] := by unfold headBytes; rw [if_pos c34]; simp only [List.append_assoc]
            rw [e]; exact ho_37
        ·
          refine TT.region ?_
          refine OT.pures hT 1 rfl ?_
          refine OT.buildSlice (enc := Go.Sx.encB) (xs := [0]) (xos := [.const (.int .u8 (0))]) el29 rfl rfl rfl rfl rfl (by simp [Value.cells]) (fun _ _ => rfl) rfl (by decide) rfl (fun v_39 H_39 ho_39 => ?_)
          refine OT.append hT el29 rfl rfl rfl rfl (by repeat (first | exact Pull.head | apply Pull.tail)) ho32 ho_39.row rfl (by simp only [List.length_append, List.length_cons, List.length_nil]; omega) rfl (fun v_40 H_40 ho_40 => ?_)
          refine OT.pures hT 1 rfl ?_
          refine OT.nil ?_
          refine KT.cut (v_40, H_40) ?_ (SubR.cons rfl (SubR.cons rfl (SubR.cons rfl (SubR.cons rfl (SubR.cons rfl (SubR.cons rfl (SubR.nil _))))))) (by repeat (first | exact Sel.refl _ | refine Sel.empty ?_ | refine Sel.pull (by repeat (first | exact Pull.head | apply Pull.tail)) ?_ | refine Sel.drop ?_))
          · dsimp only
            have e : catTo next xs i ++ headBytes s = catTo next xs i ++ putText s.name ++ put s.id ++ [0] := by unfold headBytes; rw [if_neg (by rw [c34]; decide)]; simp only [List.append_assoc]
            rw [e]; exact ho_40
      ·
        rintro ⟨w2, K2⟩ hI
        dsimp only at hI
        have hO2 := hI
        show TT _ _ _ [(1, .pointer (some ⟨b_1, 0, none⟩)), (20, .slice a0 xs.length c0), (21, .int .i64 xs.length), (22, .int .i64 (i : Nat)), (4, w2), (6, .pointer (some ⟨b_6, 0, none⟩))] ([(b_6, blk (encSnap s) 42 (0, 0))] :: [(b_1, blk [.int .i64 next, .slice a0 xs.length c0] 33 (0, 0))] :: K2 :: hs)
        refine TT.seq ?_
        refine TT.region ?_
        refine OT.pures hT 1 rfl ?_
        refine OT.slice_arr 1 32 hT rfl rfl rfl rfl rfl (.inr ⟨_, rfl⟩) (.inl ⟨rfl, rfl⟩) (by omega) (by omega) (by omega) rfl ?_
        refine OT.pures hT 2 rfl ?_
        refine OT.nil ?_
        refine KT.seq ?_
        refine TT.block ?_
        have hdl : (s.map.drop 1).length = 31 := by rw [List.length_drop, h32]
        have hhl : (headBytes s).length ≤ 29 := by unfold headBytes; simp only [List.length_append, List.length_cons, List.length_nil]; omega
        refine TT.loop (ι := Nat × Value × Chunk) (fun j => (j.1) ≤ 31 ∧ Own Go.Sx.encB 1 5 (j.2.1) (catTo next xs i ++ headBytes s ++ ((s.map.drop 1).take (j.1)).map b8) (j.2.2)) (fun j => 31 - (j.1)) (fun j => [(1, .pointer (some ⟨b_1, 0, none⟩)), (20, .slice a0 xs.length c0), (21, .int .i64 xs.length), (22, .int .i64 (i : Nat)), (4, (j.2.1)), (6, .pointer (some ⟨b_6, 0, none⟩)), (42, .slice (some ⟨b_6, 0 + 3 + 1 * 1, none⟩) (32 - 1) (32 - 1)), (43, .int .i64 ((32 - 1 : Nat) : Int)), (44, .int .i64 ((j.1) : Nat))]) (fun j => [(b_6, blk (encSnap s) 42 (0, 0))] :: [(b_1, blk [.int .i64 next, .slice a0 xs.length c0] 33 (0, 0))] :: (j.2.2) :: hs) (0, w2, K2) ?_ (SubR.cons rfl (SubR.cons rfl (SubR.cons rfl (SubR.cons rfl (SubR.cons rfl (SubR.cons rfl (SubR.cons rfl (SubR.cons rfl (SubR.cons rfl (SubR.nil _)))))))))) (by repeat (first | exact Sel.refl _ | refine Sel.empty ?_ | refine Sel.pull (by repeat (first | exact Pull.head | apply Pull.tail)) ?_ | refine Sel.drop ?_)) ?_
        · dsimp only
          exact ⟨by omega, by simpa using hO2⟩
        rintro ⟨j2, w2, K2⟩ hI
        dsimp only at hI
        obtain ⟨hj, hO2⟩ := hI
        show TT _ _ _ [(1, .pointer (some ⟨b_1, 0, none⟩)), (20, .slice a0 xs.length c0), (21, .int .i64 xs.length), (22, .int .i64 (i : Nat)), (4, w2), (6, .pointer (some ⟨b_6, 0, none⟩)), (42, .slice (some ⟨b_6, 0 + 3 + 1 * 1, none⟩) (32 - 1) (32 - 1)), (43, .int .i64 ((32 - 1 : Nat) : Int)), (44, .int .i64 (j2 : Nat))] ([(b_6, blk (encSnap s) 42 (0, 0))] :: [(b_1, blk [.int .i64 next, .slice a0 xs.length c0] 33 (0, 0))] :: K2 :: hs)
        have hlen2 := List.length_take_le j2 (s.map.drop 1)
        refine TT.seq ?_
        refine TT.region ?_
        refine OT.pures hT 1 rfl ?_
        refine OT.nil ?_
        refine KT.seq ?_
        refine TT.seq ?_
        refine TT.cond rfl (fun c45 => ?_) (fun c45 => ?_)
        ·
          have c45 := of_decide_eq_true c45
          obtain ⟨at_, hat⟩ := nth (l := s.map.drop 1) (i := j2) (by omega)
          refine TT.skip ?_
          refine KT.seq ?_
          refine TT.seq ?_
          refine TT.block ?_
          refine TT.seq ?_
          refine TT.region ?_
          refine OT.index hT rfl rfl rfl rfl (snap_row h35) (by omega) hat rfl (fun ad_46 hel_46 => ?_)
          refine OT.load rfl rfl (hel_46.ld_one hT rfl rfl) rfl ?_
          refine OT.pures hT 1 rfl ?_
          refine OT.nil ?_
          refine KT.seq ?_
          refine TT.region ?_
          refine OT.pures hT 3 rfl ?_
          refine OT.buildSlice (enc := Go.Sx.encB) (xs := [b8 at_]) (xos := [.tmp 50]) el29 rfl rfl rfl rfl (by rw [b8_wrap]; rfl) (by simp [Value.cells]) (fun _ _ => rfl) rfl (by decide) rfl (fun v_51 H_51 ho_51 => ?_)
          refine OT.append hT el29 rfl rfl rfl rfl (by repeat (first | exact Pull.head | apply Pull.tail)) hO2 ho_51.row rfl (by simp only [List.length_append, List.length_map, List.length_cons, List.length_nil]; omega) rfl (fun v_52 H_52 ho_52 => ?_)
          refine OT.pures hT 1 rfl ?_
          refine OT.nil ?_
          refine KT.blk ?_
          refine KT.seq ?_
          refine TT.region ?_
          refine OT.pures hT 2 rfl ?_
          refine OT.nil ?_
          refine KT.loop (j2 + 1, v_52, H_52) ?_ ?_ (SubR.cons rfl (SubR.cons rfl (SubR.cons rfl (SubR.cons rfl (SubR.cons rfl (SubR.cons rfl (SubR.cons rfl (SubR.cons rfl (SubR.cons' rfl (by (try dsimp only); exact (int_eq (by rw [wrap_i64 (by omega) (by omega)]; omega))) (SubR.nil _)))))))))) (by repeat (first | exact Sel.refl _ | refine Sel.empty ?_ | refine Sel.pull (by repeat (first | exact Pull.head | apply Pull.tail)) ?_ | refine Sel.drop ?_))
          · dsimp only
            refine ⟨by omega, ?_⟩
            rw [map_take_succ _ _ hat, ← List.append_assoc]
            exact ho_52
          · dsimp only
            omega
        ·
          have c45 := of_decide_eq_false c45
          refine TT.exit ?_
          refine XT.seq ?_
          refine XT.loop ?_
          refine XT.here ?_
          refine KT.blk ?_
          refine KT.seq ?_
          refine TT.region ?_
          refine OT.pures hT 2 rfl ?_
          refine OT.nil ?_
          refine KT.loop (i + 1, w2, K2) ?_ ?_ (SubR.cons rfl (SubR.cons rfl (SubR.cons rfl (SubR.cons' rfl (by (try dsimp only); exact (int_eq (by rw [wrap_i64 (by omega) (by omega)]; omega))) (SubR.cons rfl (SubR.nil _)))))) (by repeat (first | exact Sel.refl _ | refine Sel.empty ?_ | refine Sel.pull (by repeat (first | exact Pull.head | apply Pull.tail)) ?_ | refine Sel.drop ?_))
          · dsimp only
            refine ⟨by omega, ?_⟩
            rw [catTo_succ hy, ← headBytes_map, ← List.append_assoc]
            rw [List.take_of_length_le (by omega)] at hO2
            exact hO2
          · dsimp only
            omega
    ·
      have c23 := of_decide_eq_false c23
      rw [catTo_all (by omega)] at hO
      have hcl := catBytes_length hmay hr.1
      obtain ⟨a9, c9, hw⟩ := (hO.row (hs := hs)).len
      subst hw
      refine TT.exit ?_
      refine XT.seq ?_
      refine XT.loop ?_
      refine XT.here ?_
      refine KT.seq ?_
      refine TT.seq ?_
      refine TT.region ?_
      refine OT.pures hT 4 rfl ?_
      refine OT.append_zeros (z0 := (0 : UInt8)) (m := 256 - (catBytes next xs).length) Try.zeroValue5 rfl rfl rfl hT el29 rfl rfl rfl (congrArg some (int_eq (by rw [wrap_i64 (by omega) (by omega)]; omega))) (by repeat (first | exact Pull.head | apply Pull.tail)) hO (by omega) rfl (fun v_59 H_59 ho_59 => ?_)
      refine OT.pures hT 2 rfl ?_
      refine OT.nil ?_
      refine KT.seq ?_
      refine TT.ret ?_
      refine RT.of (rs := [.tmp 2, .tmp 3]) [_, _] (H_59 :: hs) rfl (.tmp rfl (.tmp rfl .nil)) (by repeat (first | exact Sel.refl _ | refine Sel.empty ?_ | refine Sel.pull (by repeat (first | exact Pull.head | apply Pull.tail)) ?_ | refine Sel.drop ?_)) ?_
      dsimp only [one]
      have e : encode next xs = (page (catBytes next xs), 0) := by unfold encode; rw [if_pos hmay]
      rw [e]
      exact ⟨_, _, rfl, rfl, ho_59⟩

end Go.Proofs.Ytpijialhhdpobaa.Sx
