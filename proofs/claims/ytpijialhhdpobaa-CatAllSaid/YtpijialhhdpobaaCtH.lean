/- What the document's CatBytes computes. Printed by a program of ours off the loaded program and our notes; Lean checks it. -/
import Derived.Test.YtpijialhhdpobaaPlF
import Derived.Test.YtpijialhhdpobaaSxT
import Derived.Test.YtpijialhhdpobaaCtE
namespace Go.Proofs.Ytpijialhhdpobaa.Sx
open Go Go.Sx Go.Pl
variable [Outer]

set_option maxHeartbeats 4000000 in
set_option maxRecDepth 100000 in
theorem ref_CatBytes {next : Int} {v : Value} {xs : List Snap} {hs : List Chunk} (hr : Row encSnap 35 hs v xs) (hl : xs.length ≤ 1073741824) : Fun Try.prog 16 [.agg ⟨[.int .i64 next, v]⟩] hs (fun v' hs' => ∃ H', hs' = H' :: hs ∧ Own Go.Sx.encB 1 5 v' (catBytesR next xs) H') := by
  refine Fun.enter 60 Try.func16 rfl Try.ntmps16 rfl ?_
  obtain ⟨a0, c0, hv⟩ := hr.len
  subst hv
  refine TT.seq ?_
  refine TT.region ?_
  refine OT.box rfl rfl rfl (fun b_1 => ?_)
  refine OT.pures hT 1 rfl ?_
  refine OT.nil ?_
  refine KT.seq ?_
  refine TT.seq ?_
  refine TT.seq ?_
  refine TT.region ?_
  refine OT.load rfl rfl (Ld.struct_all hT rfl (by repeat (first | exact Has.one | apply Has.there)) rfl) rfl ?_
  refine OT.call Try.call12 rfl rfl rfl rfl (ref_MayCat hr.there hl) ?_
  rintro v_9 hs_9 ⟨rfl, rfl⟩
  refine OT.pures hT 1 rfl ?_
  refine OT.nil ?_
  refine KT.seq ?_
  refine TT.cond rfl (fun c10 => ?_) (fun c10 => ?_)
  ·
    have c10 : refMay next xs = false := by simpa using c10
    refine TT.seq ?_
    refine TT.region ?_
    refine OT.pures hT 1 rfl ?_
    refine OT.nil ?_
    refine KT.seq ?_
    refine TT.ret ?_
    refine RT.of (rs := [.tmp 2]) [_] ([] :: hs) rfl (.tmp rfl .nil) (by repeat (first | exact Sel.refl _ | refine Sel.empty ?_ | refine Sel.pull (by repeat (first | exact Pull.head | apply Pull.tail)) ?_ | refine Sel.drop ?_)) ?_
    dsimp only [one]
    have e : catBytesR next xs = [] := by unfold catBytesR; rw [if_neg (by rw [c10]; decide)]
    rw [e]
    exact ⟨[], rfl, Own.nil⟩
  ·
    have hrm : refMay next xs = true := by simpa using c10
    have hmay : mayB next xs = true := by rw [may_eq hr.1]; exact hrm
    obtain ⟨hb0, hb1, hb4, hbs⟩ := may_ok hmay
    refine TT.skip ?_
    refine KT.seq ?_
    refine TT.seq ?_
    refine TT.draw ([(b_1, blk [.int .i64 next, .slice a0 xs.length c0] 24 (0, 0))] :: hs) mixed ?_
    refine AT.takes (fuel := 7) hT [0, 3] (by kernel_rfl) (by kernel_rfl) rfl ?_
    refine AT.take (fuel := 6) hT 1 rfl rfl (by kernel_rfl) (by kernel_rfl) (by kernel_rfl) rfl (.load rfl (Ld.one hT rfl (by repeat (first | exact Has.one | apply Has.there)) rfl)) rfl ?_
    refine AT.take (fuel := 5) hT 4 rfl rfl (by kernel_rfl) (by kernel_rfl) (by kernel_rfl) rfl (.load rfl (Ld.slc hT rfl (by repeat (first | exact Has.one | apply Has.there)) rfl)) rfl ?_
    refine AT.takes (fuel := 4) hT [5] (by kernel_rfl) (by kernel_rfl) rfl ?_
    refine AT.op (fuel := 3) 2 (by kernel_rfl) rfl (by repeat (first | exact Sel.refl _ | refine Sel.empty ?_ | refine Sel.pull (by repeat (first | exact Pull.head | apply Pull.tail)) ?_ | refine Sel.drop ?_)) ?_
    refine OT.call Try.call35 rfl rfl rfl rfl (ref_Put (by omega) (by omega)) ?_
    rintro v_13 hs_13 ⟨H13, rfl, ho13⟩
    refine OT.nil ?_
    refine KT.any ?_
    refine AT.op (fuel := 2) 6 (by kernel_rfl) rfl (by repeat (first | exact Sel.refl _ | refine Sel.empty ?_ | refine Sel.pull (by repeat (first | exact Pull.head | apply Pull.tail)) ?_ | refine Sel.drop ?_)) ?_
    refine OT.call Try.call35 rfl rfl rfl rfl (ref_Put (by omega) (by omega)) ?_
    rintro v_17 hs_17 ⟨H17, rfl, ho17⟩
    refine OT.nil ?_
    refine KT.any ?_
    refine AT.op (fuel := 1) 7 (by kernel_rfl) rfl (by repeat (first | exact Sel.refl _ | refine Sel.empty ?_ | refine Sel.pull (by repeat (first | exact Pull.head | apply Pull.tail)) ?_ | refine Sel.drop ?_)) ?_
    refine OT.append hT el29 rfl rfl rfl rfl (by repeat (first | exact Pull.head | apply Pull.tail)) ho13 ho17.row (ones_B _) (by have h1 := put_ten (n := next) (by omega) (by omega); have h2 := put_ten (n := xs.length) (by omega) (by omega); omega) rfl (fun v_18 H_18 ho_18 => ?_)
    refine OT.nil ?_
    refine KT.any ?_
    refine AT.takes (fuel := 0) hT [8] (by kernel_rfl) (by kernel_rfl) rfl ?_
    refine AT.done (by kernel_rfl) (by repeat (first | exact Sel.refl _ | refine Sel.empty ?_ | refine Sel.pull (by repeat (first | exact Pull.head | apply Pull.tail)) ?_ | refine Sel.drop ?_)) ?_
    refine KT.seq ?_
    refine TT.seq ?_
    refine TT.seq ?_
    refine TT.region ?_
    refine OT.pures hT 1 rfl ?_
    refine OT.nil ?_
    refine KT.seq ?_
    refine TT.block ?_
    refine TT.loop (ι := Nat × Value × Chunk) (fun j => (j.1) ≤ xs.length ∧ Own Go.Sx.encB 1 5 (j.2.1) (catTo next xs (j.1)) (j.2.2)) (fun j => xs.length - (j.1)) (fun j => [(1, .pointer (some ⟨b_1, 0, none⟩)), (3, (j.2.1)), (4, .int .i64 ((j.1) : Nat))]) (fun j => [(b_1, blk [.int .i64 next, .slice a0 xs.length c0] 24 (0, 0))] :: (j.2.2) :: hs) (0, v_18, H_18) ?_ (SubR.cons rfl (SubR.cons rfl (SubR.cons rfl (SubR.nil _)))) (by repeat (first | exact Sel.refl _ | refine Sel.empty ?_ | refine Sel.pull (by repeat (first | exact Pull.head | apply Pull.tail)) ?_ | refine Sel.drop ?_)) ?_
    · dsimp only
      exact ⟨by omega, by unfold catTo; simpa using ho_18⟩
    rintro ⟨i, w, K⟩ hI
    dsimp only at hI
    obtain ⟨hi, hO⟩ := hI
    show TT _ _ _ [(1, .pointer (some ⟨b_1, 0, none⟩)), (3, w), (4, .int .i64 (i : Nat))] ([(b_1, blk [.int .i64 next, .slice a0 xs.length c0] 24 (0, 0))] :: K :: hs)
    have hLT := catTo_length hmay hr.1 i
    refine TT.seq ?_
    refine TT.seq ?_
    refine TT.region ?_
    refine OT.pures hT 2 rfl ?_
    refine OT.load rfl rfl (Ld.slc hT rfl (by repeat (first | exact Has.one | apply Has.there)) rfl) rfl ?_
    refine OT.pures hT 2 rfl ?_
    refine OT.nil ?_
    refine KT.seq ?_
    refine TT.cond rfl (fun c23 => ?_) (fun c23 => ?_)
    ·
      have c23 := of_decide_eq_true c23
      obtain ⟨s, hy⟩ := nth (l := xs) (i := i) (by omega)
      have h35 := hr.1 s (List.mem_of_getElem? hy)
      have h32 := map32 h35
      obtain ⟨hn8, hid0, hid1⟩ := hbs s (List.mem_of_getElem? hy)
      have hn8 := (nameB_iff _).1 hn8
      have hsz : s.name.data.toList.length = s.name.size := Array.length_toList
      have hpt : (putText s.name).length ≤ 18 := by
        have := put_ten (n := s.name.size) (by omega) (by omega)
        unfold putText; simp only [List.length_append]; omega
      have hpi : (put s.id).length ≤ 10 := put_ten (by omega) (by omega)
      have hdl : (s.map.drop 1).length = 31 := by rw [List.length_drop, h32]
      have hhl : (headBytes s).length ≤ 29 := by unfold headBytes; simp only [List.length_append, List.length_cons, List.length_nil]; omega
      have ehd : catTo next xs i ++ putText s.name ++ put s.id ++ [if s.inv then 1 else 0] = catTo next xs i ++ headBytes s := by unfold headBytes; simp only [List.append_assoc]
      refine TT.skip ?_
      refine KT.seq ?_
      refine TT.seq ?_
      refine TT.block ?_
      refine TT.seq ?_
      refine TT.region ?_
      refine OT.pures hT 1 rfl ?_
      refine OT.load rfl rfl (Ld.slc hT rfl (by repeat (first | exact Has.one | apply Has.there)) rfl) rfl ?_
      refine OT.pures hT 1 rfl ?_
      refine OT.index hT rfl rfl rfl rfl hr.there.there (by omega) hy rfl (fun ad_29 hel_29 => ?_)
      refine OT.load rfl rfl (hel_29.ld_struct hT rfl) rfl ?_
      refine OT.alloc Try.zeroValue42 rfl rfl (fun b_5 => ?_)
      refine OT.store_all hT rfl rfl rfl rfl (by repeat (first | exact Pull.head | apply Pull.tail)) (by exact h35) rfl (ones_snap s) (.inl (Nat.le_refl _)) ?_
      refine OT.nil ?_
      refine KT.seq ?_
      refine TT.seq ?_
      refine TT.draw ([(b_5, blk (encSnap s) 42 (0, 0))] :: [(b_1, blk [.int .i64 next, .slice a0 xs.length c0] 24 (0, 0))] :: hs) mixed ?_
      refine AT.takes (fuel := 7) hT [0, 1, 5] (by kernel_rfl) (by kernel_rfl) rfl ?_
      refine AT.take (fuel := 6) hT 2 rfl rfl (by kernel_rfl) (by kernel_rfl) (by kernel_rfl) rfl (.load rfl (Ld.one hT rfl (by repeat (first | exact Has.one | apply Has.there)) rfl)) rfl ?_
      refine AT.take (fuel := 5) hT 6 rfl rfl (by kernel_rfl) (by kernel_rfl) (by kernel_rfl) rfl (.load rfl (Ld.one hT rfl (by repeat (first | exact Has.one | apply Has.there)) rfl)) rfl ?_
      refine AT.op (fuel := 4) 3 (by kernel_rfl) rfl (by repeat (first | exact Sel.refl _ | refine Sel.empty ?_ | refine Sel.pull (by repeat (first | exact Pull.head | apply Pull.tail)) ?_ | refine Sel.drop ?_)) ?_
      refine OT.call Try.call36 rfl rfl rfl rfl (ref_PutText (by omega)) ?_
      rintro v_34 hs_34 ⟨H34, rfl, ho34⟩
      refine OT.nil ?_
      refine KT.any ?_
      refine AT.op (fuel := 3) 4 (by kernel_rfl) rfl (by repeat (first | exact Sel.refl _ | refine Sel.empty ?_ | refine Sel.pull (by repeat (first | exact Pull.head | apply Pull.tail)) ?_ | refine Sel.drop ?_)) ?_
      refine OT.append hT el29 rfl rfl rfl rfl (by repeat (first | exact Pull.head | apply Pull.tail)) hO ho34.row (ones_B _) (by omega) rfl (fun v_35 H_35 ho_35 => ?_)
      refine OT.nil ?_
      refine KT.any ?_
      refine AT.op (fuel := 2) 7 (by kernel_rfl) rfl (by repeat (first | exact Sel.refl _ | refine Sel.empty ?_ | refine Sel.pull (by repeat (first | exact Pull.head | apply Pull.tail)) ?_ | refine Sel.drop ?_)) ?_
      refine OT.call Try.call35 rfl rfl rfl rfl (ref_Put (by omega) (by omega)) ?_
      rintro v_38 hs_38 ⟨H38, rfl, ho38⟩
      refine OT.nil ?_
      refine KT.any ?_
      refine AT.op (fuel := 1) 8 (by kernel_rfl) rfl (by repeat (first | exact Sel.refl _ | refine Sel.empty ?_ | refine Sel.pull (by repeat (first | exact Pull.head | apply Pull.tail)) ?_ | refine Sel.drop ?_)) ?_
      refine OT.append hT el29 rfl rfl rfl rfl (by repeat (first | exact Pull.head | apply Pull.tail)) ho_35 ho38.row (ones_B _) (by simp only [List.length_append]; omega) rfl (fun v_39 H_39 ho_39 => ?_)
      refine OT.nil ?_
      refine KT.any ?_
      refine AT.takes (fuel := 0) hT [9] (by kernel_rfl) (by kernel_rfl) rfl ?_
      refine AT.done (by kernel_rfl) (by repeat (first | exact Sel.refl _ | refine Sel.empty ?_ | refine Sel.pull (by repeat (first | exact Pull.head | apply Pull.tail)) ?_ | refine Sel.drop ?_)) ?_
      refine KT.seq ?_
      refine TT.seq ?_
      refine TT.region ?_
      refine OT.pures hT 1 rfl ?_
      refine OT.nil ?_
      refine KT.seq ?_
      refine TT.cut (ι := Int) (fun j => (j) = ((if s.inv then (1 : UInt8) else 0).toNat : Int)) (fun j => [(1, .pointer (some ⟨b_1, 0, none⟩)), (3, v_39), (4, .int .i64 (i : Nat)), (5, .pointer (some ⟨b_5, 0, none⟩)), (6, .int .u8 (j))]) (fun j => [(b_5, blk (encSnap s) 42 (0, 0))] :: [(b_1, blk [.int .i64 next, .slice a0 xs.length c0] 24 (0, 0))] :: H_39 :: hs) ?_ ?_
      ·
        refine TT.seq ?_
        refine TT.region ?_
        refine OT.pures hT 1 rfl ?_
        refine OT.load rfl rfl (Ld.one hT rfl (by repeat (first | exact Has.one | apply Has.there)) rfl) rfl ?_
        refine OT.nil ?_
        refine KT.seq ?_
        refine TT.cond rfl (fun c41 => ?_) (fun c41 => ?_)
        ·
          refine TT.region ?_
          refine OT.pures hT 1 rfl ?_
          refine OT.nil ?_
          refine KT.cut (1) ?_ (SubR.cons rfl (SubR.cons rfl (SubR.cons rfl (SubR.cons rfl (SubR.cons rfl (SubR.nil _)))))) (by repeat (first | exact Sel.refl _ | refine Sel.empty ?_ | refine Sel.pull (by repeat (first | exact Pull.head | apply Pull.tail)) ?_ | refine Sel.drop ?_))
          · rw [c41]; rfl
        ·
          refine TT.skip ?_
          refine KT.cut (0) ?_ (SubR.cons rfl (SubR.cons rfl (SubR.cons rfl (SubR.cons rfl (SubR.cons rfl (SubR.nil _)))))) (by repeat (first | exact Sel.refl _ | refine Sel.empty ?_ | refine Sel.pull (by repeat (first | exact Pull.head | apply Pull.tail)) ?_ | refine Sel.drop ?_))
          · rw [c41]; rfl
      ·
        rintro q hq
        show TT _ _ _ [(1, .pointer (some ⟨b_1, 0, none⟩)), (3, v_39), (4, .int .i64 (i : Nat)), (5, .pointer (some ⟨b_5, 0, none⟩)), (6, .int .u8 q)] ([(b_5, blk (encSnap s) 42 (0, 0))] :: [(b_1, blk [.int .i64 next, .slice a0 xs.length c0] 24 (0, 0))] :: H_39 :: hs)
        refine TT.seq ?_
        refine TT.region ?_
        refine OT.pures hT 2 rfl ?_
        refine OT.buildSlice (enc := Go.Sx.encB) (xs := [if s.inv then 1 else 0]) (xos := [.tmp 43]) el29 rfl rfl rfl rfl (by rw [hq]; rfl) (by simp [Value.cells]) (fun _ _ => rfl) rfl (by decide) rfl (fun v_44 H_44 ho_44 => ?_)
        refine OT.append hT el29 rfl rfl rfl rfl (by repeat (first | exact Pull.head | apply Pull.tail)) ho_39 ho_44.row rfl (by simp only [List.length_append, List.length_cons, List.length_nil]; omega) rfl (fun v_45 H_45 ho_45 => ?_)
        rw [ehd] at ho_45
        refine OT.pures hT 1 rfl ?_
        refine OT.nil ?_
        refine KT.seq ?_
        refine TT.seq ?_
        refine TT.region ?_
        refine OT.pures hT 1 rfl ?_
        refine OT.nil ?_
        refine KT.seq ?_
        refine TT.block ?_
        refine TT.loop (ι := Nat × Value × Chunk) (fun j => 1 ≤ (j.1) ∧ (j.1) ≤ 32 ∧ Own Go.Sx.encB 1 5 (j.2.1) (catTo next xs i ++ headBytes s ++ ((s.map.drop 1).take ((j.1) - 1)).map b8) (j.2.2)) (fun j => 32 - (j.1)) (fun j => [(1, .pointer (some ⟨b_1, 0, none⟩)), (3, (j.2.1)), (4, .int .i64 (i : Nat)), (5, .pointer (some ⟨b_5, 0, none⟩)), (7, .int .i64 ((j.1) : Nat))]) (fun j => [(b_5, blk (encSnap s) 42 (0, 0))] :: [(b_1, blk [.int .i64 next, .slice a0 xs.length c0] 24 (0, 0))] :: (j.2.2) :: hs) (1, v_45, H_45) ?_ (SubR.cons rfl (SubR.cons rfl (SubR.cons rfl (SubR.cons rfl (SubR.cons rfl (SubR.nil _)))))) (by repeat (first | exact Sel.refl _ | refine Sel.empty ?_ | refine Sel.pull (by repeat (first | exact Pull.head | apply Pull.tail)) ?_ | refine Sel.drop ?_)) ?_
        · dsimp only
          exact ⟨by omega, by omega, by simpa using ho_45⟩
        rintro ⟨j2, w2, K2⟩ hI
        dsimp only at hI
        obtain ⟨hj1, hj, hO2⟩ := hI
        show TT _ _ _ [(1, .pointer (some ⟨b_1, 0, none⟩)), (3, w2), (4, .int .i64 (i : Nat)), (5, .pointer (some ⟨b_5, 0, none⟩)), (7, .int .i64 (j2 : Nat))] ([(b_5, blk (encSnap s) 42 (0, 0))] :: [(b_1, blk [.int .i64 next, .slice a0 xs.length c0] 24 (0, 0))] :: K2 :: hs)
        have hlen2 := List.length_take_le (j2 - 1) (s.map.drop 1)
        refine TT.seq ?_
        refine TT.seq ?_
        refine TT.region ?_
        refine OT.pures hT 2 rfl ?_
        refine OT.nil ?_
        refine KT.seq ?_
        refine TT.cond rfl (fun c47 => ?_) (fun c47 => ?_)
        ·
          have c47 := of_decide_eq_true c47
          obtain ⟨n, hn⟩ := nth (l := s.map) (i := j2) (by omega)
          have hat : (s.map.drop 1)[j2 - 1]? = some n := by rw [List.getElem?_drop, show 1 + (j2 - 1) = j2 by omega]; exact hn
          refine TT.skip ?_
          refine KT.seq ?_
          refine TT.seq ?_
          refine TT.block ?_
          refine TT.region ?_
          refine OT.pures hT 3 rfl ?_
          refine OT.index_at hT rfl rfl rfl rfl (by omega) (by omega) rfl ?_
          refine OT.load rfl rfl (Ld.one hT rfl Has.one (snap_at hn)) rfl ?_
          refine OT.pures hT 1 rfl ?_
          refine OT.buildSlice (enc := Go.Sx.encB) (xs := [b8 n]) (xos := [.tmp 55]) el29 rfl rfl rfl rfl (by rw [b8_wrap]; rfl) (by simp [Value.cells]) (fun _ _ => rfl) rfl (by decide) rfl (fun v_56 H_56 ho_56 => ?_)
          refine OT.append hT el29 rfl rfl rfl rfl (by repeat (first | exact Pull.head | apply Pull.tail)) hO2 ho_56.row rfl (by simp only [List.length_append, List.length_map, List.length_cons, List.length_nil]; omega) rfl (fun v_57 H_57 ho_57 => ?_)
          refine OT.pures hT 1 rfl ?_
          refine OT.nil ?_
          refine KT.blk ?_
          refine KT.seq ?_
          refine TT.region ?_
          refine OT.pures hT 3 rfl ?_
          refine OT.nil ?_
          refine KT.loop (j2 + 1, v_57, H_57) ?_ ?_ (SubR.cons rfl (SubR.cons rfl (SubR.cons rfl (SubR.cons rfl (SubR.cons' rfl (by (try dsimp only); exact (int_eq (by rw [wrap_i64 (by omega) (by omega)]; omega))) (SubR.nil _)))))) (by repeat (first | exact Sel.refl _ | refine Sel.empty ?_ | refine Sel.pull (by repeat (first | exact Pull.head | apply Pull.tail)) ?_ | refine Sel.drop ?_))
          · dsimp only
            refine ⟨by omega, by omega, ?_⟩
            rw [show j2 + 1 - 1 = (j2 - 1) + 1 by omega, map_take_succ _ _ hat, ← List.append_assoc]
            exact ho_57
          · dsimp only
            omega
        ·
          have c47 := of_decide_eq_false c47
          refine TT.exit ?_
          refine XT.seq ?_
          refine XT.loop ?_
          refine XT.here ?_
          refine KT.blk ?_
          refine KT.seq ?_
          refine TT.region ?_
          refine OT.pures hT 3 rfl ?_
          refine OT.nil ?_
          obtain rfl : j2 = 32 := by omega
          refine KT.loop (i + 1, w2, K2) ?_ ?_ (SubR.cons rfl (SubR.cons rfl (SubR.cons' rfl (by (try dsimp only); exact (int_eq (by rw [wrap_i64 (by omega) (by omega)]; omega))) (SubR.nil _)))) (by repeat (first | exact Sel.refl _ | refine Sel.empty ?_ | refine Sel.pull (by repeat (first | exact Pull.head | apply Pull.tail)) ?_ | refine Sel.drop ?_))
          · dsimp only
            refine ⟨by omega, ?_⟩
            rw [catTo_succ hy, ← headBytes_map, ← List.append_assoc]
            rw [List.take_of_length_le (by omega)] at hO2
            exact hO2
          · dsimp only
            omega
    ·
      have c23 := of_decide_eq_false c23
      rw [catTo_all (by omega)] at hO
      have hcl := catBytes_length hmay hr.1
      refine TT.exit ?_
      refine XT.seq ?_
      refine XT.loop ?_
      refine XT.here ?_
      refine KT.seq ?_
      refine TT.seq ?_
      refine TT.region ?_
      refine OT.pures hT 1 rfl ?_
      refine OT.call Try.call28 rfl rfl rfl rfl (ref_Whole hO.row.there (by omega)) ?_
      rintro v_59 hs_59 ⟨H59, rfl, ho59⟩
      refine OT.pures hT 1 rfl ?_
      refine OT.nil ?_
      refine KT.seq ?_
      refine TT.ret ?_
      refine RT.of (rs := [.tmp 2]) [_] (H59 :: hs) rfl (.tmp rfl .nil) (by repeat (first | exact Sel.refl _ | refine Sel.empty ?_ | refine Sel.pull (by repeat (first | exact Pull.head | apply Pull.tail)) ?_ | refine Sel.drop ?_)) ?_
      dsimp only [one]
      have e : catBytesR next xs = whole (catBytes next xs) := by unfold catBytesR; rw [if_pos hrm]
      rw [e]
      exact ⟨_, rfl, ho59⟩

end Go.Proofs.Ytpijialhhdpobaa.Sx
