/- Several texts in one. Snapshots come and go: what slices.Clone, slices.Delete, the program's Add and Drop compute. Printed by a program of ours off the loaded program and our notes; Lean checks it. Images as bytes: what the program's change does. Printed by a program of ours off the loaded program and our notes; Lean checks it. -/
import Derived.Test.YtnhkgchcdbideaaLC
import Derived.Test.YtnhkgchcdbideaaLE
import Derived.Test.YtnhkgchcdbideaaLB

section
namespace Go.Proofs.Ytnhkgchcdbideaa.Sx
open Go Go.Sx Go.Pl
variable [Outer]

set_option maxHeartbeats 1000000 in
set_option maxRecDepth 100000 in
theorem sl_Clone {v : Value} {xs : List Snap} {hs : List Chunk} (hr : Row encSnap 35 hs v xs) (hl : xs.length ≤ 1073741824) : Fun Try.prog 35 [v] hs (fun v' hs' => ∃ H', hs' = H' :: hs ∧ Own encSnap 35 45 v' xs H') := by
  refine Fun.enter 8 Try.func35 rfl Try.ntmps35 rfl ?_
  obtain ⟨a0, c0, hv⟩ := hr.len
  subst hv
  refine TT.seq ?_
  refine TT.region ?_
  refine OT.pures hT 1 rfl ?_
  refine OT.nil ?_
  refine KT.seq ?_
  refine TT.seq ?_
  refine TT.seq ?_
  refine TT.region ?_
  refine OT.pures hT 2 rfl ?_
  refine OT.nil ?_
  refine KT.seq ?_
  refine TT.cond rfl (fun c4 => ?_) (fun c4 => ?_)
  ·
    have hx : xs = [] := by
      rcases hr.2 with ⟨_, h⟩ | ⟨b, o, cap, cs, t, fr, h, _⟩
      · exact h
      · injection h with h; rw [h] at c4; cases c4
    subst hx
    refine TT.seq ?_
    refine TT.region ?_
    refine OT.pures hT 1 rfl ?_
    refine OT.nil ?_
    refine KT.seq ?_
    refine TT.ret ?_
    refine RT.of (rs := [.tmp 2]) [_] ([] :: hs) rfl (.tmp rfl .nil) (by repeat (first | exact Sel.refl _ | refine Sel.empty ?_ | refine Sel.pull (by repeat (first | exact Pull.head | apply Pull.tail)) ?_ | refine Sel.drop ?_)) ?_
    dsimp only [one]
    exact ⟨[], rfl, Own.nil⟩
  ·
    refine TT.skip ?_
    refine KT.seq ?_
    refine TT.seq ?_
    refine TT.region ?_
    refine OT.buildSlice (enc := encSnap) (xs := ([] : List Snap)) (xos := []) el29 rfl rfl rfl rfl rfl (by intro v hv; cases hv) (by intro v hv; cases hv) rfl (by decide) rfl (fun v_5 H_5 ho_5 => ?_)
    refine OT.pures hT 1 rfl ?_
    refine OT.append hT el29 rfl rfl rfl rfl (by repeat (first | exact Pull.head | apply Pull.tail)) ho_5 hr.there (ones_snaps xs) (by simp only [List.length_nil]; omega) rfl (fun v_7 H_7 ho_7 => ?_)
    refine OT.pures hT 1 rfl ?_
    refine OT.nil ?_
    refine KT.seq ?_
    refine TT.ret ?_
    refine RT.of (rs := [.tmp 2]) [_] (H_7 :: hs) rfl (.tmp rfl .nil) (by repeat (first | exact Sel.refl _ | refine Sel.empty ?_ | refine Sel.pull (by repeat (first | exact Pull.head | apply Pull.tail)) ?_ | refine Sel.drop ?_)) ?_
    dsimp only [one]
    exact ⟨_, rfl, ho_7⟩

set_option maxHeartbeats 1000000 in
set_option maxRecDepth 100000 in
theorem sl_Delete {v : Value} {xs : List Snap} {i j : Nat} {H : Chunk} {r : List Chunk} (ho : Own encSnap 35 45 v xs H) (hij : i ≤ j) (hj : j ≤ xs.length) (hl : xs.length ≤ 1073741824) : Fun Try.prog 60 [v, .int .i64 (i : Nat), .int .i64 (j : Nat)] (H :: r) (fun v' hs' => ∃ H', hs' = H' :: r ∧ Own encSnap 35 45 v' (xs.take i ++ xs.drop j) H') := by
  refine Fun.enter 33 Try.func60 rfl Try.ntmps60 rfl ?_
  obtain ⟨a0, c0, hv⟩ := (ho.row (hs := r)).len
  subst hv
  have hc := ho.cap.2
  have hlt : (xs.take i).length = i := by rw [List.length_take]; omega
  have hld : (xs.drop j).length = xs.length - j := List.length_drop
  refine TT.seq ?_
  refine TT.region ?_
  refine OT.pures hT 1 rfl ?_
  refine OT.nil ?_
  refine KT.seq ?_
  refine TT.seq ?_
  refine TT.region ?_
  refine OT.pures hT 5 rfl ?_
  refine OT.slice3 i j xs.length hT rfl rfl rfl ho.row rfl rfl rfl (by omega) (by omega) (by omega) rfl (fun v_13 => ?_)
  refine OT.nil ?_
  refine KT.seq ?_
  refine TT.seq ?_
  refine TT.seq ?_
  refine TT.region ?_
  refine OT.pures hT 3 rfl ?_
  refine OT.nil ?_
  refine KT.seq ?_
  refine TT.cond rfl (fun c16 => ?_) (fun c16 => ?_)
  ·
    have c16 : (i : Int) = j := by simpa using c16
    obtain rfl : i = j := by omega
    refine TT.seq ?_
    refine TT.region ?_
    refine OT.pures hT 2 rfl ?_
    refine OT.nil ?_
    refine KT.seq ?_
    refine TT.ret ?_
    refine RT.of (rs := [.tmp 6]) [_] (H :: r) rfl (.tmp rfl .nil) (by repeat (first | exact Sel.refl _ | refine Sel.empty ?_ | refine Sel.pull (by repeat (first | exact Pull.head | apply Pull.tail)) ?_ | refine Sel.drop ?_)) ?_
    dsimp only [one]
    exact ⟨H, rfl, by rw [List.take_append_drop]; exact ho⟩
  ·
    refine TT.skip ?_
    refine KT.seq ?_
    refine TT.seq ?_
    refine TT.region ?_
    refine OT.pures hT 3 rfl ?_
    refine OT.nil ?_
    refine KT.seq ?_
    refine TT.seq ?_
    refine TT.draw (r) mixed ?_
    refine AT.takes (fuel := 4) hT [0, 1, 3, 4] (by kernel_rfl) (by kernel_rfl) rfl ?_
    refine AT.all (fuel := 3) [2, 5] (by kernel_rfl) (by decide) (by repeat (first | exact Sel.refl _ | refine Sel.empty ?_ | refine Sel.pull (by repeat (first | exact Pull.head | apply Pull.tail)) ?_ | refine Sel.drop ?_)) ?_
    intro i hi
    simp only [List.mem_cons, List.not_mem_nil, or_false] at hi
    rcases hi with rfl | rfl
    ·
      refine ⟨_, rfl, ?_⟩
      refine OT.slice_to i hT rfl rfl rfl rfl ho (by omega) rfl (fun ho_22 => ?_)
      refine OT.nil ?_
      refine KT.any ?_
      refine AT.op (fuel := 2) 5 (by kernel_rfl) rfl (by repeat (first | exact Sel.refl _ | refine Sel.empty ?_ | refine Sel.pull (by repeat (first | exact Pull.head | apply Pull.tail)) ?_ | refine Sel.drop ?_)) ?_
      refine OT.slice j xs.length hT rfl rfl rfl rfl rfl ho.row (.inr ⟨_, rfl⟩) (.inl ⟨rfl, rfl⟩) (by omega) (by omega) rfl (fun v_25 hv_25 => ?_)
      refine OT.nil ?_
      refine KT.any ?_
      refine AT.op (fuel := 1) 6 (by kernel_rfl) rfl (by repeat (first | exact Sel.refl _ | refine Sel.empty ?_ | refine Sel.pull (by repeat (first | exact Pull.head | apply Pull.tail)) ?_ | refine Sel.drop ?_)) ?_
      refine OT.append_room hT el29 rfl rfl rfl rfl (by repeat (first | exact Pull.head | apply Pull.tail)) hlt.symm ho_22 hv_25 (ones_snaps _) (by rw [hlt, List.take_length, hld]; omega) (by rw [List.take_length, hld]; omega) rfl (fun H_26 ho_26 => ?_)
      refine OT.nil ?_
      refine KT.any ?_
      refine AT.takes (fuel := 0) hT [7] (by kernel_rfl) (by kernel_rfl) rfl ?_
      refine AT.done (by kernel_rfl) (by repeat (first | exact Sel.refl _ | refine Sel.empty ?_ | refine Sel.pull (by repeat (first | exact Pull.head | apply Pull.tail)) ?_ | refine Sel.drop ?_)) ?_
      refine KT.seq ?_
      refine TT.seq ?_
      refine TT.region ?_
      refine OT.pures hT 4 rfl ?_
      refine OT.slice_val (i + ((xs.take xs.length).drop j).length) xs.length hT rfl rfl rfl rfl rfl (.inr ⟨_, rfl⟩) (.inr ⟨_, rfl⟩) (by rw [List.take_length, hld]; omega) hc rfl ?_
      refine OT.clear_spare el29 Try.zeroValue45 rfl rfl (by rw [List.length_append, hlt]) rfl rfl (by repeat (first | exact Pull.head | apply Pull.tail)) ho_26 (by rw [List.take_length, hld]; omega) hc (fun H_c ho_c => ?_)
      refine OT.nil ?_
      refine KT.seq ?_
      refine TT.seq ?_
      refine TT.region ?_
      refine OT.pures hT 2 rfl ?_
      refine OT.nil ?_
      refine KT.seq ?_
      refine TT.ret ?_
      refine RT.of (rs := [.tmp 6]) [_] (H_c :: r) rfl (.tmp rfl .nil) (by repeat (first | exact Sel.refl _ | refine Sel.empty ?_ | refine Sel.pull (by repeat (first | exact Pull.head | apply Pull.tail)) ?_ | refine Sel.drop ?_)) ?_
      dsimp only [one]
      exact ⟨_, rfl, by rw [List.take_length] at ho_c ⊢; exact ho_c⟩
    ·
      refine ⟨_, rfl, ?_⟩
      refine OT.slice j xs.length hT rfl rfl rfl rfl rfl ho.row (.inr ⟨_, rfl⟩) (.inl ⟨rfl, rfl⟩) (by omega) (by omega) rfl (fun v_25 hv_25 => ?_)
      refine OT.nil ?_
      refine KT.any ?_
      refine AT.op (fuel := 2) 2 (by kernel_rfl) rfl (by repeat (first | exact Sel.refl _ | refine Sel.empty ?_ | refine Sel.pull (by repeat (first | exact Pull.head | apply Pull.tail)) ?_ | refine Sel.drop ?_)) ?_
      refine OT.slice_to i hT rfl rfl rfl rfl ho (by omega) rfl (fun ho_22 => ?_)
      refine OT.nil ?_
      refine KT.any ?_
      refine AT.op (fuel := 1) 6 (by kernel_rfl) rfl (by repeat (first | exact Sel.refl _ | refine Sel.empty ?_ | refine Sel.pull (by repeat (first | exact Pull.head | apply Pull.tail)) ?_ | refine Sel.drop ?_)) ?_
      refine OT.append_room hT el29 rfl rfl rfl rfl (by repeat (first | exact Pull.head | apply Pull.tail)) hlt.symm ho_22 hv_25 (ones_snaps _) (by rw [hlt, List.take_length, hld]; omega) (by rw [List.take_length, hld]; omega) rfl (fun H_26 ho_26 => ?_)
      refine OT.nil ?_
      refine KT.any ?_
      refine AT.takes (fuel := 0) hT [7] (by kernel_rfl) (by kernel_rfl) rfl ?_
      refine AT.done (by kernel_rfl) (by repeat (first | exact Sel.refl _ | refine Sel.empty ?_ | refine Sel.pull (by repeat (first | exact Pull.head | apply Pull.tail)) ?_ | refine Sel.drop ?_)) ?_
      refine KT.seq ?_
      refine TT.seq ?_
      refine TT.region ?_
      refine OT.pures hT 4 rfl ?_
      refine OT.slice_val (i + ((xs.take xs.length).drop j).length) xs.length hT rfl rfl rfl rfl rfl (.inr ⟨_, rfl⟩) (.inr ⟨_, rfl⟩) (by rw [List.take_length, hld]; omega) hc rfl ?_
      refine OT.clear_spare el29 Try.zeroValue45 rfl rfl (by rw [List.length_append, hlt]) rfl rfl (by repeat (first | exact Pull.head | apply Pull.tail)) ho_26 (by rw [List.take_length, hld]; omega) hc (fun H_c ho_c => ?_)
      refine OT.nil ?_
      refine KT.seq ?_
      refine TT.seq ?_
      refine TT.region ?_
      refine OT.pures hT 2 rfl ?_
      refine OT.nil ?_
      refine KT.seq ?_
      refine TT.ret ?_
      refine RT.of (rs := [.tmp 6]) [_] (H_c :: r) rfl (.tmp rfl .nil) (by repeat (first | exact Sel.refl _ | refine Sel.empty ?_ | refine Sel.pull (by repeat (first | exact Pull.head | apply Pull.tail)) ?_ | refine Sel.drop ?_)) ?_
      dsimp only [one]
      exact ⟨_, rfl, by rw [List.take_length] at ho_c ⊢; exact ho_c⟩

set_option maxHeartbeats 4000000 in
set_option maxRecDepth 100000 in
theorem cat_Add {next : Int} {v : Value} {xs : List Snap} {nm : ByteArray} {hs : List Chunk} (hr : Row encSnap 35 hs v xs) (hl : xs.length ≤ 1073741824) (h0 : -9223372036854775808 ≤ next) : Fun Try.prog 11 [.agg ⟨[.int .i64 next, v]⟩, .string nm] hs (fun v' hs' => ∃ w H', v' = .tuple ⟨[.agg ⟨[.int .i64 (addC next xs nm).1.1, w]⟩, .int .i64 (addC next xs nm).2]⟩ ∧ hs' = H' :: hs ∧ Own encSnap 35 45 w (addC next xs nm).1.2 H') := by
  refine Fun.enter 43 Try.func11 rfl Try.ntmps11 rfl ?_
  obtain ⟨a0, c0, hv⟩ := hr.len
  subst hv
  obtain ⟨res, hres⟩ : ∃ r, addC next xs nm = r := ⟨_, rfl⟩
  rw [hres]
  unfold addC at hres
  refine TT.seq ?_
  refine TT.region ?_
  refine OT.box rfl rfl rfl (fun b_2 => ?_)
  refine OT.alloc Try.zeroValue31 rfl rfl (fun b_4 => ?_)
  refine OT.pures hT 1 rfl ?_
  refine OT.nil ?_
  refine KT.seq ?_
  refine TT.seq ?_
  refine TT.block ?_
  refine TT.seq ?_
  refine TT.region ?_
  refine OT.pures hT 1 rfl ?_
  refine OT.call Try.call34 rfl rfl rfl rfl (cat_Name) ?_
  rintro v_9 hs_9 ⟨rfl, rfl⟩
  refine OT.pures hT 2 rfl ?_
  refine OT.nil ?_
  refine KT.seq ?_
  refine TT.cond rfl (fun c7 => ?_) (fun c7 => ?_)
  ·
    have c7 : nameB nm = false := by simpa using c7
    rw [if_pos c7] at hres
    refine TT.seq ?_
    refine TT.region ?_
    refine OT.build (cs := [.int .i64 0, .slice none 0 0]) hT rfl Try.zeroValue31 rfl rfl rfl rfl ?_
    refine OT.store_all hT rfl rfl rfl rfl (by repeat (first | exact Pull.head | apply Pull.tail)) rfl rfl rfl (.inl (Nat.le_refl _)) ?_
    refine OT.pures hT 1 rfl ?_
    refine OT.nil ?_
    refine KT.seq ?_
    refine TT.ret ?_
    refine RT.of (rs := [.cell 4 31, .tmp 5]) [_, _] ([] :: hs) rfl (.cell rfl (Ld.struct_all hT rfl (by repeat (first | exact Has.one | apply Has.there)) rfl) (.tmp rfl .nil)) (by repeat (first | exact Sel.refl _ | refine Sel.empty ?_ | refine Sel.pull (by repeat (first | exact Pull.head | apply Pull.tail)) ?_ | refine Sel.drop ?_)) ?_
    dsimp only [one]
    rw [← hres]
    exact ⟨_, [], rfl, rfl, Own.nil⟩
  ·
    have c7 : nameB nm = true := by simpa using c7
    rw [if_neg (by rw [c7]; decide)] at hres
    refine TT.seq ?_
    refine TT.region ?_
    refine OT.load rfl rfl (Ld.struct_all hT rfl (by repeat (first | exact Has.one | apply Has.there)) rfl) rfl ?_
    refine OT.pures hT 1 rfl ?_
    refine OT.call Try.call31 rfl rfl rfl rfl (cat_Find hr.there.there hl) ?_
    rintro v_15 hs_15 ⟨rfl, rfl⟩
    refine OT.pures hT 2 rfl ?_
    refine OT.nil ?_
    refine KT.seq ?_
    refine TT.cond rfl (fun c12 => ?_) (fun c12 => ?_)
    ·
      have c12 := of_decide_eq_true c12
      rw [if_pos c12] at hres
      refine TT.seq ?_
      refine TT.region ?_
      refine OT.build (cs := [.int .i64 0, .slice none 0 0]) hT rfl Try.zeroValue31 rfl rfl rfl rfl ?_
      refine OT.store_all hT rfl rfl rfl rfl (by repeat (first | exact Pull.head | apply Pull.tail)) rfl rfl rfl (.inl (Nat.le_refl _)) ?_
      refine OT.pures hT 1 rfl ?_
      refine OT.nil ?_
      refine KT.seq ?_
      refine TT.ret ?_
      refine RT.of (rs := [.cell 4 31, .tmp 5]) [_, _] ([] :: hs) rfl (.cell rfl (Ld.struct_all hT rfl (by repeat (first | exact Has.one | apply Has.there)) rfl) (.tmp rfl .nil)) (by repeat (first | exact Sel.refl _ | refine Sel.empty ?_ | refine Sel.pull (by repeat (first | exact Pull.head | apply Pull.tail)) ?_ | refine Sel.drop ?_)) ?_
      dsimp only [one]
      rw [← hres]
      exact ⟨_, [], rfl, rfl, Own.nil⟩
    ·
      have c12 := of_decide_eq_false c12
      rw [if_neg c12] at hres
      refine TT.seq ?_
      refine TT.region ?_
      refine OT.pures hT 1 rfl ?_
      refine OT.load rfl rfl (Ld.slc hT rfl (by repeat (first | exact Has.one | apply Has.there)) rfl) rfl ?_
      refine OT.pures hT 3 rfl ?_
      refine OT.split 23 rfl (fun g23 => ?_) (fun g23 => ?_)
      ·
        have g23 := of_decide_eq_true g23
        rw [if_pos (.inl (by omega))] at hres
        refine OT.pures hT 5 rfl ?_
        refine OT.nil ?_
        refine KT.seq ?_
        refine TT.cond_true rfl ?_
        refine TT.seq ?_
        refine TT.region ?_
        refine OT.build (cs := [.int .i64 0, .slice none 0 0]) hT rfl Try.zeroValue31 rfl rfl rfl rfl ?_
        refine OT.store_all hT rfl rfl rfl rfl (by repeat (first | exact Pull.head | apply Pull.tail)) rfl rfl rfl (.inl (Nat.le_refl _)) ?_
        refine OT.pures hT 1 rfl ?_
        refine OT.nil ?_
        refine KT.seq ?_
        refine TT.ret ?_
        refine RT.of (rs := [.cell 4 31, .tmp 5]) [_, _] ([] :: hs) rfl (.cell rfl (Ld.struct_all hT rfl (by repeat (first | exact Has.one | apply Has.there)) rfl) (.tmp rfl .nil)) (by repeat (first | exact Sel.refl _ | refine Sel.empty ?_ | refine Sel.pull (by repeat (first | exact Pull.head | apply Pull.tail)) ?_ | refine Sel.drop ?_)) ?_
        dsimp only [one]
        rw [← hres]
        exact ⟨_, [], rfl, rfl, Own.nil⟩
      ·
        have g23 := of_decide_eq_false g23
        refine OT.pures hT 1 rfl ?_
        refine OT.load rfl rfl (Ld.one hT rfl (by repeat (first | exact Has.one | apply Has.there)) rfl) rfl ?_
        refine OT.pures hT 3 rfl ?_
        refine OT.nil ?_
        refine KT.seq ?_
        refine TT.cond rfl (fun c18 => ?_) (fun c18 => ?_)
        ·
          have c18 := of_decide_eq_true c18
          rw [if_pos (.inr c18)] at hres
          refine TT.seq ?_
          refine TT.region ?_
          refine OT.build (cs := [.int .i64 0, .slice none 0 0]) hT rfl Try.zeroValue31 rfl rfl rfl rfl ?_
          refine OT.store_all hT rfl rfl rfl rfl (by repeat (first | exact Pull.head | apply Pull.tail)) rfl rfl rfl (.inl (Nat.le_refl _)) ?_
          refine OT.pures hT 1 rfl ?_
          refine OT.nil ?_
          refine KT.seq ?_
          refine TT.ret ?_
          refine RT.of (rs := [.cell 4 31, .tmp 5]) [_, _] ([] :: hs) rfl (.cell rfl (Ld.struct_all hT rfl (by repeat (first | exact Has.one | apply Has.there)) rfl) (.tmp rfl .nil)) (by repeat (first | exact Sel.refl _ | refine Sel.empty ?_ | refine Sel.pull (by repeat (first | exact Pull.head | apply Pull.tail)) ?_ | refine Sel.drop ?_)) ?_
          dsimp only [one]
          rw [← hres]
          exact ⟨_, [], rfl, rfl, Own.nil⟩
        ·
          have c18 := of_decide_eq_false c18
          rw [if_neg (by omega)] at hres
          refine TT.skip ?_
          refine KT.blk ?_
          refine KT.seq ?_
          refine TT.seq ?_
          refine TT.region ?_
          refine OT.pures hT 2 rfl ?_
          refine OT.load rfl rfl (Ld.one hT rfl (by repeat (first | exact Has.one | apply Has.there)) rfl) rfl ?_
          refine OT.pures hT 1 rfl ?_
          refine OT.reg 32 rfl (int_eq (wrap_i64 (n := next + 1) (by omega) (by omega))) ?_
          refine OT.build (cs := (encSnap (newSnap nm (next + 1)))) hT rfl Try.zeroValue45 rfl rfl rfl rfl ?_
          refine OT.alloc Try.zeroValue45 rfl rfl (fun b_6 => ?_)
          refine OT.store_all hT rfl rfl rfl rfl (by repeat (first | exact Pull.head | apply Pull.tail)) rfl rfl rfl (.inl (Nat.le_refl _)) ?_
          refine OT.nil ?_
          refine KT.seq ?_
          refine TT.seq ?_
          refine TT.draw ([(b_6, blk (encSnap (newSnap nm (next + 1))) 45 (0, 0))] :: [(b_2, blk [.int .i64 next, .slice a0 xs.length c0] 31 (0, 0))] :: hs) mixed ?_
          refine AT.takes (fuel := 9) hT [0, 2] (by kernel_rfl) (by kernel_rfl) rfl ?_
          refine AT.take (fuel := 8) hT 1 rfl rfl (by kernel_rfl) (by kernel_rfl) (by kernel_rfl) rfl (.load rfl (Ld.one hT rfl (by repeat (first | exact Has.one | apply Has.there)) rfl)) rfl ?_
          refine AT.take (fuel := 7) hT 3 rfl rfl (by kernel_rfl) (by kernel_rfl) (by kernel_rfl) rfl (.load rfl (Ld.slc hT rfl (by repeat (first | exact Has.one | apply Has.there)) rfl)) rfl ?_
          refine AT.take (fuel := 6) hT 5 rfl rfl (by kernel_rfl) (by kernel_rfl) (by kernel_rfl) rfl (.load rfl (Ld.struct_all hT rfl Has.one rfl)) rfl ?_
          refine AT.all (fuel := 5) [4, 6] (by kernel_rfl) (by decide) (by repeat (first | exact Sel.refl _ | refine Sel.empty ?_ | refine Sel.pull (by repeat (first | exact Pull.head | apply Pull.tail)) ?_ | refine Sel.drop ?_)) ?_
          intro i hi
          simp only [List.mem_cons, List.not_mem_nil, or_false] at hi
          rcases hi with rfl | rfl
          ·
            refine ⟨_, rfl, ?_⟩
            refine OT.call Try.call35 rfl rfl rfl rfl (sl_Clone hr.there.there.there hl) ?_
            rintro v_38 hs_38 ⟨H38, rfl, ho38⟩
            refine OT.nil ?_
            refine KT.any ?_
            refine AT.op (fuel := 4) 6 (by kernel_rfl) rfl (by repeat (first | exact Sel.refl _ | refine Sel.empty ?_ | refine Sel.pull (by repeat (first | exact Pull.head | apply Pull.tail)) ?_ | refine Sel.drop ?_)) ?_
            refine OT.buildSlice (enc := encSnap) (xs := [newSnap nm (next + 1)]) (xos := [.tmp 39]) el29 rfl rfl rfl rfl rfl (by intro v hv; simp only [List.mem_singleton] at hv; subst hv; rfl) (by intro x hx; simp only [List.mem_singleton] at hx; subst hx; rfl) rfl (by decide) rfl (fun v_40 H_40 ho_40 => ?_)
            refine OT.nil ?_
            refine KT.any ?_
            refine AT.op (fuel := 3) 7 (by kernel_rfl) rfl (by repeat (first | exact Sel.refl _ | refine Sel.empty ?_ | refine Sel.pull (by repeat (first | exact Pull.head | apply Pull.tail)) ?_ | refine Sel.drop ?_)) ?_
            refine OT.append hT el29 rfl rfl rfl rfl (by repeat (first | exact Pull.head | apply Pull.tail)) ho38 (by first | exact ho_40.row | exact ho_40.row.there) (ones_snaps _) (by simp only [List.length_cons, List.length_nil]; omega) rfl (fun v_41 H_41 ho_41 => ?_)
            obtain ⟨a_41, c_41, hv41⟩ := (ho_41.row (hs := hs)).len
            subst hv41
            refine OT.nil ?_
            refine KT.any ?_
            refine AT.op (fuel := 2) 8 (by kernel_rfl) rfl (by repeat (first | exact Sel.refl _ | refine Sel.empty ?_ | refine Sel.pull (by repeat (first | exact Pull.head | apply Pull.tail)) ?_ | refine Sel.drop ?_)) ?_
            refine OT.build (cs := [.int .i64 (next + 1), .slice a_41 (xs ++ [newSnap nm (next + 1)]).length c_41]) hT rfl Try.zeroValue31 rfl rfl rfl rfl ?_
            refine OT.nil ?_
            refine KT.any ?_
            refine AT.op (fuel := 1) 9 (by kernel_rfl) rfl (by repeat (first | exact Sel.refl _ | refine Sel.empty ?_ | refine Sel.pull (by repeat (first | exact Pull.head | apply Pull.tail)) ?_ | refine Sel.drop ?_)) ?_
            refine OT.store_all hT rfl rfl rfl rfl (by repeat (first | exact Pull.head | apply Pull.tail)) rfl rfl rfl (.inl (Nat.le_refl _)) ?_
            refine OT.nil ?_
            refine KT.any ?_
            refine AT.takes (fuel := 0) hT [10] (by kernel_rfl) (by kernel_rfl) rfl ?_
            refine AT.done (by kernel_rfl) (by repeat (first | exact Sel.refl _ | refine Sel.empty ?_ | refine Sel.pull (by repeat (first | exact Pull.head | apply Pull.tail)) ?_ | refine Sel.drop ?_)) ?_
            refine KT.seq ?_
            refine TT.ret ?_
            refine RT.of (rs := [.cell 4 31, .tmp 5]) [_, _] (H_41 :: hs) rfl (.cell rfl (Ld.struct_all hT rfl (by repeat (first | exact Has.one | apply Has.there)) rfl) (.tmp rfl .nil)) (by repeat (first | exact Sel.refl _ | refine Sel.empty ?_ | refine Sel.pull (by repeat (first | exact Pull.head | apply Pull.tail)) ?_ | refine Sel.drop ?_)) ?_
            dsimp only [one]
            rw [← hres]
            exact ⟨_, _, rfl, rfl, ho_41⟩
          ·
            refine ⟨_, rfl, ?_⟩
            refine OT.buildSlice (enc := encSnap) (xs := [newSnap nm (next + 1)]) (xos := [.tmp 39]) el29 rfl rfl rfl rfl rfl (by intro v hv; simp only [List.mem_singleton] at hv; subst hv; rfl) (by intro x hx; simp only [List.mem_singleton] at hx; subst hx; rfl) rfl (by decide) rfl (fun v_40 H_40 ho_40 => ?_)
            refine OT.nil ?_
            refine KT.any ?_
            refine AT.op (fuel := 4) 4 (by kernel_rfl) rfl (by repeat (first | exact Sel.refl _ | refine Sel.empty ?_ | refine Sel.pull (by repeat (first | exact Pull.head | apply Pull.tail)) ?_ | refine Sel.drop ?_)) ?_
            refine OT.call Try.call35 rfl rfl rfl rfl (sl_Clone hr.there.there.there.there hl) ?_
            rintro v_38 hs_38 ⟨H38, rfl, ho38⟩
            refine OT.nil ?_
            refine KT.any ?_
            refine AT.op (fuel := 3) 7 (by kernel_rfl) rfl (by repeat (first | exact Sel.refl _ | refine Sel.empty ?_ | refine Sel.pull (by repeat (first | exact Pull.head | apply Pull.tail)) ?_ | refine Sel.drop ?_)) ?_
            refine OT.append hT el29 rfl rfl rfl rfl (by repeat (first | exact Pull.head | apply Pull.tail)) ho38 (by first | exact ho_40.row | exact ho_40.row.there) (ones_snaps _) (by simp only [List.length_cons, List.length_nil]; omega) rfl (fun v_41 H_41 ho_41 => ?_)
            obtain ⟨a_41, c_41, hv41⟩ := (ho_41.row (hs := hs)).len
            subst hv41
            refine OT.nil ?_
            refine KT.any ?_
            refine AT.op (fuel := 2) 8 (by kernel_rfl) rfl (by repeat (first | exact Sel.refl _ | refine Sel.empty ?_ | refine Sel.pull (by repeat (first | exact Pull.head | apply Pull.tail)) ?_ | refine Sel.drop ?_)) ?_
            refine OT.build (cs := [.int .i64 (next + 1), .slice a_41 (xs ++ [newSnap nm (next + 1)]).length c_41]) hT rfl Try.zeroValue31 rfl rfl rfl rfl ?_
            refine OT.nil ?_
            refine KT.any ?_
            refine AT.op (fuel := 1) 9 (by kernel_rfl) rfl (by repeat (first | exact Sel.refl _ | refine Sel.empty ?_ | refine Sel.pull (by repeat (first | exact Pull.head | apply Pull.tail)) ?_ | refine Sel.drop ?_)) ?_
            refine OT.store_all hT rfl rfl rfl rfl (by repeat (first | exact Pull.head | apply Pull.tail)) rfl rfl rfl (.inl (Nat.le_refl _)) ?_
            refine OT.nil ?_
            refine KT.any ?_
            refine AT.takes (fuel := 0) hT [10] (by kernel_rfl) (by kernel_rfl) rfl ?_
            refine AT.done (by kernel_rfl) (by repeat (first | exact Sel.refl _ | refine Sel.empty ?_ | refine Sel.pull (by repeat (first | exact Pull.head | apply Pull.tail)) ?_ | refine Sel.drop ?_)) ?_
            refine KT.seq ?_
            refine TT.ret ?_
            refine RT.of (rs := [.cell 4 31, .tmp 5]) [_, _] (H_41 :: hs) rfl (.cell rfl (Ld.struct_all hT rfl (by repeat (first | exact Has.one | apply Has.there)) rfl) (.tmp rfl .nil)) (by repeat (first | exact Sel.refl _ | refine Sel.empty ?_ | refine Sel.pull (by repeat (first | exact Pull.head | apply Pull.tail)) ?_ | refine Sel.drop ?_)) ?_
            dsimp only [one]
            rw [← hres]
            exact ⟨_, _, rfl, rfl, ho_41⟩

set_option maxHeartbeats 1000000 in
set_option maxRecDepth 100000 in
theorem cat_Drop {next : Int} {v : Value} {xs : List Snap} {nm : ByteArray} {hs : List Chunk} (hr : Row encSnap 35 hs v xs) (hl : xs.length ≤ 1073741824) : Fun Try.prog 30 [.agg ⟨[.int .i64 next, v]⟩, .string nm] hs (fun v' hs' => ∃ w H', v' = .tuple ⟨[.agg ⟨[.int .i64 (dropC next xs nm).1.1, w]⟩, .int .i64 (dropC next xs nm).2]⟩ ∧ hs' = H' :: hs ∧ Own encSnap 35 45 w (dropC next xs nm).1.2 H') := by
  refine Fun.enter 23 Try.func30 rfl Try.ntmps30 rfl ?_
  obtain ⟨a0, c0, hv⟩ := hr.len
  subst hv
  have hf := findAt_lt (named nm) xs 0
  obtain ⟨res, hres⟩ : ∃ r, dropC next xs nm = r := ⟨_, rfl⟩
  rw [hres]
  unfold dropC at hres
  refine TT.seq ?_
  refine TT.region ?_
  refine OT.box rfl rfl rfl (fun b_2 => ?_)
  refine OT.alloc Try.zeroValue31 rfl rfl (fun b_4 => ?_)
  refine OT.pures hT 1 rfl ?_
  refine OT.nil ?_
  refine KT.seq ?_
  refine TT.seq ?_
  refine TT.region ?_
  refine OT.load rfl rfl (Ld.struct_all hT rfl (by repeat (first | exact Has.one | apply Has.there)) rfl) rfl ?_
  refine OT.pures hT 1 rfl ?_
  refine OT.call Try.call31 rfl rfl rfl rfl (cat_Find hr.there.there hl) ?_
  rintro v_9 hs_9 ⟨rfl, rfl⟩
  refine OT.pures hT 1 rfl ?_
  refine OT.nil ?_
  refine KT.seq ?_
  refine TT.seq ?_
  refine TT.seq ?_
  refine TT.region ?_
  refine OT.pures hT 2 rfl ?_
  refine OT.nil ?_
  refine KT.seq ?_
  refine TT.cond rfl (fun c11 => ?_) (fun c11 => ?_)
  ·
    have c11 := of_decide_eq_true c11
    rw [if_pos c11] at hres
    refine TT.seq ?_
    refine TT.region ?_
    refine OT.build (cs := [.int .i64 0, .slice none 0 0]) hT rfl Try.zeroValue31 rfl rfl rfl rfl ?_
    refine OT.store_all hT rfl rfl rfl rfl (by repeat (first | exact Pull.head | apply Pull.tail)) rfl rfl rfl (.inl (Nat.le_refl _)) ?_
    refine OT.pures hT 1 rfl ?_
    refine OT.nil ?_
    refine KT.seq ?_
    refine TT.ret ?_
    refine RT.of (rs := [.cell 4 31, .tmp 5]) [_, _] ([] :: hs) rfl (.cell rfl (Ld.struct_all hT rfl (by repeat (first | exact Has.one | apply Has.there)) rfl) (.tmp rfl .nil)) (by repeat (first | exact Sel.refl _ | refine Sel.empty ?_ | refine Sel.pull (by repeat (first | exact Pull.head | apply Pull.tail)) ?_ | refine Sel.drop ?_)) ?_
    dsimp only [one]
    rw [← hres]
    exact ⟨_, [], rfl, rfl, Own.nil⟩
  ·
    have c11 := of_decide_eq_false c11
    rw [if_neg c11] at hres
    obtain ⟨fi, hfi⟩ : ∃ n : Nat, findAt (named nm) 0 xs = n := ⟨_, (Int.toNat_of_nonneg (by omega)).symm⟩
    rw [hfi] at hres hf ⊢
    rw [Int.toNat_natCast] at hres
    refine TT.skip ?_
    refine KT.seq ?_
    refine TT.seq ?_
    refine TT.draw ([(b_2, blk [.int .i64 next, .slice a0 xs.length c0] 31 (0, 0))] :: hs) mixed ?_
    refine AT.takes (fuel := 7) hT [0, 2, 5, 6, 7] (by kernel_rfl) (by kernel_rfl) rfl ?_
    refine AT.take (fuel := 6) hT 1 rfl rfl (by kernel_rfl) (by kernel_rfl) (by kernel_rfl) rfl (.load rfl (Ld.one hT rfl (by repeat (first | exact Has.one | apply Has.there)) rfl)) rfl ?_
    refine AT.take (fuel := 5) hT 3 rfl rfl (by kernel_rfl) (by kernel_rfl) (by kernel_rfl) rfl (.load rfl (Ld.slc hT rfl (by repeat (first | exact Has.one | apply Has.there)) rfl)) rfl ?_
    refine AT.op (fuel := 4) 4 (by kernel_rfl) rfl (by repeat (first | exact Sel.refl _ | refine Sel.empty ?_ | refine Sel.pull (by repeat (first | exact Pull.head | apply Pull.tail)) ?_ | refine Sel.drop ?_)) ?_
    refine OT.call Try.call35 rfl rfl rfl rfl (sl_Clone hr.there.there hl) ?_
    rintro v_17 hs_17 ⟨H17, rfl, ho17⟩
    refine OT.nil ?_
    refine KT.any ?_
    refine AT.op (fuel := 3) 8 (by kernel_rfl) rfl (by repeat (first | exact Sel.refl _ | refine Sel.empty ?_ | refine Sel.pull (by repeat (first | exact Pull.head | apply Pull.tail)) ?_ | refine Sel.drop ?_)) ?_
    refine OT.reg 20 rfl (v := .int .i64 ((fi + 1 : Nat) : Int)) (int_eq (by rw [wrap_i64 (by omega) (by omega)]; omega)) ?_
    refine OT.call Try.call60 rfl rfl rfl rfl (Fun.pull (by repeat (first | exact Pull.head | apply Pull.tail)) (sl_Delete (i := fi) (j := fi + 1) ho17 (by omega) (by omega) hl)) ?_
    rintro v_21 hs_21 ⟨H21, rfl, ho21⟩
    obtain ⟨a_21, c_21, hv21⟩ := (ho21.row (hs := hs)).len
    subst hv21
    refine OT.nil ?_
    refine KT.any ?_
    refine AT.op (fuel := 2) 9 (by kernel_rfl) rfl (by repeat (first | exact Sel.refl _ | refine Sel.empty ?_ | refine Sel.pull (by repeat (first | exact Pull.head | apply Pull.tail)) ?_ | refine Sel.drop ?_)) ?_
    refine OT.build (cs := [.int .i64 next, .slice a_21 (xs.take fi ++ xs.drop (fi + 1)).length c_21]) hT rfl Try.zeroValue31 rfl rfl rfl rfl ?_
    refine OT.nil ?_
    refine KT.any ?_
    refine AT.op (fuel := 1) 10 (by kernel_rfl) rfl (by repeat (first | exact Sel.refl _ | refine Sel.empty ?_ | refine Sel.pull (by repeat (first | exact Pull.head | apply Pull.tail)) ?_ | refine Sel.drop ?_)) ?_
    refine OT.store_all hT rfl rfl rfl rfl (by repeat (first | exact Pull.head | apply Pull.tail)) rfl rfl rfl (.inl (Nat.le_refl _)) ?_
    refine OT.nil ?_
    refine KT.any ?_
    refine AT.takes (fuel := 0) hT [11] (by kernel_rfl) (by kernel_rfl) rfl ?_
    refine AT.done (by kernel_rfl) (by repeat (first | exact Sel.refl _ | refine Sel.empty ?_ | refine Sel.pull (by repeat (first | exact Pull.head | apply Pull.tail)) ?_ | refine Sel.drop ?_)) ?_
    refine KT.seq ?_
    refine TT.ret ?_
    refine RT.of (rs := [.cell 4 31, .tmp 5]) [_, _] (H21 :: hs) rfl (.cell rfl (Ld.struct_all hT rfl (by repeat (first | exact Has.one | apply Has.there)) rfl) (.tmp rfl .nil)) (by repeat (first | exact Sel.refl _ | refine Sel.empty ?_ | refine Sel.pull (by repeat (first | exact Pull.head | apply Pull.tail)) ?_ | refine Sel.drop ?_)) ?_
    dsimp only [one]
    rw [← hres]
    exact ⟨_, _, rfl, rfl, ho21⟩

end Go.Proofs.Ytnhkgchcdbideaa.Sx
end

section
namespace Go.Proofs.Ytnhkgchcdbideaa.Sx
open Go Go.Sx Go.Pl
variable [Outer]



set_option maxHeartbeats 1000000 in
set_option maxRecDepth 100000 in
theorem chg_May {v : Value} {ts : List Im} {hs : List Chunk} (hi : ImsAt hs v ts) : Fun Try.prog 40 [v] hs (fun v' hs' => v' = .bool (decide (MayImgs (imgs ts))) ∧ hs = hs') := by
  refine Fun.enter 45 Try.func40 rfl Try.ntmps40 rfl ?_
  have hr := hi.row
  have hfew := hi.few
  obtain ⟨a0, c0, hv⟩ := hr.len
  subst hv
  refine TT.seq (.region (.pures hT 1 rfl (.nil (.seq (.seq (.seq (.region (.pures hT 3 rfl (.nil (.seq (.block (.loop (ι := Nat) (fun j => (j) ≤ ts.length ∧ MayTo (imgs ts) (j)) (fun j => ts.length - (j)) (fun j => [(0, .slice a0 ts.length c0), (5, .slice a0 ts.length c0), (6, .int .i64 ts.length), (7, .int .i64 ((j) : Nat))]) (fun j => hs) (0) ?_ (SubR.cons rfl (SubR.cons rfl (SubR.cons rfl (SubR.cons rfl (SubR.nil _))))) sl ?_))))))))))))
  · exact ⟨by omega, MayTo.zero _⟩
  rintro i ⟨hin, hp⟩
  show TT _ _ _ [(0, .slice a0 ts.length c0), (5, .slice a0 ts.length c0), (6, .int .i64 ts.length), (7, .int .i64 (i : Nat))] (hs)
  refine TT.seq (.region (.pures hT 1 rfl (.nil (.seq (.seq (.cond rfl (fun c8 => ?_) (fun c8 => ?_)))))))
  ·
    have c8 := of_decide_eq_true c8
    obtain ⟨t, ht⟩ := nth (l := ts) (i := i) (by omega)
    have hit := imgs_at ht
    have hmem := List.mem_of_getElem? ht
    have hmi : t.img ∈ imgs ts := List.mem_of_getElem? hit
    obtain ⟨ab, cb, hvb⟩ := (hi.each t hmem).len
    have hbl := hi.len t hmem
    refine TT.skip (.seq (.seq (.block (.seq (.region (.pures hT 1 rfl (.index hT rfl rfl rfl rfl hr (by omega) ht rfl (fun ad_10 hel_10 => ?_))))))))
    refine OT.load rfl rfl (hel_10.ld_struct hT rfl) rfl (.alloc Try.zeroValue66 rfl rfl (fun b_4 => ?_))
    refine OT.pures hT 1 rfl (.store_all hT rfl rfl rfl rfl pl rfl rfl (by show ones (encIm t) = true; unfold encIm; rw [hvb]; rfl) (.inl (Nat.le_refl _)) ?_)
    refine OT.nil (.seq (.seq (.draw ([(b_4, blk [.int .i64 t.no, t.v] 66 (0, 0))] :: hs) mixed (.takes (fuel := 28) hT [0] kr kr rfl (.take (fuel := 27) hT 1 rfl rfl kr kr kr rfl (.load rfl (Ld.one hT rfl hz rfl)) rfl ?_)))))
    refine AT.takes (fuel := 25) hT [2, 3] kr kr rfl (.split 15 rfl (fun g15 => ?_) (fun g15 => ?_))
    ·
      have g15 := of_decide_eq_true g15
      refine AT.takes (fuel := 0) hT [4, 5, 6, 7, 8, 9, 10, 11, 12, 13, 14, 15, 16, 17, 18, 19, 20, 21, 22, 23, 24, 25, 26, 27, 28] kr kr rfl (.done kr sl (.seq (.cond_true rfl (.seq (.region (.pures hT 1 rfl (.nil (.seq (.ret (.of (rs := [.tmp 2]) [_] hs rfl (.tmp rfl .nil) sl ?_))))))))))
      dsimp only [one]
      exact ⟨congrArg Value.bool (decide_eq_false (fun h => by have := (h.2.1 _ hmi).1.1; have : 0 ≤ t.no := this; omega)).symm, rfl⟩
    ·
      have g15 := of_decide_eq_false g15
      refine AT.takes (fuel := 24) hT [4] kr kr rfl (.take (fuel := 23) hT 5 rfl rfl kr kr kr rfl (.load rfl (Ld.one hT rfl hz rfl)) rfl ?_)
      refine AT.takes (fuel := 20) hT [6, 7, 8] kr kr rfl (.split 20 rfl (fun g20 => ?_) (fun g20 => ?_))
      ·
        have g20 := of_decide_eq_true g20
        refine AT.takes (fuel := 0) hT [9, 10, 11, 12, 13, 14, 15, 16, 17, 18, 19, 20, 21, 22, 23, 24, 25, 26, 27, 28] kr kr rfl (.done kr sl (.seq (.cond_true rfl (.seq (.region (.pures hT 1 rfl (.nil (.seq (.ret (.of (rs := [.tmp 2]) [_] hs rfl (.tmp rfl .nil) sl ?_))))))))))
        dsimp only [one]
        exact ⟨congrArg Value.bool (decide_eq_false (fun h => by have := (h.2.1 _ hmi).1.2; have : t.no < 96 := this; omega)).symm, rfl⟩
      ·
        have g20 := of_decide_eq_false g20
        refine AT.takes (fuel := 19) hT [9] kr kr rfl (.take (fuel := 18) hT 10 rfl rfl kr kr kr rfl (.load rfl (Ld.slc hT rfl Has.one (by rw [hvb]; rfl))) rfl (.takes (fuel := 14) hT [11, 12, 13, 14] kr kr rfl (.split 26 rfl (fun g26 => ?_) (fun g26 => ?_))))
        ·
          have g26 : ¬ t.b.length = 256 := by simp at g26; omega
          refine AT.takes (fuel := 0) hT [15, 16, 17, 18, 19, 20, 21, 22, 23, 24, 25, 26, 27, 28] kr kr rfl (.done kr sl (.seq (.cond_true rfl (.seq (.region (.pures hT 1 rfl (.nil (.seq (.ret (.of (rs := [.tmp 2]) [_] hs rfl (.tmp rfl .nil) sl ?_))))))))))
          dsimp only [one]
          exact ⟨congrArg Value.bool (decide_eq_false (fun h => g26 (h.2.1 _ hmi).2)).symm, rfl⟩
        ·
          have g26 : t.b.length = 256 := by simp at g26; omega
          refine AT.takes (fuel := 11) hT [15, 16, 17] kr kr rfl (.split 29 rfl (fun g29 => ?_) (fun g29 => ?_))
          ·
            have g29 := of_decide_eq_true g29
            obtain ⟨u, hu⟩ := nth (l := ts) (i := i - 1) (by omega)
            have hiu := imgs_at hu
            refine AT.takes (fuel := 7) hT [18, 19, 20, 24] kr kr rfl (.take (fuel := 6) hT 25 rfl rfl kr kr kr rfl (.load rfl (Ld.one hT rfl hz rfl)) rfl ?_)
            refine AT.reg 32 rfl (v := .int .i64 ((i - 1 : Nat) : Int)) (int_eq (by rw [wrap_i64 (by omega) (by omega)]; omega)) (.index (fuel := 5) hT 21 rfl kr kr kr rfl rfl rfl rfl hr.there (by omega) (by rw [Int.toNat_natCast]; exact hu) rfl (fun ad_33 hel_33 => ?_))
            obtain ⟨eb_33, eo_33, rfl, hfld_33⟩ := hel_33.at (P := Try.prog)
            refine AT.takes (fuel := 4) hT [22] kr kr rfl (.take (fuel := 3) hT 23 rfl rfl kr kr kr rfl (.load rfl (hfld_33 hT rfl rfl)) rfl (.takes (fuel := 0) hT [26, 27, 28] kr kr rfl (.done kr sl (.seq (.cond rfl (fun c40 => ?_) (fun c40 => ?_))))))
            ·
              have c40 := of_decide_eq_true c40
              refine TT.seq (.region (.pures hT 1 rfl (.nil (.seq (.ret (.of (rs := [.tmp 2]) [_] hs rfl (.tmp rfl .nil) sl ?_))))))
              dsimp only [one]
              exact ⟨congrArg Value.bool (decide_eq_false (fun h => by have := h.adj hiu (by rw [show i - 1 + 1 = i by omega]; exact hit); have : u.no < t.no := this; omega)).symm, rfl⟩
            ·
              have c40 := of_decide_eq_false c40
              refine TT.skip (.blk (.seq (.region (.pures hT 2 rfl (.nil (.loop (i + 1) ?_ ?_ (SubR.cons rfl (SubR.cons rfl (SubR.cons rfl (SubR.cons' rfl (by (try dsimp only); exact (int_eq (by rw [wrap_i64 (by omega) (by omega)]; omega))) (SubR.nil _))))) sl))))))
              · exact ⟨by omega, hp.step hit ⟨by show 0 ≤ t.no; omega, by show t.no < 96; omega⟩ g26 fun j y hj hy => by
                  have : j = i - 1 := by omega
                  subst this
                  rw [hiu] at hy
                  obtain rfl := Option.some.inj hy
                  show u.no < t.no; omega⟩
              · omega
          ·
            have g29 := of_decide_eq_false g29
            refine AT.takes (fuel := 0) hT [18, 19, 20, 21, 22, 23, 24, 25, 26, 27, 28] kr kr rfl (.done kr sl (.seq (.cond_false rfl (.skip (.blk (.seq (.region (.pures hT 2 rfl (.nil (.loop (i + 1) ?_ ?_ (SubR.cons rfl (SubR.cons rfl (SubR.cons rfl (SubR.cons' rfl (by (try dsimp only); exact (int_eq (by rw [wrap_i64 (by omega) (by omega)]; omega))) (SubR.nil _))))) sl))))))))))
            · exact ⟨by omega, hp.step hit ⟨by show 0 ≤ t.no; omega, by show t.no < 96; omega⟩ g26 fun j y hj hy => by omega⟩
            · omega
  ·
    have c8 := of_decide_eq_false c8
    obtain rfl : i = ts.length := by omega
    refine TT.exit (.seq (.loop (.here (.seq (.seq (.region (.pures hT 4 rfl (.nil (.seq (.ret (.of (rs := [.tmp 2]) [_] hs rfl (.tmp rfl .nil) sl ?_)))))))))))
    dsimp only [one]
    refine ⟨congrArg Value.bool (decide_eq_decide.2 ⟨fun h => MayTo.all (by rw [imgs_length]; exact hp) (by rw [imgs_length]; omega), fun h => ?_⟩), rfl⟩
    have := h.pos
    rw [imgs_length] at this; omega




end Go.Proofs.Ytnhkgchcdbideaa.Sx
end
