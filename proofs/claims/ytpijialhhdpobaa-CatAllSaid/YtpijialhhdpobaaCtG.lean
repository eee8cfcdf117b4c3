/- Snapshots come and go: what slices.Clone, slices.Delete, the program's Add and Drop compute. Printed by a program of ours off the loaded program and our notes; Lean checks it. -/
import Derived.Test.YtpijialhhdpobaaPlE
import Derived.Test.YtpijialhhdpobaaSxT
import Derived.Test.YtpijialhhdpobaaCtD
namespace Go.Proofs.Ytpijialhhdpobaa.Sx
open Go Go.Sx Go.Pl
variable [Outer]

set_option maxHeartbeats 1000000 in
set_option maxRecDepth 100000 in
theorem sl_Clone {v : Value} {xs : List Snap} {hs : List Chunk} (hr : Row encSnap 35 hs v xs) (hl : xs.length ≤ 1073741824) : Fun Try.prog 45 [v] hs (fun v' hs' => ∃ H', hs' = H' :: hs ∧ Own encSnap 35 42 v' xs H') := by
  refine Fun.enter 8 Try.func45 rfl Try.ntmps45 rfl ?_
  obtain ⟨a0, c0, hv⟩ := hr.len
  subst hv
  refine TT.seq ?_
  refine TT.region ?_
  refine OT.pures hT 1 rfl ?_
  refine OT.nil ?_
  refine KT.seq ?_
  refine TT.seq ?_
  refine TT.seq ?_
  refine TT.region ?_
  refine OT.pures hT 2 rfl ?_
  refine OT.nil ?_
  refine KT.seq ?_
  refine TT.cond rfl (fun c4 => ?_) (fun c4 => ?_)
  ·
    have hx : xs = [] := by
      rcases hr.2 with ⟨_, h⟩ | ⟨b, o, cap, cs, t, fr, h, _⟩
      · exact h
      · injection h with h; rw [h] at c4; cases c4
    subst hx
    refine TT.seq ?_
    refine TT.region ?_
    refine OT.pures hT 1 rfl ?_
    refine OT.nil ?_
    refine KT.seq ?_
    refine TT.ret ?_
    refine RT.of (rs := [.tmp 2]) [_] ([] :: hs) rfl (.tmp rfl .nil) (by repeat (first | exact Sel.refl _ | refine Sel.empty ?_ | refine Sel.pull (by repeat (first | exact Pull.head | apply Pull.tail)) ?_ | refine Sel.drop ?_)) ?_
    dsimp only [one]
    exact ⟨[], rfl, Own.nil⟩
  ·
    refine TT.skip ?_
    refine KT.seq ?_
    refine TT.seq ?_
    refine TT.region ?_
    refine OT.buildSlice (enc := encSnap) (xs := ([] : List Snap)) (xos := []) el22 rfl rfl rfl rfl rfl (by intro v hv; cases hv) (by intro v hv; cases hv) rfl (by decide) rfl (fun v_5 H_5 ho_5 => ?_)
    refine OT.pures hT 1 rfl ?_
    refine OT.append hT el22 rfl rfl rfl rfl (by repeat (first | exact Pull.head | apply Pull.tail)) ho_5 hr.there (ones_snaps xs) (by simp only [List.length_nil]; omega) rfl (fun v_7 H_7 ho_7 => ?_)
    refine OT.pures hT 1 rfl ?_
    refine OT.nil ?_
    refine KT.seq ?_
    refine TT.ret ?_
    refine RT.of (rs := [.tmp 2]) [_] (H_7 :: hs) rfl (.tmp rfl .nil) (by repeat (first | exact Sel.refl _ | refine Sel.empty ?_ | refine Sel.pull (by repeat (first | exact Pull.head | apply Pull.tail)) ?_ | refine Sel.drop ?_)) ?_
    dsimp only [one]
    exact ⟨_, rfl, ho_7⟩

set_option maxHeartbeats 1000000 in
set_option maxRecDepth 100000 in
theorem sl_Delete {v : Value} {xs : List Snap} {i j : Nat} {H : Chunk} {r : List Chunk} (ho : Own encSnap 35 42 v xs H) (hij : i ≤ j) (hj : j ≤ xs.length) (hl : xs.length ≤ 1073741824) : Fun Try.prog 44 [v, .int .i64 (i : Nat), .int .i64 (j : Nat)] (H :: r) (fun v' hs' => ∃ H', hs' = H' :: r ∧ Own encSnap 35 42 v' (xs.take i ++ xs.drop j) H') := by
  refine Fun.enter 33 Try.func44 rfl Try.ntmps44 rfl ?_
  obtain ⟨a0, c0, hv⟩ := (ho.row (hs := r)).len
  subst hv
  have hc := ho.cap.2
  have hlt : (xs.take i).length = i := by rw [List.length_take]; omega
  have hld : (xs.drop j).length = xs.length - j := List.length_drop
  refine TT.seq ?_
  refine TT.region ?_
  refine OT.pures hT 1 rfl ?_
  refine OT.nil ?_
  refine KT.seq ?_
  refine TT.seq ?_
  refine TT.region ?_
  refine OT.pures hT 5 rfl ?_
  refine OT.slice3 i j xs.length hT rfl rfl rfl ho.row rfl rfl rfl (by omega) (by omega) (by omega) rfl (fun v_13 => ?_)
  refine OT.nil ?_
  refine KT.seq ?_
  refine TT.seq ?_
  refine TT.seq ?_
  refine TT.region ?_
  refine OT.pures hT 3 rfl ?_
  refine OT.nil ?_
  refine KT.seq ?_
  refine TT.cond rfl (fun c16 => ?_) (fun c16 => ?_)
  ·
    have c16 : (i : Int) = j := by simpa using c16
    obtain rfl : i = j := by omega
    refine TT.seq ?_
    refine TT.region ?_
    refine OT.pures hT 2 rfl ?_
    refine OT.nil ?_
    refine KT.seq ?_
    refine TT.ret ?_
    refine RT.of (rs := [.tmp 6]) [_] (H :: r) rfl (.tmp rfl .nil) (by repeat (first | exact Sel.refl _ | refine Sel.empty ?_ | refine Sel.pull (by repeat (first | exact Pull.head | apply Pull.tail)) ?_ | refine Sel.drop ?_)) ?_
    dsimp only [one]
    exact ⟨H, rfl, by rw [List.take_append_drop]; exact ho⟩
  ·
    refine TT.skip ?_
    refine KT.seq ?_
    refine TT.seq ?_
    refine TT.region ?_
    refine OT.pures hT 3 rfl ?_
    refine OT.nil ?_
    refine KT.seq ?_
    refine TT.seq ?_
    refine TT.draw (r) mixed ?_
    refine AT.takes (fuel := 4) hT [0, 1, 3, 4] (by kernel_rfl) (by kernel_rfl) rfl ?_
    refine AT.all (fuel := 3) [2, 5] (by kernel_rfl) (by decide) (by repeat (first | exact Sel.refl _ | refine Sel.empty ?_ | refine Sel.pull (by repeat (first | exact Pull.head | apply Pull.tail)) ?_ | refine Sel.drop ?_)) ?_
    intro i hi
    simp only [List.mem_cons, List.not_mem_nil, or_false] at hi
    rcases hi with rfl | rfl
    ·
      refine ⟨_, rfl, ?_⟩
      refine OT.slice_to i hT rfl rfl rfl rfl ho (by omega) rfl (fun ho_22 => ?_)
      refine OT.nil ?_
      refine KT.any ?_
      refine AT.op (fuel := 2) 5 (by kernel_rfl) rfl (by repeat (first | exact Sel.refl _ | refine Sel.empty ?_ | refine Sel.pull (by repeat (first | exact Pull.head | apply Pull.tail)) ?_ | refine Sel.drop ?_)) ?_
      refine OT.slice j xs.length hT rfl rfl rfl rfl rfl ho.row (.inr ⟨_, rfl⟩) (.inl ⟨rfl, rfl⟩) (by omega) (by omega) rfl (fun v_25 hv_25 => ?_)
      refine OT.nil ?_
      refine KT.any ?_
      refine AT.op (fuel := 1) 6 (by kernel_rfl) rfl (by repeat (first | exact Sel.refl _ | refine Sel.empty ?_ | refine Sel.pull (by repeat (first | exact Pull.head | apply Pull.tail)) ?_ | refine Sel.drop ?_)) ?_
      refine OT.append_room hT el22 rfl rfl rfl rfl (by repeat (first | exact Pull.head | apply Pull.tail)) hlt.symm ho_22 hv_25 (ones_snaps _) (by rw [hlt, List.take_length, hld]; omega) (by rw [List.take_length, hld]; omega) rfl (fun H_26 ho_26 => ?_)
      refine OT.nil ?_
      refine KT.any ?_
      refine AT.takes (fuel := 0) hT [7] (by kernel_rfl) (by kernel_rfl) rfl ?_
      refine AT.done (by kernel_rfl) (by repeat (first | exact Sel.refl _ | refine Sel.empty ?_ | refine Sel.pull (by repeat (first | exact Pull.head | apply Pull.tail)) ?_ | refine Sel.drop ?_)) ?_
      refine KT.seq ?_
      refine TT.seq ?_
      refine TT.region ?_
      refine OT.pures hT 4 rfl ?_
      refine OT.slice_val (i + ((xs.take xs.length).drop j).length) xs.length hT rfl rfl rfl rfl rfl (.inr ⟨_, rfl⟩) (.inr ⟨_, rfl⟩) (by rw [List.take_length, hld]; omega) hc rfl ?_
      refine OT.clear_spare el22 Try.zeroValue42 rfl rfl (by rw [List.length_append, hlt]) rfl rfl (by repeat (first | exact Pull.head | apply Pull.tail)) ho_26 (by rw [List.take_length, hld]; omega) hc (fun H_c ho_c => ?_)
      refine OT.nil ?_
      refine KT.seq ?_
      refine TT.seq ?_
      refine TT.region ?_
      refine OT.pures hT 2 rfl ?_
      refine OT.nil ?_
      refine KT.seq ?_
      refine TT.ret ?_
      refine RT.of (rs := [.tmp 6]) [_] (H_c :: r) rfl (.tmp rfl .nil) (by repeat (first | exact Sel.refl _ | refine Sel.empty ?_ | refine Sel.pull (by repeat (first | exact Pull.head | apply Pull.tail)) ?_ | refine Sel.drop ?_)) ?_
      dsimp only [one]
      exact ⟨_, rfl, by rw [List.take_length] at ho_c ⊢; exact ho_c⟩
    ·
      refine ⟨_, rfl, ?_⟩
      refine OT.slice j xs.length hT rfl rfl rfl rfl rfl ho.row (.inr ⟨_, rfl⟩) (.inl ⟨rfl, rfl⟩) (by omega) (by omega) rfl (fun v_25 hv_25 => ?_)
      refine OT.nil ?_
      refine KT.any ?_
      refine AT.op (fuel := 2) 2 (by kernel_rfl) rfl (by repeat (first | exact Sel.refl _ | refine Sel.empty ?_ | refine Sel.pull (by repeat (first | exact Pull.head | apply Pull.tail)) ?_ | refine Sel.drop ?_)) ?_
      refine OT.slice_to i hT rfl rfl rfl rfl ho (by omega) rfl (fun ho_22 => ?_)
      refine OT.nil ?_
      refine KT.any ?_
      refine AT.op (fuel := 1) 6 (by kernel_rfl) rfl (by repeat (first | exact Sel.refl _ | refine Sel.empty ?_ | refine Sel.pull (by repeat (first | exact Pull.head | apply Pull.tail)) ?_ | refine Sel.drop ?_)) ?_
      refine OT.append_room hT el22 rfl rfl rfl rfl (by repeat (first | exact Pull.head | apply Pull.tail)) hlt.symm ho_22 hv_25 (ones_snaps _) (by rw [hlt, List.take_length, hld]; omega) (by rw [List.take_length, hld]; omega) rfl (fun H_26 ho_26 => ?_)
      refine OT.nil ?_
      refine KT.any ?_
      refine AT.takes (fuel := 0) hT [7] (by kernel_rfl) (by kernel_rfl) rfl ?_
      refine AT.done (by kernel_rfl) (by repeat (first | exact Sel.refl _ | refine Sel.empty ?_ | refine Sel.pull (by repeat (first | exact Pull.head | apply Pull.tail)) ?_ | refine Sel.drop ?_)) ?_
      refine KT.seq ?_
      refine TT.seq ?_
      refine TT.region ?_
      refine OT.pures hT 4 rfl ?_
      refine OT.slice_val (i + ((xs.take xs.length).drop j).length) xs.length hT rfl rfl rfl rfl rfl (.inr ⟨_, rfl⟩) (.inr ⟨_, rfl⟩) (by rw [List.take_length, hld]; omega) hc rfl ?_
      refine OT.clear_spare el22 Try.zeroValue42 rfl rfl (by rw [List.length_append, hlt]) rfl rfl (by repeat (first | exact Pull.head | apply Pull.tail)) ho_26 (by rw [List.take_length, hld]; omega) hc (fun H_c ho_c => ?_)
      refine OT.nil ?_
      refine KT.seq ?_
      refine TT.seq ?_
      refine TT.region ?_
      refine OT.pures hT 2 rfl ?_
      refine OT.nil ?_
      refine KT.seq ?_
      refine TT.ret ?_
      refine RT.of (rs := [.tmp 6]) [_] (H_c :: r) rfl (.tmp rfl .nil) (by repeat (first | exact Sel.refl _ | refine Sel.empty ?_ | refine Sel.pull (by repeat (first | exact Pull.head | apply Pull.tail)) ?_ | refine Sel.drop ?_)) ?_
      dsimp only [one]
      exact ⟨_, rfl, by rw [List.take_length] at ho_c ⊢; exact ho_c⟩

set_option maxHeartbeats 4000000 in
set_option maxRecDepth 100000 in
theorem cat_Add {next : Int} {v : Value} {xs : List Snap} {nm : ByteArray} {hs : List Chunk} (hr : Row encSnap 35 hs v xs) (hl : xs.length ≤ 1073741824) (h0 : -9223372036854775808 ≤ next) : Fun Try.prog 31 [.agg ⟨[.int .i64 next, v]⟩, .string nm] hs (fun v' hs' => ∃ w H', v' = .tuple ⟨[.agg ⟨[.int .i64 (addC next xs nm).1.1, w]⟩, .int .i64 (addC next xs nm).2]⟩ ∧ hs' = H' :: hs ∧ Own encSnap 35 42 w (addC next xs nm).1.2 H') := by
  refine Fun.enter 43 Try.func31 rfl Try.ntmps31 rfl ?_
  obtain ⟨a0, c0, hv⟩ := hr.len
  subst hv
  obtain ⟨res, hres⟩ : ∃ r, addC next xs nm = r := ⟨_, rfl⟩
  rw [hres]
  unfold addC at hres
  refine TT.seq ?_
  refine TT.region ?_
  refine OT.box rfl rfl rfl (fun b_2 => ?_)
  refine OT.alloc Try.zeroValue33 rfl rfl (fun b_4 => ?_)
  refine OT.pures hT 1 rfl ?_
  refine OT.nil ?_
  refine KT.seq ?_
  refine TT.seq ?_
  refine TT.block ?_
  refine TT.seq ?_
  refine TT.region ?_
  refine OT.pures hT 1 rfl ?_
  refine OT.call Try.call17 rfl rfl rfl rfl (cat_Name) ?_
  rintro v_9 hs_9 ⟨rfl, rfl⟩
  refine OT.pures hT 2 rfl ?_
  refine OT.nil ?_
  refine KT.seq ?_
  refine TT.cond rfl (fun c7 => ?_) (fun c7 => ?_)
  ·
    have c7 : nameB nm = false := by simpa using c7
    rw [if_pos c7] at hres
    refine TT.seq ?_
    refine TT.region ?_
    refine OT.build (cs := [.int .i64 0, .slice none 0 0]) hT rfl Try.zeroValue33 rfl rfl rfl rfl ?_
    refine OT.store_all hT rfl rfl rfl rfl (by repeat (first | exact Pull.head | apply Pull.tail)) rfl rfl rfl (.inl (Nat.le_refl _)) ?_
    refine OT.pures hT 1 rfl ?_
    refine OT.nil ?_
    refine KT.seq ?_
    refine TT.ret ?_
    refine RT.of (rs := [.cell 4 33, .tmp 5]) [_, _] ([] :: hs) rfl (.cell rfl (Ld.struct_all hT rfl (by repeat (first | exact Has.one | apply Has.there)) rfl) (.tmp rfl .nil)) (by repeat (first | exact Sel.refl _ | refine Sel.empty ?_ | refine Sel.pull (by repeat (first | exact Pull.head | apply Pull.tail)) ?_ | refine Sel.drop ?_)) ?_
    dsimp only [one]
    rw [← hres]
    exact ⟨_, [], rfl, rfl, Own.nil⟩
  ·
    have c7 : nameB nm = true := by simpa using c7
    rw [if_neg (by rw [c7]; decide)] at hres
    refine TT.seq ?_
    refine TT.region ?_
    refine OT.load rfl rfl (Ld.struct_all hT rfl (by repeat (first | exact Has.one | apply Has.there)) rfl) rfl ?_
    refine OT.pures hT 1 rfl ?_
    refine OT.call Try.call26 rfl rfl rfl rfl (cat_Find hr.there.there hl) ?_
    rintro v_15 hs_15 ⟨rfl, rfl⟩
    refine OT.pures hT 2 rfl ?_
    refine OT.nil ?_
    refine KT.seq ?_
    refine TT.cond rfl (fun c12 => ?_) (fun c12 => ?_)
    ·
      have c12 := of_decide_eq_true c12
      rw [if_pos c12] at hres
      refine TT.seq ?_
      refine TT.region ?_
      refine OT.build (cs := [.int .i64 0, .slice none 0 0]) hT rfl Try.zeroValue33 rfl rfl rfl rfl ?_
      refine OT.store_all hT rfl rfl rfl rfl (by repeat (first | exact Pull.head | apply Pull.tail)) rfl rfl rfl (.inl (Nat.le_refl _)) ?_
      refine OT.pures hT 1 rfl ?_
      refine OT.nil ?_
      refine KT.seq ?_
      refine TT.ret ?_
      refine RT.of (rs := [.cell 4 33, .tmp 5]) [_, _] ([] :: hs) rfl (.cell rfl (Ld.struct_all hT rfl (by repeat (first | exact Has.one | apply Has.there)) rfl) (.tmp rfl .nil)) (by repeat (first | exact Sel.refl _ | refine Sel.empty ?_ | refine Sel.pull (by repeat (first | exact Pull.head | apply Pull.tail)) ?_ | refine Sel.drop ?_)) ?_
      dsimp only [one]
      rw [← hres]
      exact ⟨_, [], rfl, rfl, Own.nil⟩
    ·
      have c12 := of_decide_eq_false c12
      rw [if_neg c12] at hres
      refine TT.seq ?_
      refine TT.region ?_
      refine OT.pures hT 1 rfl ?_
      refine OT.load rfl rfl (Ld.slc hT rfl (by repeat (first | exact Has.one | apply Has.there)) rfl) rfl ?_
      refine OT.pures hT 3 rfl ?_
      refine OT.split 23 rfl (fun g23 => ?_) (fun g23 => ?_)
      ·
        have g23 := of_decide_eq_true g23
        rw [if_pos (.inl (by omega))] at hres
        refine OT.pures hT 5 rfl ?_
        refine OT.nil ?_
        refine KT.seq ?_
        refine TT.cond_true rfl ?_
        refine TT.seq ?_
        refine TT.region ?_
        refine OT.build (cs := [.int .i64 0, .slice none 0 0]) hT rfl Try.zeroValue33 rfl rfl rfl rfl ?_
        refine OT.store_all hT rfl rfl rfl rfl (by repeat (first | exact Pull.head | apply Pull.tail)) rfl rfl rfl (.inl (Nat.le_refl _)) ?_
        refine OT.pures hT 1 rfl ?_
        refine OT.nil ?_
        refine KT.seq ?_
        refine TT.ret ?_
        refine RT.of (rs := [.cell 4 33, .tmp 5]) [_, _] ([] :: hs) rfl (.cell rfl (Ld.struct_all hT rfl (by repeat (first | exact Has.one | apply Has.there)) rfl) (.tmp rfl .nil)) (by repeat (first | exact Sel.refl _ | refine Sel.empty ?_ | refine Sel.pull (by repeat (first | exact Pull.head | apply Pull.tail)) ?_ | refine Sel.drop ?_)) ?_
        dsimp only [one]
        rw [← hres]
        exact ⟨_, [], rfl, rfl, Own.nil⟩
      ·
        have g23 := of_decide_eq_false g23
        refine OT.pures hT 1 rfl ?_
        refine OT.load rfl rfl (Ld.one hT rfl (by repeat (first | exact Has.one | apply Has.there)) rfl) rfl ?_
        refine OT.pures hT 3 rfl ?_
        refine OT.nil ?_
        refine KT.seq ?_
        refine TT.cond rfl (fun c18 => ?_) (fun c18 => ?_)
        ·
          have c18 := of_decide_eq_true c18
          rw [if_pos (.inr c18)] at hres
          refine TT.seq ?_
          refine TT.region ?_
          refine OT.build (cs := [.int .i64 0, .slice none 0 0]) hT rfl Try.zeroValue33 rfl rfl rfl rfl ?_
          refine OT.store_all hT rfl rfl rfl rfl (by repeat (first | exact Pull.head | apply Pull.tail)) rfl rfl rfl (.inl (Nat.le_refl _)) ?_
          refine OT.pures hT 1 rfl ?_
          refine OT.nil ?_
          refine KT.seq ?_
          refine TT.ret ?_
          refine RT.of (rs := [.cell 4 33, .tmp 5]) [_, _] ([] :: hs) rfl (.cell rfl (Ld.struct_all hT rfl (by repeat (first | exact Has.one | apply Has.there)) rfl) (.tmp rfl .nil)) (by repeat (first | exact Sel.refl _ | refine Sel.empty ?_ | refine Sel.pull (by repeat (first | exact Pull.head | apply Pull.tail)) ?_ | refine Sel.drop ?_)) ?_
          dsimp only [one]
          rw [← hres]
          exact ⟨_, [], rfl, rfl, Own.nil⟩
        ·
          have c18 := of_decide_eq_false c18
          rw [if_neg (by omega)] at hres
          refine TT.skip ?_
          refine KT.blk ?_
          refine KT.seq ?_
          refine TT.seq ?_
          refine TT.region ?_
          refine OT.pures hT 2 rfl ?_
          refine OT.load rfl rfl (Ld.one hT rfl (by repeat (first | exact Has.one | apply Has.there)) rfl) rfl ?_
          refine OT.pures hT 1 rfl ?_
          refine OT.reg 32 rfl (int_eq (wrap_i64 (n := next + 1) (by omega) (by omega))) ?_
          refine OT.build (cs := (encSnap (newSnap nm (next + 1)))) hT rfl Try.zeroValue42 rfl rfl rfl rfl ?_
          refine OT.alloc Try.zeroValue42 rfl rfl (fun b_6 => ?_)
          refine OT.store_all hT rfl rfl rfl rfl (by repeat (first | exact Pull.head | apply Pull.tail)) rfl rfl rfl (.inl (Nat.le_refl _)) ?_
          refine OT.nil ?_
          refine KT.seq ?_
          refine TT.seq ?_
          refine TT.draw ([(b_6, blk (encSnap (newSnap nm (next + 1))) 42 (0, 0))] :: [(b_2, blk [.int .i64 next, .slice a0 xs.length c0] 33 (0, 0))] :: hs) mixed ?_
          refine AT.takes (fuel := 9) hT [0, 2] (by kernel_rfl) (by kernel_rfl) rfl ?_
          refine AT.take (fuel := 8) hT 1 rfl rfl (by kernel_rfl) (by kernel_rfl) (by kernel_rfl) rfl (.load rfl (Ld.one hT rfl (by repeat (first | exact Has.one | apply Has.there)) rfl)) rfl ?_
          refine AT.take (fuel := 7) hT 3 rfl rfl (by kernel_rfl) (by kernel_rfl) (by kernel_rfl) rfl (.load rfl (Ld.slc hT rfl (by repeat (first | exact Has.one | apply Has.there)) rfl)) rfl ?_
          refine AT.take (fuel := 6) hT 5 rfl rfl (by kernel_rfl) (by kernel_rfl) (by kernel_rfl) rfl (.load rfl (Ld.struct_all hT rfl Has.one rfl)) rfl ?_
          refine AT.all (fuel := 5) [4, 6] (by kernel_rfl) (by decide) (by repeat (first | exact Sel.refl _ | refine Sel.empty ?_ | refine Sel.pull (by repeat (first | exact Pull.head | apply Pull.tail)) ?_ | refine Sel.drop ?_)) ?_
          intro i hi
          simp only [List.mem_cons, List.not_mem_nil, or_false] at hi
          rcases hi with rfl | rfl
          ·
            refine ⟨_, rfl, ?_⟩
            refine OT.call Try.call45 rfl rfl rfl rfl (sl_Clone hr.there.there.there hl) ?_
            rintro v_38 hs_38 ⟨H38, rfl, ho38⟩
            refine OT.nil ?_
            refine KT.any ?_
            refine AT.op (fuel := 4) 6 (by kernel_rfl) rfl (by repeat (first | exact Sel.refl _ | refine Sel.empty ?_ | refine Sel.pull (by repeat (first | exact Pull.head | apply Pull.tail)) ?_ | refine Sel.drop ?_)) ?_
            refine OT.buildSlice (enc := encSnap) (xs := [newSnap nm (next + 1)]) (xos := [.tmp 39]) el22 rfl rfl rfl rfl rfl (by intro v hv; simp only [List.mem_singleton] at hv; subst hv; rfl) (by intro x hx; simp only [List.mem_singleton] at hx; subst hx; rfl) rfl (by decide) rfl (fun v_40 H_40 ho_40 => ?_)
            refine OT.nil ?_
            refine KT.any ?_
            refine AT.op (fuel := 3) 7 (by kernel_rfl) rfl (by repeat (first | exact Sel.refl _ | refine Sel.empty ?_ | refine Sel.pull (by repeat (first | exact Pull.head | apply Pull.tail)) ?_ | refine Sel.drop ?_)) ?_
            refine OT.append hT el22 rfl rfl rfl rfl (by repeat (first | exact Pull.head | apply Pull.tail)) ho38 (by first | exact ho_40.row | exact ho_40.row.there) (ones_snaps _) (by simp only [List.length_cons, List.length_nil]; omega) rfl (fun v_41 H_41 ho_41 => ?_)
            obtain ⟨a_41, c_41, hv41⟩ := (ho_41.row (hs := hs)).len
            subst hv41
            refine OT.nil ?_
            refine KT.any ?_
            refine AT.op (fuel := 2) 8 (by kernel_rfl) rfl (by repeat (first | exact Sel.refl _ | refine Sel.empty ?_ | refine Sel.pull (by repeat (first | exact Pull.head | apply Pull.tail)) ?_ | refine Sel.drop ?_)) ?_
            refine OT.build (cs := [.int .i64 (next + 1), .slice a_41 (xs ++ [newSnap nm (next + 1)]).length c_41]) hT rfl Try.zeroValue33 rfl rfl rfl rfl ?_
            refine OT.nil ?_
            refine KT.any ?_
            refine AT.op (fuel := 1) 9 (by kernel_rfl) rfl (by repeat (first | exact Sel.refl _ | refine Sel.empty ?_ | refine Sel.pull (by repeat (first | exact Pull.head | apply Pull.tail)) ?_ | refine Sel.drop ?_)) ?_
            refine OT.store_all hT rfl rfl rfl rfl (by repeat (first | exact Pull.head | apply Pull.tail)) rfl rfl rfl (.inl (Nat.le_refl _)) ?_
            refine OT.nil ?_
            refine KT.any ?_
            refine AT.takes (fuel := 0) hT [10] (by kernel_rfl) (by kernel_rfl) rfl ?_
            refine AT.done (by kernel_rfl) (by repeat (first | exact Sel.refl _ | refine Sel.empty ?_ | refine Sel.pull (by repeat (first | exact Pull.head | apply Pull.tail)) ?_ | refine Sel.drop ?_)) ?_
            refine KT.seq ?_
            refine TT.ret ?_
            refine RT.of (rs := [.cell 4 33, .tmp 5]) [_, _] (H_41 :: hs) rfl (.cell rfl (Ld.struct_all hT rfl (by repeat (first | exact Has.one | apply Has.there)) rfl) (.tmp rfl .nil)) (by repeat (first | exact Sel.refl _ | refine Sel.empty ?_ | refine Sel.pull (by repeat (first | exact Pull.head | apply Pull.tail)) ?_ | refine Sel.drop ?_)) ?_
            dsimp only [one]
            rw [← hres]
            exact ⟨_, _, rfl, rfl, ho_41⟩
          ·
            refine ⟨_, rfl, ?_⟩
            refine OT.buildSlice (enc := encSnap) (xs := [newSnap nm (next + 1)]) (xos := [.tmp 39]) el22 rfl rfl rfl rfl rfl (by intro v hv; simp only [List.mem_singleton] at hv; subst hv; rfl) (by intro x hx; simp only [List.mem_singleton] at hx; subst hx; rfl) rfl (by decide) rfl (fun v_40 H_40 ho_40 => ?_)
            refine OT.nil ?_
            refine KT.any ?_
            refine AT.op (fuel := 4) 4 (by kernel_rfl) rfl (by repeat (first | exact Sel.refl _ | refine Sel.empty ?_ | refine Sel.pull (by repeat (first | exact Pull.head | apply Pull.tail)) ?_ | refine Sel.drop ?_)) ?_
            refine OT.call Try.call45 rfl rfl rfl rfl (sl_Clone hr.there.there.there.there hl) ?_
            rintro v_38 hs_38 ⟨H38, rfl, ho38⟩
            refine OT.nil ?_
            refine KT.any ?_
            refine AT.op (fuel := 3) 7 (by kernel_rfl) rfl (by repeat (first | exact Sel.refl _ | refine Sel.empty ?_ | refine Sel.pull (by repeat (first | exact Pull.head | apply Pull.tail)) ?_ | refine Sel.drop ?_)) ?_
            refine OT.append hT el22 rfl rfl rfl rfl (by repeat (first | exact Pull.head | apply Pull.tail)) ho38 (by first | exact ho_40.row | exact ho_40.row.there) (ones_snaps _) (by simp only [List.length_cons, List.length_nil]; omega) rfl (fun v_41 H_41 ho_41 => ?_)
            obtain ⟨a_41, c_41, hv41⟩ := (ho_41.row (hs := hs)).len
            subst hv41
            refine OT.nil ?_
            refine KT.any ?_
            refine AT.op (fuel := 2) 8 (by kernel_rfl) rfl (by repeat (first | exact Sel.refl _ | refine Sel.empty ?_ | refine Sel.pull (by repeat (first | exact Pull.head | apply Pull.tail)) ?_ | refine Sel.drop ?_)) ?_
            refine OT.build (cs := [.int .i64 (next + 1), .slice a_41 (xs ++ [newSnap nm (next + 1)]).length c_41]) hT rfl Try.zeroValue33 rfl rfl rfl rfl ?_
            refine OT.nil ?_
            refine KT.any ?_
            refine AT.op (fuel := 1) 9 (by kernel_rfl) rfl (by repeat (first | exact Sel.refl _ | refine Sel.empty ?_ | refine Sel.pull (by repeat (first | exact Pull.head | apply Pull.tail)) ?_ | refine Sel.drop ?_)) ?_
            refine OT.store_all hT rfl rfl rfl rfl (by repeat (first | exact Pull.head | apply Pull.tail)) rfl rfl rfl (.inl (Nat.le_refl _)) ?_
            refine OT.nil ?_
            refine KT.any ?_
            refine AT.takes (fuel := 0) hT [10] (by kernel_rfl) (by kernel_rfl) rfl ?_
            refine AT.done (by kernel_rfl) (by repeat (first | exact Sel.refl _ | refine Sel.empty ?_ | refine Sel.pull (by repeat (first | exact Pull.head | apply Pull.tail)) ?_ | refine Sel.drop ?_)) ?_
            refine KT.seq ?_
            refine TT.ret ?_
            refine RT.of (rs := [.cell 4 33, .tmp 5]) [_, _] (H_41 :: hs) rfl (.cell rfl (Ld.struct_all hT rfl (by repeat (first | exact Has.one | apply Has.there)) rfl) (.tmp rfl .nil)) (by repeat (first | exact Sel.refl _ | refine Sel.empty ?_ | refine Sel.pull (by repeat (first | exact Pull.head | apply Pull.tail)) ?_ | refine Sel.drop ?_)) ?_
            dsimp only [one]
            rw [← hres]
            exact ⟨_, _, rfl, rfl, ho_41⟩

set_option maxHeartbeats 1000000 in
set_option maxRecDepth 100000 in
theorem cat_Drop {next : Int} {v : Value} {xs : List Snap} {nm : ByteArray} {hs : List Chunk} (hr : Row encSnap 35 hs v xs) (hl : xs.length ≤ 1073741824) : Fun Try.prog 30 [.agg ⟨[.int .i64 next, v]⟩, .string nm] hs (fun v' hs' => ∃ w H', v' = .tuple ⟨[.agg ⟨[.int .i64 (dropC next xs nm).1.1, w]⟩, .int .i64 (dropC next xs nm).2]⟩ ∧ hs' = H' :: hs ∧ Own encSnap 35 42 w (dropC next xs nm).1.2 H') := by
  refine Fun.enter 23 Try.func30 rfl Try.ntmps30 rfl ?_
  obtain ⟨a0, c0, hv⟩ := hr.len
  subst hv
  have hf := findAt_lt (named nm) xs 0
  obtain ⟨res, hres⟩ : ∃ r, dropC next xs nm = r := ⟨_, rfl⟩
  rw [hres]
  unfold dropC at hres
  refine TT.seq ?_
  refine TT.region ?_
  refine OT.box rfl rfl rfl (fun b_2 => ?_)
  refine OT.alloc Try.zeroValue33 rfl rfl (fun b_4 => ?_)
  refine OT.pures hT 1 rfl ?_
  refine OT.nil ?_
  refine KT.seq ?_
  refine TT.seq ?_
  refine TT.region ?_
  refine OT.load rfl rfl (Ld.struct_all hT rfl (by repeat (first | exact Has.one | apply Has.there)) rfl) rfl ?_
  refine OT.pures hT 1 rfl ?_
  refine OT.call Try.call26 rfl rfl rfl rfl (cat_Find hr.there.there hl) ?_
  rintro v_9 hs_9 ⟨rfl, rfl⟩
  refine OT.pures hT 1 rfl ?_
  refine OT.nil ?_
  refine KT.seq ?_
  refine TT.seq ?_
  refine TT.seq ?_
  refine TT.region ?_
  refine OT.pures hT 2 rfl ?_
  refine OT.nil ?_
  refine KT.seq ?_
  refine TT.cond rfl (fun c11 => ?_) (fun c11 => ?_)
  ·
    have c11 := of_decide_eq_true c11
    rw [if_pos c11] at hres
    refine TT.seq ?_
    refine TT.region ?_
    refine OT.build (cs := [.int .i64 0, .slice none 0 0]) hT rfl Try.zeroValue33 rfl rfl rfl rfl ?_
    refine OT.store_all hT rfl rfl rfl rfl (by repeat (first | exact Pull.head | apply Pull.tail)) rfl rfl rfl (.inl (Nat.le_refl _)) ?_
    refine OT.pures hT 1 rfl ?_
    refine OT.nil ?_
    refine KT.seq ?_
    refine TT.ret ?_
    refine RT.of (rs := [.cell 4 33, .tmp 5]) [_, _] ([] :: hs) rfl (.cell rfl (Ld.struct_all hT rfl (by repeat (first | exact Has.one | apply Has.there)) rfl) (.tmp rfl .nil)) (by repeat (first | exact Sel.refl _ | refine Sel.empty ?_ | refine Sel.pull (by repeat (first | exact Pull.head | apply Pull.tail)) ?_ | refine Sel.drop ?_)) ?_
    dsimp only [one]
    rw [← hres]
    exact ⟨_, [], rfl, rfl, Own.nil⟩
  ·
    have c11 := of_decide_eq_false c11
    rw [if_neg c11] at hres
    obtain ⟨fi, hfi⟩ : ∃ n : Nat, findAt (named nm) 0 xs = n := ⟨_, (Int.toNat_of_nonneg (by omega)).symm⟩
    rw [hfi] at hres hf ⊢
    rw [Int.toNat_natCast] at hres
    refine TT.skip ?_
    refine KT.seq ?_
    refine TT.seq ?_
    refine TT.draw ([(b_2, blk [.int .i64 next, .slice a0 xs.length c0] 33 (0, 0))] :: hs) mixed ?_
    refine AT.takes (fuel := 7) hT [0, 2, 5, 6, 7] (by kernel_rfl) (by kernel_rfl) rfl ?_
    refine AT.take (fuel := 6) hT 1 rfl rfl (by kernel_rfl) (by kernel_rfl) (by kernel_rfl) rfl (.load rfl (Ld.one hT rfl (by repeat (first | exact Has.one | apply Has.there)) rfl)) rfl ?_
    refine AT.take (fuel := 5) hT 3 rfl rfl (by kernel_rfl) (by kernel_rfl) (by kernel_rfl) rfl (.load rfl (Ld.slc hT rfl (by repeat (first | exact Has.one | apply Has.there)) rfl)) rfl ?_
    refine AT.op (fuel := 4) 4 (by kernel_rfl) rfl (by repeat (first | exact Sel.refl _ | refine Sel.empty ?_ | refine Sel.pull (by repeat (first | exact Pull.head | apply Pull.tail)) ?_ | refine Sel.drop ?_)) ?_
    refine OT.call Try.call45 rfl rfl rfl rfl (sl_Clone hr.there.there hl) ?_
    rintro v_17 hs_17 ⟨H17, rfl, ho17⟩
    refine OT.nil ?_
    refine KT.any ?_
    refine AT.op (fuel := 3) 8 (by kernel_rfl) rfl (by repeat (first | exact Sel.refl _ | refine Sel.empty ?_ | refine Sel.pull (by repeat (first | exact Pull.head | apply Pull.tail)) ?_ | refine Sel.drop ?_)) ?_
    refine OT.reg 20 rfl (v := .int .i64 ((fi + 1 : Nat) : Int)) (int_eq (by rw [wrap_i64 (by omega) (by omega)]; omega)) ?_
    refine OT.call Try.call44 rfl rfl rfl rfl (Fun.pull (by repeat (first | exact Pull.head | apply Pull.tail)) (sl_Delete (i := fi) (j := fi + 1) ho17 (by omega) (by omega) hl)) ?_
    rintro v_21 hs_21 ⟨H21, rfl, ho21⟩
    obtain ⟨a_21, c_21, hv21⟩ := (ho21.row (hs := hs)).len
    subst hv21
    refine OT.nil ?_
    refine KT.any ?_
    refine AT.op (fuel := 2) 9 (by kernel_rfl) rfl (by repeat (first | exact Sel.refl _ | refine Sel.empty ?_ | refine Sel.pull (by repeat (first | exact Pull.head | apply Pull.tail)) ?_ | refine Sel.drop ?_)) ?_
    refine OT.build (cs := [.int .i64 next, .slice a_21 (xs.take fi ++ xs.drop (fi + 1)).length c_21]) hT rfl Try.zeroValue33 rfl rfl rfl rfl ?_
    refine OT.nil ?_
    refine KT.any ?_
    refine AT.op (fuel := 1) 10 (by kernel_rfl) rfl (by repeat (first | exact Sel.refl _ | refine Sel.empty ?_ | refine Sel.pull (by repeat (first | exact Pull.head | apply Pull.tail)) ?_ | refine Sel.drop ?_)) ?_
    refine OT.store_all hT rfl rfl rfl rfl (by repeat (first | exact Pull.head | apply Pull.tail)) rfl rfl rfl (.inl (Nat.le_refl _)) ?_
    refine OT.nil ?_
    refine KT.any ?_
    refine AT.takes (fuel := 0) hT [11] (by kernel_rfl) (by kernel_rfl) rfl ?_
    refine AT.done (by kernel_rfl) (by repeat (first | exact Sel.refl _ | refine Sel.empty ?_ | refine Sel.pull (by repeat (first | exact Pull.head | apply Pull.tail)) ?_ | refine Sel.drop ?_)) ?_
    refine KT.seq ?_
    refine TT.ret ?_
    refine RT.of (rs := [.cell 4 33, .tmp 5]) [_, _] (H21 :: hs) rfl (.cell rfl (Ld.struct_all hT rfl (by repeat (first | exact Has.one | apply Has.there)) rfl) (.tmp rfl .nil)) (by repeat (first | exact Sel.refl _ | refine Sel.empty ?_ | refine Sel.pull (by repeat (first | exact Pull.head | apply Pull.tail)) ?_ | refine Sel.drop ?_)) ?_
    dsimp only [one]
    rw [← hres]
    exact ⟨_, _, rfl, rfl, ho21⟩

end Go.Proofs.Ytpijialhhdpobaa.Sx
