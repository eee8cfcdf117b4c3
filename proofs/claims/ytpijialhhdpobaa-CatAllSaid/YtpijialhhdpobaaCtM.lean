/- CatAny: it answers true. Printed by a program of ours off the loaded program and our notes; Lean checks it. -/
import Derived.Test.YtpijialhhdpobaaPlL
import Derived.Test.YtpijialhhdpobaaSxT
import Derived.Test.YtpijialhhdpobaaSxK
import Derived.Test.YtpijialhhdpobaaCtJ
namespace Go.Proofs.Ytpijialhhdpobaa.Sx
open Go Go.Sx Go.Pl
variable [Outer]

set_option maxHeartbeats 1000000 in
set_option maxRecDepth 100000 in
theorem law20_CutB {next : Int} {v : Value} {xs : List Snap} {hs : List Chunk} (hr : Row encSnap 35 hs v xs) (hl : xs.length ≤ 9223372036854775807) : Fun Try.prog 10 [.agg ⟨[.int .i64 next, v]⟩] hs (fun v' hs' => ∃ w H', v' = .agg ⟨[.int .i64 next, w]⟩ ∧ hs' = H' :: hs ∧ Own encSnap 35 42 w ((xs.take 6).map cutSnap) H') := by
  refine Fun.enter 36 Try.func10 rfl Try.ntmps10 rfl ?_
  obtain ⟨a0, c0, hv⟩ := hr.len
  subst hv
  refine TT.seq ?_
  refine TT.region ?_
  refine OT.box rfl rfl rfl (fun b_1 => ?_)
  refine OT.alloc Try.zeroValue24 rfl rfl (fun b_2 => ?_)
  refine OT.nil ?_
  refine KT.seq ?_
  refine TT.seq ?_
  refine TT.region ?_
  refine OT.pures hT 1 rfl ?_
  refine OT.load rfl rfl (Ld.one hT rfl (by repeat (first | exact Has.one | apply Has.there)) rfl) rfl ?_
  refine OT.build (cs := [.int .i64 next, .slice none 0 0]) hT rfl Try.zeroValue24 rfl rfl rfl rfl ?_
  refine OT.alloc Try.zeroValue24 rfl rfl (fun b_3 => ?_)
  refine OT.store_all hT rfl rfl rfl rfl (by repeat (first | exact Pull.head | apply Pull.tail)) rfl rfl rfl (.inl (Nat.le_refl _)) ?_
  refine OT.nil ?_
  refine KT.seq ?_
  refine TT.seq ?_
  refine TT.seq ?_
  refine TT.region ?_
  refine OT.pures hT 1 rfl ?_
  refine OT.nil ?_
  refine KT.seq ?_
  refine TT.block ?_
  refine TT.chunk0 ?_
  refine TT.loop (ι := Nat × (Option Addr) × Nat × Nat × Chunk) (fun j => (j.1) ≤ xs.length ∧ (j.1) ≤ 6 ∧ Own encSnap 35 42 (.slice (j.2.1) (j.2.2.1) (j.2.2.2.1)) ((xs.take (j.1)).map cutSnap) (j.2.2.2.2)) (fun j => xs.length - (j.1)) (fun j => [(1, .pointer (some ⟨b_1, 0, none⟩)), (2, .pointer (some ⟨b_2, 0, none⟩)), (3, .pointer (some ⟨b_3, 0, none⟩)), (4, .int .i64 ((j.1) : Nat))]) (fun j => [(b_3, blk [.int .i64 next, .slice (j.2.1) (j.2.2.1) (j.2.2.2.1)] 24 (0, 0))] :: [(b_2, blk [.int .i64 0, .slice none 0 0] 24 (0, 0))] :: [(b_1, blk [.int .i64 next, .slice a0 xs.length c0] 24 (0, 0))] :: (j.2.2.2.2) :: hs) (0, none, 0, 0, []) ?_ (SubR.cons rfl (SubR.cons rfl (SubR.cons rfl (SubR.cons rfl (SubR.nil _))))) (by repeat (first | exact Sel.refl _ | refine Sel.empty ?_ | refine Sel.pull (by repeat (first | exact Pull.head | apply Pull.tail)) ?_ | refine Sel.drop ?_)) ?_
  · dsimp only
    exact ⟨by omega, by omega, Own.nil⟩
  rintro ⟨i, a, n, c, K⟩ hI
  dsimp only at hI
  obtain ⟨hi, h6, hO⟩ := hI
  show TT _ _ _ [(1, .pointer (some ⟨b_1, 0, none⟩)), (2, .pointer (some ⟨b_2, 0, none⟩)), (3, .pointer (some ⟨b_3, 0, none⟩)), (4, .int .i64 (i : Nat))] ([(b_3, blk [.int .i64 next, .slice a n c] 24 (0, 0))] :: [(b_2, blk [.int .i64 0, .slice none 0 0] 24 (0, 0))] :: [(b_1, blk [.int .i64 next, .slice a0 xs.length c0] 24 (0, 0))] :: K :: hs)
  refine TT.seq ?_
  refine TT.seq ?_
  refine TT.region ?_
  refine OT.pures hT 2 rfl ?_
  refine OT.load rfl rfl (Ld.slc hT rfl (by repeat (first | exact Has.one | apply Has.there)) rfl) rfl ?_
  refine OT.pures hT 3 rfl ?_
  refine OT.split 14 rfl (fun g14 => ?_) (fun g14 => ?_)
  ·
    have g14 := of_decide_eq_true g14
    refine OT.pures hT 3 rfl ?_
    refine OT.nil ?_
    refine KT.seq ?_
    refine TT.cond rfl (fun c17 => ?_) (fun c17 => ?_)
    ·
      have c17 := of_decide_eq_true c17
      obtain ⟨s, hy⟩ : ∃ y, xs[i]? = some y := ⟨_, List.getElem?_eq_getElem (by omega)⟩
      have h35 := hr.1 s (List.mem_of_getElem? hy)
      refine TT.skip ?_
      refine KT.seq ?_
      refine TT.seq ?_
      refine TT.block ?_
      refine TT.seq ?_
      refine TT.region ?_
      refine OT.pures hT 1 rfl ?_
      refine OT.load rfl rfl (Ld.slc hT rfl (by repeat (first | exact Has.one | apply Has.there)) rfl) rfl ?_
      refine OT.pures hT 1 rfl ?_
      refine OT.index hT rfl rfl rfl rfl hr.there.there.there.there (by omega) hy rfl (fun ad_23 hel_23 => ?_)
      refine OT.load rfl rfl (hel_23.ld_struct hT rfl) rfl ?_
      refine OT.alloc Try.zeroValue42 rfl rfl (fun b_5 => ?_)
      refine OT.store_all hT rfl rfl rfl rfl (by repeat (first | exact Pull.head | apply Pull.tail)) (by exact h35) rfl (ones_snap s) (.inl (Nat.le_refl _)) ?_
      refine OT.nil ?_
      refine KT.seq ?_
      refine TT.seq ?_
      refine TT.region ?_
      refine OT.pures hT 1 rfl ?_
      refine OT.load rfl rfl (Ld.one hT rfl (by repeat (first | exact Has.one | apply Has.there)) rfl) rfl ?_
      refine OT.call Try.call11 rfl rfl rfl rfl (law1_Cut (n := 10)) ?_
      rintro v_27 hs_27 ⟨rfl, rfl⟩
      refine OT.pures hT 1 rfl ?_
      refine OT.store hT rfl rfl rfl rfl (by repeat (first | exact Pull.head | apply Pull.tail)) rfl (by show 0 + 0 + 1 ≤ (encSnap s).length; omega) rfl (.inl (Nat.le_refl _)) rfl ?_
      refine OT.nil ?_
      refine KT.seq ?_
      refine TT.region ?_
      refine OT.pures hT 1 rfl ?_
      refine OT.load rfl rfl (Ld.slc hT rfl (by repeat (first | exact Has.one | apply Has.there)) rfl) rfl ?_
      refine OT.load (v := .agg ⟨encSnap (cutSnap s)⟩) rfl rfl (Ld.struct_all hT rfl Has.one (by exact h35)) rfl ?_
      refine OT.buildSlice (enc := encSnap) (xs := [cutSnap s]) (xos := [.tmp 31]) el22 rfl rfl rfl rfl rfl (by intro v hv; simp only [List.mem_singleton] at hv; subst hv; exact h35) (by intro x hx; simp only [List.mem_singleton] at hx; subst hx; exact h35) rfl (by decide) rfl (fun v_32 H_32 ho_32 => ?_)
      refine OT.append hT el22 rfl rfl rfl rfl (by repeat (first | exact Pull.head | apply Pull.tail)) hO ho_32.row (ones_snaps _) (by simp; omega) rfl (fun v_33 H_33 ho_33 => ?_)
      obtain ⟨a_33, c_33, hv33⟩ := (ho_33.row (hs := hs)).len
      generalize hn33 : (((xs.take i).map cutSnap) ++ [cutSnap s]).length = n_33 at hv33
      subst hv33
      refine OT.pures hT 1 rfl ?_
      refine OT.store hT rfl rfl rfl rfl (by repeat (first | exact Pull.head | apply Pull.tail)) rfl (Nat.le_of_ble_eq_true rfl) rfl (.inl (Nat.le_refl _)) (cs' := [.int .i64 next, .slice a_33 n_33 c_33]) rfl ?_
      refine OT.nil ?_
      refine KT.blk ?_
      refine KT.seq ?_
      refine TT.region ?_
      refine OT.pures hT 3 rfl ?_
      refine OT.nil ?_
      refine KT.loop (i + 1, a_33, n_33, c_33, H_33) ?_ ?_ (SubR.cons rfl (SubR.cons rfl (SubR.cons rfl (SubR.cons' rfl (by (try dsimp only); exact (int_eq (by rw [wrap_i64 (by omega) (by omega)]; omega))) (SubR.nil _))))) (by repeat (first | exact Sel.refl _ | refine Sel.empty ?_ | refine Sel.pull (by repeat (first | exact Pull.head | apply Pull.tail)) ?_ | refine Sel.drop ?_))
      · dsimp only
        exact ⟨by omega, by omega, by rw [map_take_succ cutSnap xs hy]; exact ho_33⟩
      · dsimp only
        omega
    ·
      have c17 := of_decide_eq_false c17
      refine TT.exit ?_
      refine XT.seq ?_
      refine XT.loop ?_
      refine XT.here ?_
      refine KT.seq ?_
      refine TT.seq ?_
      refine TT.region ?_
      refine OT.load rfl rfl (Ld.struct_all hT rfl Has.one rfl) rfl ?_
      refine OT.store_all hT rfl rfl rfl rfl (by repeat (first | exact Pull.head | apply Pull.tail)) rfl rfl rfl (.inl (Nat.le_refl _)) ?_
      refine OT.nil ?_
      refine KT.seq ?_
      refine TT.ret ?_
      refine RT.of (rs := [.cell 2 24]) [_] (K :: hs) rfl (.cell rfl (Ld.struct_all hT rfl (by repeat (first | exact Has.one | apply Has.there)) rfl) .nil) (by repeat (first | exact Sel.refl _ | refine Sel.empty ?_ | refine Sel.pull (by repeat (first | exact Pull.head | apply Pull.tail)) ?_ | refine Sel.drop ?_)) ?_
      dsimp only [one]
      refine ⟨_, K, rfl, rfl, ?_⟩
      have e : (xs.take 6).map cutSnap = (xs.take i).map cutSnap := by
        by_cases h : i = 6
        · subst h; rfl
        · rw [List.take_of_length_le (by omega), List.take_of_length_le (by omega)]
      rw [e]; exact hO
  ·
    have g14 := of_decide_eq_false g14
    refine OT.pures hT 3 rfl ?_
    refine OT.nil ?_
    refine KT.seq ?_
    refine TT.cond_false rfl ?_
    refine TT.exit ?_
    refine XT.seq ?_
    refine XT.loop ?_
    refine XT.here ?_
    refine KT.seq ?_
    refine TT.seq ?_
    refine TT.region ?_
    refine OT.load rfl rfl (Ld.struct_all hT rfl Has.one rfl) rfl ?_
    refine OT.store_all hT rfl rfl rfl rfl (by repeat (first | exact Pull.head | apply Pull.tail)) rfl rfl rfl (.inl (Nat.le_refl _)) ?_
    refine OT.nil ?_
    refine KT.seq ?_
    refine TT.ret ?_
    refine RT.of (rs := [.cell 2 24]) [_] (K :: hs) rfl (.cell rfl (Ld.struct_all hT rfl (by repeat (first | exact Has.one | apply Has.there)) rfl) .nil) (by repeat (first | exact Sel.refl _ | refine Sel.empty ?_ | refine Sel.pull (by repeat (first | exact Pull.head | apply Pull.tail)) ?_ | refine Sel.drop ?_)) ?_
    dsimp only [one]
    refine ⟨_, K, rfl, rfl, ?_⟩
    have e : (xs.take 6).map cutSnap = (xs.take i).map cutSnap := by
      by_cases h : i = 6
      · subst h; rfl
      · rw [List.take_of_length_le (by omega), List.take_of_length_le (by omega)]
    rw [e]; exact hO

set_option maxHeartbeats 8000000 in
set_option maxRecDepth 100000 in
theorem law_CatAny {v vc : Value} {bs : List UInt8} {next at_ x : Int} {xs : List Snap} {hs : List Chunk} (hb : Row Go.Sx.encB 1 hs v bs) (hbl : bs.length ≤ 9223372036854775807) (hr : Row encSnap 35 hs vc xs) (hl : xs.length ≤ 9223372036854775807) : Fun Try.prog 4 [v, .agg ⟨[.int .i64 next, vc]⟩, .int .i64 at_, .int .u8 x] hs (fun v' hs' => v' = .bool true ∧ hs = hs') := by
  refine Fun.enter 58 Try.func4 rfl Try.ntmps4 rfl ?_
  obtain ⟨a0, c0, hv⟩ := hr.len
  subst hv
  obtain ⟨ab, cb, hvb⟩ := hb.len
  subst hvb
  refine TT.seq ?_
  refine TT.region ?_
  refine OT.box rfl rfl rfl (fun b_5 => ?_)
  refine OT.pures hT 1 rfl ?_
  refine OT.nil ?_
  refine KT.seq ?_
  refine TT.seq ?_
  refine TT.region ?_
  refine OT.call Try.call9 rfl rfl rfl rfl (law20_begun) ?_
  rintro v_12 hs_12 ⟨rfl, rfl⟩
  refine OT.pures hT 1 rfl ?_
  refine OT.nil ?_
  refine KT.seq ?_
  refine TT.seq ?_
  refine TT.seq ?_
  refine TT.region ?_
  refine OT.pures hT 2 rfl ?_
  refine OT.nil ?_
  refine KT.seq ?_
  refine TT.cond rfl (fun c14 => ?_) (fun c14 => ?_)
  ·
    exact absurd c14 (by decide)
  ·
    refine TT.skip ?_
    refine KT.seq ?_
    refine TT.seq ?_
    refine TT.region ?_
    refine OT.load rfl rfl (Ld.struct_all hT rfl (by repeat (first | exact Has.one | apply Has.there)) rfl) rfl ?_
    refine OT.call Try.call10 rfl rfl rfl rfl (law20_CutB hr.there hl) ?_
    rintro v_16 hs_16 ⟨w16, H16, rfl, rfl, ho16⟩
    generalize hys : (xs.take 6).map cutSnap = ys at ho16
    obtain ⟨a16, ca16, hv16⟩ := (ho16.row (hs := hs)).len
    subst hv16
    have hyl := cut_len hys
    refine OT.store_all hT rfl rfl rfl rfl (by repeat (first | exact Pull.head | apply Pull.tail)) rfl rfl rfl (.inl (Nat.le_refl _)) ?_
    refine OT.nil ?_
    refine KT.seq ?_
    refine TT.cut (ι := Value × (List UInt8)) (fun j => (j.2).length ≤ 260 ∧ Row Go.Sx.encB 1 ([(b_5, blk [.int .i64 next, .slice a16 ys.length ca16] 24 (0, 0))] :: H16 :: hs) (j.1) (j.2)) (fun j => [(0, (j.1)), (2, .int .i64 at_), (3, .int .u8 x), (5, .pointer (some ⟨b_5, 0, none⟩))]) (fun j => [(b_5, blk [.int .i64 next, .slice a16 ys.length ca16] 24 (0, 0))] :: H16 :: hs) ?_ ?_
    ·
      refine TT.seq ?_
      refine TT.region ?_
      refine OT.pures hT 3 rfl ?_
      refine OT.nil ?_
      refine KT.seq ?_
      refine TT.cond rfl (fun c19 => ?_) (fun c19 => ?_)
      ·
        have c19 := of_decide_eq_true c19
        refine TT.region ?_
        refine OT.pures hT 1 rfl ?_
        refine OT.slice 0 260 hT rfl rfl rfl rfl rfl (by first | exact hb | exact hb.there | exact hb.there.there | exact hb.there.there.there | exact hb.there.there.there.there | exact hb.there.there.there.there.there | exact hb.there.there.there.there.there.there | exact hb.there.there.there.there.there.there.there) (.inl ⟨rfl, rfl⟩) (.inr ⟨_, rfl⟩) (by omega) (by omega) rfl (fun v_21 hv_21 => ?_)
        refine OT.pures hT 1 rfl ?_
        refine OT.nil ?_
        refine KT.cut (v_21, (bs.take 260).drop 0) ?_ (SubR.cons rfl (SubR.cons rfl (SubR.cons rfl (SubR.cons rfl (SubR.nil _))))) (by repeat (first | exact Sel.refl _ | refine Sel.empty ?_ | refine Sel.pull (by repeat (first | exact Pull.head | apply Pull.tail)) ?_ | refine Sel.drop ?_))
        · dsimp only
          exact ⟨by rw [List.drop_zero, List.length_take]; omega, hv_21⟩
      ·
        have c19 := of_decide_eq_false c19
        refine TT.skip ?_
        refine KT.cut (.slice ab bs.length cb, bs) ?_ (SubR.cons rfl (SubR.cons rfl (SubR.cons rfl (SubR.cons rfl (SubR.nil _))))) (by repeat (first | exact Sel.refl _ | refine Sel.empty ?_ | refine Sel.pull (by repeat (first | exact Pull.head | apply Pull.tail)) ?_ | refine Sel.drop ?_))
        · dsimp only
          exact ⟨by omega, hb.there.there⟩
    ·
      rintro ⟨v2, b2⟩ hI
      dsimp only at hI
      obtain ⟨hb2, hB⟩ := hI
      show TT _ _ _ [(0, v2), (2, .int .i64 at_), (3, .int .u8 x), (5, .pointer (some ⟨b_5, 0, none⟩))] ([(b_5, blk [.int .i64 next, .slice a16 ys.length ca16] 24 (0, 0))] :: H16 :: hs)
      have hwl := whole_le (b2.take 256)
      refine TT.seq ?_
      refine TT.seq ?_
      refine TT.region ?_
      refine OT.pures hT 1 rfl ?_
      refine OT.call Try.call27 rfl rfl rfl rfl (law20_tells hB (by omega)) ?_
      rintro v_23 hs_23 ⟨rfl, rfl⟩
      refine OT.pures hT 2 rfl ?_
      refine OT.split 25 rfl (fun g25 => ?_) (fun g25 => ?_)
      ·
        exact absurd g25 (by decide)
      ·
        refine OT.pures hT 1 rfl ?_
        refine OT.call Try.call29 rfl rfl rfl rfl (law1_Short (n := 256) hB) ?_
        rintro v_27 hs_27 ⟨hv27, rfl⟩
        refine OT.call Try.call28 rfl rfl rfl rfl (ref_Whole hv27 (by have := List.length_take_le 256 b2; omega)) ?_
        rintro v_28 hs_28 ⟨H28, rfl, ho28⟩
        refine OT.call Try.call27 rfl rfl rfl rfl (law20_tells ho28.row (by omega)) ?_
        rintro v_29 hs_29 ⟨rfl, rfl⟩
        refine OT.pures hT 2 rfl ?_
        refine OT.nil ?_
        refine KT.seq ?_
        refine TT.cond rfl (fun c31 => ?_) (fun c31 => ?_)
        ·
          exact absurd c31 (by decide)
        ·
          refine TT.skip ?_
          refine KT.seq ?_
          refine TT.seq ?_
          refine TT.region ?_
          refine OT.load rfl rfl (Ld.struct_all hT rfl (by repeat (first | exact Has.one | apply Has.there)) rfl) rfl ?_
          refine OT.call Try.call16 rfl rfl rfl rfl (ref_CatBytes (by first | exact ho16.row | exact ho16.row.there | exact ho16.row.there.there | exact ho16.row.there.there.there | exact ho16.row.there.there.there.there | exact ho16.row.there.there.there.there.there | exact ho16.row.there.there.there.there.there.there | exact ho16.row.there.there.there.there.there.there.there) (by omega)) ?_
          rintro v_33 hs_33 ⟨H33, rfl, ho33⟩
          obtain ⟨a33, ca33, hv33⟩ := (ho33.row (hs := hs)).len
          subst hv33
          refine OT.pures hT 1 rfl ?_
          refine OT.nil ?_
          refine KT.seq ?_
          refine TT.seq ?_
          refine TT.seq ?_
          refine TT.region ?_
          refine OT.pures hT 4 rfl ?_
          refine OT.split 37 rfl (fun g37 => ?_) (fun g37 => ?_)
          ·
            have g37 : ((catBytesR next ys).length : Int) = 0 := by simpa using g37
            refine OT.pures hT 3 rfl ?_
            refine OT.nil ?_
            refine KT.seq ?_
            refine TT.cond_true rfl ?_
            refine TT.seq ?_
            refine TT.region ?_
            refine OT.pures hT 1 rfl ?_
            refine OT.nil ?_
            refine KT.seq ?_
            refine TT.ret ?_
            refine RT.of (rs := [.tmp 8]) [_] hs rfl (.tmp rfl .nil) (by repeat (first | exact Sel.refl _ | refine Sel.empty ?_ | refine Sel.pull (by repeat (first | exact Pull.head | apply Pull.tail)) ?_ | refine Sel.drop ?_)) ?_
            dsimp only [one]
            exact ⟨rfl, rfl⟩
          ·
            have g37 : ¬ ((catBytesR next ys).length : Int) = 0 := by simpa using g37
            refine OT.pures hT 3 rfl ?_
            refine OT.nil ?_
            refine KT.seq ?_
            refine TT.cond rfl (fun c40 => ?_) (fun c40 => ?_)
            ·
              have c40 := of_decide_eq_true c40
              refine TT.seq ?_
              refine TT.region ?_
              refine OT.pures hT 1 rfl ?_
              refine OT.nil ?_
              refine KT.seq ?_
              refine TT.ret ?_
              refine RT.of (rs := [.tmp 8]) [_] hs rfl (.tmp rfl .nil) (by repeat (first | exact Sel.refl _ | refine Sel.empty ?_ | refine Sel.pull (by repeat (first | exact Pull.head | apply Pull.tail)) ?_ | refine Sel.drop ?_)) ?_
              dsimp only [one]
              exact ⟨rfl, rfl⟩
            ·
              have c40 := of_decide_eq_false c40
              refine TT.skip ?_
              refine KT.seq ?_
              refine TT.seq ?_
              refine TT.region ?_
              refine OT.pures hT 1 rfl ?_
              have h256 := bytesR_len ho16.1 g37
              have hrm : 0 ≤ at_.tmod 256 ∧ at_.tmod 256 < 256 := by rw [Int.tmod_eq_emod_of_nonneg (by omega)]; omega
              refine OT.chunk0 ?_
              refine OT.append hT el29 rfl rfl rfl rfl (by repeat (first | exact Pull.head | apply Pull.tail)) Own.nil (by first | exact ho33.row | exact ho33.row.there | exact ho33.row.there.there | exact ho33.row.there.there.there | exact ho33.row.there.there.there.there | exact ho33.row.there.there.there.there.there | exact ho33.row.there.there.there.there.there.there | exact ho33.row.there.there.there.there.there.there.there) (ones_B _) (by simp only [List.length_nil]; omega) rfl (fun v_42 H_42 ho_42 => ?_)
              rw [List.nil_append] at ho_42
              obtain ⟨a42, ca42, hv42⟩ := (ho_42.row (hs := hs)).len
              subst hv42
              refine OT.pures hT 1 rfl ?_
              refine OT.nil ?_
              refine KT.seq ?_
              refine TT.seq ?_
              refine TT.region ?_
              refine OT.pures hT 3 rfl ?_
              obtain ⟨z, hz⟩ := nth (l := catBytesR next ys) (i := (at_.tmod 256).toNat) (by omega)
              obtain ⟨eb, eo, ec, ecs, efr, hva, rfl, hth, hle, hat, hget, hset⟩ := ho_42.spot hz
              refine OT.index_raw hT rfl rfl (congrArg some hva) rfl hrm.1 (by omega) rfl ?_
              refine OT.load rfl rfl (Ld.one hT rfl (by repeat (first | exact Has.one | apply Has.there)) (hget (j := 0) rfl rfl)) rfl ?_
              refine OT.pures hT 2 rfl ?_
              refine OT.index_raw hT rfl rfl (congrArg some hva) rfl hrm.1 (by omega) rfl ?_
              refine OT.store hT rfl rfl rfl rfl (by repeat (first | exact Pull.head | apply Pull.tail)) rfl (by show _ + 1 ≤ _; omega) rfl hth rfl ?_
              have hO3 := hset (j := 0) (vals := [.int .u8 (IntKind.u8.wrap ((BitVec.ofInt IntKind.u8.bits (z.toNat : Int) ^^^ BitVec.ofInt IntKind.u8.bits x).toNat : Int))]) (x' := b8 ((BitVec.ofInt IntKind.u8.bits (z.toNat : Int) ^^^ BitVec.ofInt IntKind.u8.bits x).toNat : Int)) rfl (Nat.le_refl 1) (by show [Value.int .u8 (IntKind.u8.wrap _)] = _; rw [b8_wrap])
              refine OT.nil ?_
              refine KT.seq ?_
              refine TT.seq ?_
              refine TT.region ?_
              refine OT.pures hT 1 rfl ?_
              refine OT.call Try.call27 rfl rfl rfl rfl (law20_tells hO3.row (by rw [List.length_set]; omega)) ?_
              rintro v_52 hs_52 ⟨rfl, rfl⟩
              refine OT.pures hT 1 rfl ?_
              refine OT.split 53 rfl (fun g53 => ?_) (fun g53 => ?_)
              ·
                refine OT.pures hT 1 rfl ?_
                refine OT.slice 0 255 hT rfl rfl rfl rfl rfl hO3.row (.inl ⟨rfl, rfl⟩) (.inr ⟨_, rfl⟩) (by omega) (by rw [List.length_set]; omega) rfl (fun v_55 hv_55 => ?_)
                refine OT.call Try.call27 rfl rfl rfl rfl (law20_tells hv_55 (by rw [List.drop_zero, List.length_take]; omega)) ?_
                rintro v_56 hs_56 ⟨rfl, rfl⟩
                refine OT.pures hT 2 rfl ?_
                refine OT.nil ?_
                refine KT.seq ?_
                refine TT.ret ?_
                refine RT.of (rs := [.tmp 8]) [_] hs rfl (.tmp rfl .nil) (by repeat (first | exact Sel.refl _ | refine Sel.empty ?_ | refine Sel.pull (by repeat (first | exact Pull.head | apply Pull.tail)) ?_ | refine Sel.drop ?_)) ?_
                dsimp only [one]
                exact ⟨rfl, rfl⟩
              ·
                exact absurd g53 (by decide)

end Go.Proofs.Ytpijialhhdpobaa.Sx
