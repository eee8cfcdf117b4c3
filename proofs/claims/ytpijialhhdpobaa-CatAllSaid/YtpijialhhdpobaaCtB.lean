/- Which catalogs may be: what the program's May, Find and the document's MayCat compute. Printed by a program of ours off the loaded program and our notes; Lean checks it. -/
import Derived.Test.YtpijialhhdpobaaPlB
import Derived.Test.YtpijialhhdpobaaSxT
import Derived.Test.YtpijialhhdpobaaCtA
namespace Go.Proofs.Ytpijialhhdpobaa.Sx
open Go Go.Sx Go.Pl
variable [Outer]

set_option maxHeartbeats 1000000 in
set_option maxRecDepth 100000 in
theorem sl_Index {v : Value} {xs : List Int} {x : Int} {hs : List Chunk} (hr : Row Go.Sx.encI 1 hs v xs) (hl : xs.length ≤ 1073741824) : Fun Try.prog 46 [v, .int .i64 x] hs (fun v' hs' => v' = .int .i64 (findAt (fun y => x == y) 0 xs) ∧ hs = hs') := by
  refine Fun.enter 19 Try.func46 rfl Try.ntmps46 rfl ?_
  obtain ⟨a0, c0, hv⟩ := hr.len
  subst hv
  refine TT.seq ?_
  refine TT.region ?_
  refine OT.pures hT 1 rfl ?_
  refine OT.nil ?_
  refine KT.seq ?_
  refine TT.seq ?_
  refine TT.seq ?_
  refine TT.region ?_
  refine OT.pures hT 3 rfl ?_
  refine OT.nil ?_
  refine KT.seq ?_
  refine TT.block ?_
  refine TT.loop (ι := Nat) (fun j => (j) ≤ xs.length ∧ findAt (fun y => x == y) (j) (xs.drop (j)) = findAt (fun y => x == y) 0 xs) (fun j => xs.length - (j)) (fun j => [(0, .slice a0 xs.length c0), (1, .int .i64 x), (7, .int .i64 xs.length), (8, .int .i64 ((j) : Nat))]) (fun j => hs) (0) ?_ (SubR.cons rfl (SubR.cons rfl (SubR.cons rfl (SubR.cons rfl (SubR.nil _))))) (by repeat (first | exact Sel.refl _ | refine Sel.empty ?_ | refine Sel.pull (by repeat (first | exact Pull.head | apply Pull.tail)) ?_ | refine Sel.drop ?_)) ?_
  · exact ⟨by omega, rfl⟩
  rintro i ⟨hi, hp⟩
  show TT _ _ _ [(0, .slice a0 xs.length c0), (1, .int .i64 x), (7, .int .i64 xs.length), (8, .int .i64 (i : Nat))] (hs)
  refine TT.seq ?_
  refine TT.region ?_
  refine OT.pures hT 1 rfl ?_
  refine OT.nil ?_
  refine KT.seq ?_
  refine TT.seq ?_
  refine TT.cond rfl (fun c9 => ?_) (fun c9 => ?_)
  ·
    have c9 := of_decide_eq_true c9
    obtain ⟨y, hy⟩ : ∃ y, xs[i]? = some y := ⟨_, List.getElem?_eq_getElem (by omega)⟩
    rw [List.drop_eq_getElem_cons (by omega), show xs[i]'(by omega) = y from by rw [List.getElem?_eq_getElem (by omega)] at hy; exact Option.some.inj hy, findAt] at hp
    refine TT.skip ?_
    refine KT.seq ?_
    refine TT.seq ?_
    refine TT.block ?_
    refine TT.seq ?_
    refine TT.region ?_
    refine OT.pures hT 2 rfl ?_
    refine OT.nil ?_
    refine KT.seq ?_
    refine TT.seq ?_
    refine TT.region ?_
    refine OT.pures hT 3 rfl ?_
    refine OT.index hT rfl rfl rfl rfl hr (by omega) hy rfl (fun ad_14 hel_14 => ?_)
    refine OT.load rfl rfl (hel_14.ld_one hT rfl rfl) rfl ?_
    refine OT.pures hT 1 rfl ?_
    refine OT.nil ?_
    refine KT.seq ?_
    refine TT.cond rfl (fun c16 => ?_) (fun c16 => ?_)
    ·
      rw [if_pos c16] at hp
      refine TT.seq ?_
      refine TT.region ?_
      refine OT.pures hT 2 rfl ?_
      refine OT.nil ?_
      refine KT.seq ?_
      refine TT.ret ?_
      refine RT.of (rs := [.tmp 4]) [_] hs rfl (.tmp rfl .nil) (by repeat (first | exact Sel.refl _ | refine Sel.empty ?_ | refine Sel.pull (by repeat (first | exact Pull.head | apply Pull.tail)) ?_ | refine Sel.drop ?_)) ?_
      dsimp only [one]
      exact ⟨by rw [← hp], rfl⟩
    ·
      rw [if_neg (by simp only [c16]; decide)] at hp
      refine TT.skip ?_
      refine KT.blk ?_
      refine KT.seq ?_
      refine TT.region ?_
      refine OT.pures hT 2 rfl ?_
      refine OT.nil ?_
      refine KT.loop (i + 1) ?_ ?_ (SubR.cons rfl (SubR.cons rfl (SubR.cons rfl (SubR.cons' rfl (by (try dsimp only); exact (int_eq (by rw [wrap_i64 (by omega) (by omega)]; omega))) (SubR.nil _))))) (by repeat (first | exact Sel.refl _ | refine Sel.empty ?_ | refine Sel.pull (by repeat (first | exact Pull.head | apply Pull.tail)) ?_ | refine Sel.drop ?_))
      · exact ⟨by omega, hp⟩
      · omega
  ·
    have c9 := of_decide_eq_false c9
    rw [List.drop_eq_nil_of_le (by omega), findAt] at hp
    refine TT.exit ?_
    refine XT.seq ?_
    refine XT.loop ?_
    refine XT.here ?_
    refine KT.seq ?_
    refine TT.seq ?_
    refine TT.region ?_
    refine OT.pures hT 1 rfl ?_
    refine OT.nil ?_
    refine KT.seq ?_
    refine TT.ret ?_
    refine RT.of (rs := [.tmp 4]) [_] hs rfl (.tmp rfl .nil) (by repeat (first | exact Sel.refl _ | refine Sel.empty ?_ | refine Sel.pull (by repeat (first | exact Pull.head | apply Pull.tail)) ?_ | refine Sel.drop ?_)) ?_
    dsimp only [one]
    exact ⟨by rw [← hp], rfl⟩

set_option maxHeartbeats 1000000 in
set_option maxRecDepth 100000 in
theorem sl_Contains {v : Value} {xs : List Int} {x : Int} {hs : List Chunk} (hr : Row Go.Sx.encI 1 hs v xs) (hl : xs.length ≤ 1073741824) : Fun Try.prog 34 [v, .int .i64 x] hs (fun v' hs' => v' = .bool (decide (x ∈ xs)) ∧ hs = hs') := by
  refine Fun.enter 9 Try.func34 rfl Try.ntmps34 rfl ?_
  refine TT.seq ?_
  refine TT.region ?_
  refine OT.pures hT 1 rfl ?_
  refine OT.nil ?_
  refine KT.seq ?_
  refine TT.seq ?_
  refine TT.region ?_
  refine OT.pures hT 2 rfl ?_
  refine OT.call Try.call46 rfl rfl rfl rfl (sl_Index hr hl) ?_
  rintro v_7 hs_7 ⟨rfl, rfl⟩
  refine OT.pures hT 2 rfl ?_
  refine OT.nil ?_
  refine KT.seq ?_
  refine TT.ret ?_
  refine RT.of (rs := [.tmp 4]) [_] hs rfl (.tmp rfl .nil) (by repeat (first | exact Sel.refl _ | refine Sel.empty ?_ | refine Sel.pull (by repeat (first | exact Pull.head | apply Pull.tail)) ?_ | refine Sel.drop ?_)) ?_
  dsimp only [one]
  exact ⟨congrArg Value.bool (decide_eq_decide.2 (by rw [ge_iff_le, findAt_nonneg]; simp)), rfl⟩

set_option maxHeartbeats 1000000 in
set_option maxRecDepth 100000 in
theorem Find1 {s : Snap} {b : Nat} {nm : ByteArray} {t : Nat} {fr : Nat × Nat} {hs : List Chunk} (hb : Has hs b (blk [.string nm] t fr)) : Fun Try.prog 43 [.agg ⟨encSnap s⟩, .pointer (some ⟨b, 0, none⟩)] hs (fun v' hs' => v' = .bool (named nm s) ∧ hs = hs') := by
  refine Fun.enter 8 Try.func43 rfl Try.ntmps43 rfl ?_
  refine TT.seq ?_
  refine TT.region ?_
  refine OT.box rfl rfl rfl (fun b_2 => ?_)
  refine OT.pures hT 1 rfl ?_
  refine OT.nil ?_
  refine KT.seq ?_
  refine TT.seq ?_
  refine TT.region ?_
  refine OT.pures hT 1 rfl ?_
  refine OT.load rfl rfl (Ld.one hT rfl (by repeat (first | exact Has.one | apply Has.there)) rfl) rfl ?_
  refine OT.load rfl rfl (Ld.one hT rfl hb.there rfl) rfl ?_
  refine OT.pures hT 2 rfl ?_
  refine OT.nil ?_
  refine KT.seq ?_
  refine TT.ret ?_
  refine RT.of (rs := [.tmp 3]) [_] hs rfl (.tmp rfl .nil) (by repeat (first | exact Sel.refl _ | refine Sel.empty ?_ | refine Sel.pull (by repeat (first | exact Pull.head | apply Pull.tail)) ?_ | refine Sel.drop ?_)) ?_
  dsimp only [one]
  exact ⟨rfl, rfl⟩

set_option maxHeartbeats 1000000 in
set_option maxRecDepth 100000 in
theorem sl_IndexFunc {v : Value} {xs : List Snap} {b : Nat} {nm : ByteArray} {t : Nat} {fr : Nat × Nat} {hs : List Chunk} (hr : Row encSnap 35 hs v xs) (hl : xs.length ≤ 1073741824) (hb : Has hs b (blk [.string nm] t fr)) : Fun Try.prog 42 [v, .func (.func 43) ⟨[]⟩ ⟨[.pointer (some ⟨b, 0, none⟩)]⟩] hs (fun v' hs' => v' = .int .i64 (findAt (named nm) 0 xs) ∧ hs = hs') := by
  refine Fun.enter 19 Try.func42 rfl Try.ntmps42 rfl ?_
  obtain ⟨a0, c0, hv⟩ := hr.len
  subst hv
  refine TT.seq ?_
  refine TT.region ?_
  refine OT.pures hT 1 rfl ?_
  refine OT.nil ?_
  refine KT.seq ?_
  refine TT.seq ?_
  refine TT.seq ?_
  refine TT.region ?_
  refine OT.pures hT 3 rfl ?_
  refine OT.nil ?_
  refine KT.seq ?_
  refine TT.block ?_
  refine TT.loop (ι := Nat) (fun j => (j) ≤ xs.length ∧ findAt (named nm) (j) (xs.drop (j)) = findAt (named nm) 0 xs) (fun j => xs.length - (j)) (fun j => [(0, .slice a0 xs.length c0), (1, .func (.func 43) ⟨[]⟩ ⟨[.pointer (some ⟨b, 0, none⟩)]⟩), (7, .int .i64 xs.length), (8, .int .i64 ((j) : Nat))]) (fun j => hs) (0) ?_ (SubR.cons rfl (SubR.cons rfl (SubR.cons rfl (SubR.cons rfl (SubR.nil _))))) (by repeat (first | exact Sel.refl _ | refine Sel.empty ?_ | refine Sel.pull (by repeat (first | exact Pull.head | apply Pull.tail)) ?_ | refine Sel.drop ?_)) ?_
  · exact ⟨by omega, rfl⟩
  rintro i ⟨hi, hp⟩
  show TT _ _ _ [(0, .slice a0 xs.length c0), (1, .func (.func 43) ⟨[]⟩ ⟨[.pointer (some ⟨b, 0, none⟩)]⟩), (7, .int .i64 xs.length), (8, .int .i64 (i : Nat))] (hs)
  refine TT.seq ?_
  refine TT.region ?_
  refine OT.pures hT 1 rfl ?_
  refine OT.nil ?_
  refine KT.seq ?_
  refine TT.seq ?_
  refine TT.cond rfl (fun c9 => ?_) (fun c9 => ?_)
  ·
    have c9 := of_decide_eq_true c9
    obtain ⟨y, hy⟩ : ∃ y, xs[i]? = some y := ⟨_, List.getElem?_eq_getElem (by omega)⟩
    rw [List.drop_eq_getElem_cons (by omega), show xs[i]'(by omega) = y from by rw [List.getElem?_eq_getElem (by omega)] at hy; exact Option.some.inj hy, findAt] at hp
    refine TT.skip ?_
    refine KT.seq ?_
    refine TT.seq ?_
    refine TT.block ?_
    refine TT.seq ?_
    refine TT.region ?_
    refine OT.pures hT 2 rfl ?_
    refine OT.nil ?_
    refine KT.seq ?_
    refine TT.seq ?_
    refine TT.region ?_
    refine OT.pures hT 3 rfl ?_
    refine OT.index hT rfl rfl rfl rfl hr (by omega) hy rfl (fun ad_14 hel_14 => ?_)
    refine OT.load rfl rfl (hel_14.ld_struct hT rfl) rfl ?_
    refine OT.callc Try.call43 rfl rfl rfl rfl (Find1 hb) ?_
    rintro v_16 hs_16 ⟨rfl, rfl⟩
    refine OT.nil ?_
    refine KT.seq ?_
    refine TT.cond rfl (fun c16 => ?_) (fun c16 => ?_)
    ·
      rw [if_pos c16] at hp
      refine TT.seq ?_
      refine TT.region ?_
      refine OT.pures hT 2 rfl ?_
      refine OT.nil ?_
      refine KT.seq ?_
      refine TT.ret ?_
      refine RT.of (rs := [.tmp 4]) [_] hs rfl (.tmp rfl .nil) (by repeat (first | exact Sel.refl _ | refine Sel.empty ?_ | refine Sel.pull (by repeat (first | exact Pull.head | apply Pull.tail)) ?_ | refine Sel.drop ?_)) ?_
      dsimp only [one]
      exact ⟨by rw [← hp], rfl⟩
    ·
      rw [if_neg (by simp only [c16]; decide)] at hp
      refine TT.skip ?_
      refine KT.blk ?_
      refine KT.seq ?_
      refine TT.region ?_
      refine OT.pures hT 2 rfl ?_
      refine OT.nil ?_
      refine KT.loop (i + 1) ?_ ?_ (SubR.cons rfl (SubR.cons rfl (SubR.cons rfl (SubR.cons' rfl (by (try dsimp only); exact (int_eq (by rw [wrap_i64 (by omega) (by omega)]; omega))) (SubR.nil _))))) (by repeat (first | exact Sel.refl _ | refine Sel.empty ?_ | refine Sel.pull (by repeat (first | exact Pull.head | apply Pull.tail)) ?_ | refine Sel.drop ?_))
      · exact ⟨by omega, hp⟩
      · omega
  ·
    have c9 := of_decide_eq_false c9
    rw [List.drop_eq_nil_of_le (by omega), findAt] at hp
    refine TT.exit ?_
    refine XT.seq ?_
    refine XT.loop ?_
    refine XT.here ?_
    refine KT.seq ?_
    refine TT.seq ?_
    refine TT.region ?_
    refine OT.pures hT 1 rfl ?_
    refine OT.nil ?_
    refine KT.seq ?_
    refine TT.ret ?_
    refine RT.of (rs := [.tmp 4]) [_] hs rfl (.tmp rfl .nil) (by repeat (first | exact Sel.refl _ | refine Sel.empty ?_ | refine Sel.pull (by repeat (first | exact Pull.head | apply Pull.tail)) ?_ | refine Sel.drop ?_)) ?_
    dsimp only [one]
    exact ⟨by rw [← hp], rfl⟩

set_option maxHeartbeats 1000000 in
set_option maxRecDepth 100000 in
theorem cat_Find {next : Int} {v : Value} {xs : List Snap} {nm : ByteArray} {hs : List Chunk} (hr : Row encSnap 35 hs v xs) (hl : xs.length ≤ 1073741824) : Fun Try.prog 26 [.agg ⟨[.int .i64 next, v]⟩, .string nm] hs (fun v' hs' => v' = .int .i64 (findAt (named nm) 0 xs) ∧ hs = hs') := by
  refine Fun.enter 9 Try.func26 rfl Try.ntmps26 rfl ?_
  obtain ⟨a0, c0, hv⟩ := hr.len
  subst hv
  refine TT.seq ?_
  refine TT.region ?_
  refine OT.box rfl rfl rfl (fun b_2 => ?_)
  refine OT.box rfl rfl rfl (fun b_3 => ?_)
  refine OT.pures hT 1 rfl ?_
  refine OT.nil ?_
  refine KT.seq ?_
  refine TT.seq ?_
  refine TT.region ?_
  refine OT.pures hT 1 rfl ?_
  refine OT.load rfl rfl (Ld.slc hT rfl (by repeat (first | exact Has.one | apply Has.there)) rfl) rfl ?_
  refine OT.pures hT 1 rfl ?_
  refine OT.call Try.call42 rfl rfl rfl rfl (sl_IndexFunc hr.there.there hl Has.one) ?_
  rintro v_8 hs_8 ⟨rfl, rfl⟩
  refine OT.pures hT 1 rfl ?_
  refine OT.nil ?_
  refine KT.seq ?_
  refine TT.ret ?_
  refine RT.of (rs := [.tmp 4]) [_] hs rfl (.tmp rfl .nil) (by repeat (first | exact Sel.refl _ | refine Sel.empty ?_ | refine Sel.pull (by repeat (first | exact Pull.head | apply Pull.tail)) ?_ | refine Sel.drop ?_)) ?_
  dsimp only [one]
  exact ⟨rfl, rfl⟩

set_option maxHeartbeats 4000000 in
set_option maxRecDepth 100000 in
theorem cat_May {next : Int} {v : Value} {xs : List Snap} {hs : List Chunk} (hr : Row encSnap 35 hs v xs) (hl : xs.length ≤ 1073741824) : Fun Try.prog 15 [.agg ⟨[.int .i64 next, v]⟩] hs (fun v' hs' => v' = .bool (mayB next xs) ∧ hs = hs') := by
  refine Fun.enter 94 Try.func15 rfl Try.ntmps15 rfl ?_
  obtain ⟨a0, c0, hv⟩ := hr.len
  subst hv
  refine TT.seq ?_
  refine TT.region ?_
  refine OT.box rfl rfl rfl (fun b_1 => ?_)
  refine OT.pures hT 1 rfl ?_
  refine OT.nil ?_
  refine KT.seq ?_
  refine TT.seq ?_
  refine TT.seq ?_
  refine TT.region ?_
  refine OT.pures hT 1 rfl ?_
  refine OT.load rfl rfl (Ld.one hT rfl (by repeat (first | exact Has.one | apply Has.there)) rfl) rfl ?_
  refine OT.pures hT 2 rfl ?_
  refine OT.split 12 rfl (fun g12 => ?_) (fun g12 => ?_)
  ·
    have g12 := of_decide_eq_true g12
    refine OT.pures hT 10 rfl ?_
    refine OT.nil ?_
    refine KT.seq ?_
    refine TT.cond_true rfl ?_
    refine TT.seq ?_
    refine TT.region ?_
    refine OT.pures hT 1 rfl ?_
    refine OT.nil ?_
    refine KT.seq ?_
    refine TT.ret ?_
    refine RT.of (rs := [.tmp 2]) [_] hs rfl (.tmp rfl .nil) (by repeat (first | exact Sel.refl _ | refine Sel.empty ?_ | refine Sel.pull (by repeat (first | exact Pull.head | apply Pull.tail)) ?_ | refine Sel.drop ?_)) ?_
    dsimp only [one]
    exact ⟨by unfold mayB; rw [if_pos (by omega)], rfl⟩
  ·
    have g12 := of_decide_eq_false g12
    refine OT.pures hT 1 rfl ?_
    refine OT.load rfl rfl (Ld.one hT rfl (by repeat (first | exact Has.one | apply Has.there)) rfl) rfl ?_
    refine OT.pures hT 3 rfl ?_
    refine OT.split 17 rfl (fun g17 => ?_) (fun g17 => ?_)
    ·
      have g17 := of_decide_eq_true g17
      refine OT.pures hT 5 rfl ?_
      refine OT.nil ?_
      refine KT.seq ?_
      refine TT.cond_true rfl ?_
      refine TT.seq ?_
      refine TT.region ?_
      refine OT.pures hT 1 rfl ?_
      refine OT.nil ?_
      refine KT.seq ?_
      refine TT.ret ?_
      refine RT.of (rs := [.tmp 2]) [_] hs rfl (.tmp rfl .nil) (by repeat (first | exact Sel.refl _ | refine Sel.empty ?_ | refine Sel.pull (by repeat (first | exact Pull.head | apply Pull.tail)) ?_ | refine Sel.drop ?_)) ?_
      dsimp only [one]
      exact ⟨by unfold mayB; rw [if_pos (by omega)], rfl⟩
    ·
      have g17 := of_decide_eq_false g17
      refine OT.pures hT 1 rfl ?_
      refine OT.load rfl rfl (Ld.slc hT rfl (by repeat (first | exact Has.one | apply Has.there)) rfl) rfl ?_
      refine OT.pures hT 3 rfl ?_
      refine OT.nil ?_
      refine KT.seq ?_
      refine TT.cond rfl (fun c22 => ?_) (fun c22 => ?_)
      ·
        have c22 := of_decide_eq_true c22
        refine TT.seq ?_
        refine TT.region ?_
        refine OT.pures hT 1 rfl ?_
        refine OT.nil ?_
        refine KT.seq ?_
        refine TT.ret ?_
        refine RT.of (rs := [.tmp 2]) [_] hs rfl (.tmp rfl .nil) (by repeat (first | exact Sel.refl _ | refine Sel.empty ?_ | refine Sel.pull (by repeat (first | exact Pull.head | apply Pull.tail)) ?_ | refine Sel.drop ?_)) ?_
        dsimp only [one]
        exact ⟨by unfold mayB; rw [if_pos (by omega)], rfl⟩
      ·
        have c22 := of_decide_eq_false c22
        have hp : mayOut next xs 0 0 [] xs = mayB next xs := by unfold mayB; rw [if_neg (by omega)]
        refine TT.skip ?_
        refine KT.seq ?_
        refine TT.seq ?_
        refine TT.region ?_
        refine OT.pures hT 1 rfl ?_
        refine OT.nil ?_
        refine KT.seq ?_
        refine TT.seq ?_
        refine TT.region ?_
        refine OT.pures hT 1 rfl ?_
        refine OT.nil ?_
        refine KT.seq ?_
        refine TT.seq ?_
        refine TT.seq ?_
        refine TT.region ?_
        refine OT.pures hT 1 rfl ?_
        refine OT.load rfl rfl (Ld.slc hT rfl (by repeat (first | exact Has.one | apply Has.there)) rfl) rfl ?_
        refine OT.pures hT 2 rfl ?_
        refine OT.nil ?_
        refine KT.seq ?_
        refine TT.block ?_
        refine TT.chunk0 ?_
        refine TT.loop (ι := Nat × Int × (List Int) × Value × Chunk) (fun j => (j.1) ≤ xs.length ∧ Own Go.Sx.encI 1 3 (j.2.2.2.1) (j.2.2.1) (j.2.2.2.2) ∧ (j.2.2.1).length ≤ 32 * (j.1) ∧ mayOut next xs (j.1) (j.2.1) (j.2.2.1) (xs.drop (j.1)) = mayB next xs) (fun j => xs.length - (j.1)) (fun j => [(1, .pointer (some ⟨b_1, 0, none⟩)), (3, .int .i64 (j.2.1)), (4, (j.2.2.2.1)), (24, .slice a0 xs.length c0), (25, .int .i64 xs.length), (26, .int .i64 ((j.1) : Nat))]) (fun j => [(b_1, blk [.int .i64 next, .slice a0 xs.length c0] 33 (0, 0))] :: (j.2.2.2.2) :: hs) (0, 0, [], .slice none 0 0, []) ?_ (SubR.cons rfl (SubR.cons rfl (SubR.cons rfl (SubR.cons rfl (SubR.cons rfl (SubR.cons rfl (SubR.nil _))))))) (by repeat (first | exact Sel.refl _ | refine Sel.empty ?_ | refine Sel.pull (by repeat (first | exact Pull.head | apply Pull.tail)) ?_ | refine Sel.drop ?_)) ?_
        · dsimp only
          exact ⟨by omega, Own.nil, by simp, hp⟩
        rintro ⟨i, last, seen, w, K⟩ hI
        dsimp only at hI
        obtain ⟨hi, hO, hsl, hp⟩ := hI
        show TT _ _ _ [(1, .pointer (some ⟨b_1, 0, none⟩)), (3, .int .i64 last), (4, w), (24, .slice a0 xs.length c0), (25, .int .i64 xs.length), (26, .int .i64 (i : Nat))] ([(b_1, blk [.int .i64 next, .slice a0 xs.length c0] 33 (0, 0))] :: K :: hs)
        refine TT.seq ?_
        refine TT.region ?_
        refine OT.pures hT 1 rfl ?_
        refine OT.nil ?_
        refine KT.seq ?_
        refine TT.seq ?_
        refine TT.cond rfl (fun c27 => ?_) (fun c27 => ?_)
        ·
          have c27 := of_decide_eq_true c27
          obtain ⟨s, hy⟩ : ∃ y, xs[i]? = some y := ⟨_, List.getElem?_eq_getElem (by omega)⟩
          rw [List.drop_eq_getElem_cons (by omega), show xs[i]'(by omega) = s from by rw [List.getElem?_eq_getElem (by omega)] at hy; exact Option.some.inj hy, mayOut] at hp
          have h35 := hr.1 s (List.mem_of_getElem? hy)
          have h32 := map32 h35
          refine TT.skip ?_
          refine KT.seq ?_
          refine TT.seq ?_
          refine TT.block ?_
          refine TT.seq ?_
          refine TT.region ?_
          refine OT.pures hT 1 rfl ?_
          refine OT.index hT rfl rfl rfl rfl hr.there.there (by omega) hy rfl (fun ad_29 hel_29 => ?_)
          refine OT.load rfl rfl (hel_29.ld_struct hT rfl) rfl ?_
          refine OT.alloc Try.zeroValue42 rfl rfl (fun b_6 => ?_)
          refine OT.pures hT 1 rfl ?_
          refine OT.store_all hT rfl rfl rfl rfl (by repeat (first | exact Pull.head | apply Pull.tail)) (by exact h35) rfl (ones_snap s) (.inl (Nat.le_refl _)) ?_
          refine OT.nil ?_
          refine KT.seq ?_
          refine TT.seq ?_
          refine TT.seq ?_
          refine TT.draw ([(b_6, blk (encSnap s) 42 (0, 0))] :: [(b_1, blk [.int .i64 next, .slice a0 xs.length c0] 33 (0, 0))] :: K :: hs) mixed ?_
          refine AT.takes (fuel := 27) hT [0] (by kernel_rfl) (by kernel_rfl) rfl ?_
          refine AT.take (fuel := 26) hT 1 rfl rfl (by kernel_rfl) (by kernel_rfl) (by kernel_rfl) rfl (.load rfl (Ld.one hT rfl (by repeat (first | exact Has.one | apply Has.there)) rfl)) rfl ?_
          refine AT.op (fuel := 25) 2 (by kernel_rfl) rfl (by repeat (first | exact Sel.refl _ | refine Sel.empty ?_ | refine Sel.pull (by repeat (first | exact Pull.head | apply Pull.tail)) ?_ | refine Sel.drop ?_)) ?_
          refine OT.call Try.call17 rfl rfl rfl rfl (cat_Name) ?_
          rintro v_33 hs_33 ⟨rfl, rfl⟩
          refine OT.nil ?_
          refine KT.any ?_
          refine AT.takes (fuel := 23) hT [3, 4] (by kernel_rfl) (by kernel_rfl) rfl ?_
          refine AT.split 35 rfl (fun g35 => ?_) (fun g35 => ?_)
          ·
            have g35 : nameB s.name = false := by simpa using g35
            refine AT.takes (fuel := 0) hT [5, 6, 7, 8, 9, 10, 11, 12, 13, 14, 15, 16, 17, 18, 19, 20, 21, 22, 23, 24, 25, 26, 27] (by kernel_rfl) (by kernel_rfl) rfl ?_
            refine AT.done (by kernel_rfl) (by repeat (first | exact Sel.refl _ | refine Sel.empty ?_ | refine Sel.pull (by repeat (first | exact Pull.head | apply Pull.tail)) ?_ | refine Sel.drop ?_)) ?_
            refine KT.seq ?_
            refine TT.cond_true rfl ?_
            refine TT.seq ?_
            refine TT.region ?_
            refine OT.pures hT 1 rfl ?_
            refine OT.nil ?_
            refine KT.seq ?_
            refine TT.ret ?_
            refine RT.of (rs := [.tmp 2]) [_] hs rfl (.tmp rfl .nil) (by repeat (first | exact Sel.refl _ | refine Sel.empty ?_ | refine Sel.pull (by repeat (first | exact Pull.head | apply Pull.tail)) ?_ | refine Sel.drop ?_)) ?_
            dsimp only [one]
            rw [if_pos (.inl g35)] at hp
            exact ⟨by rw [← hp], rfl⟩
          ·
            have g35 : nameB s.name = true := by simpa using g35
            refine AT.takes (fuel := 20) hT [5, 7, 10] (by kernel_rfl) (by kernel_rfl) rfl ?_
            refine AT.take (fuel := 19) hT 6 rfl rfl (by kernel_rfl) (by kernel_rfl) (by kernel_rfl) rfl (.load rfl (Ld.slc hT rfl (by repeat (first | exact Has.one | apply Has.there)) rfl)) rfl ?_
            refine AT.take (fuel := 18) hT 11 rfl rfl (by kernel_rfl) (by kernel_rfl) (by kernel_rfl) rfl (.load rfl (Ld.one hT rfl (by repeat (first | exact Has.one | apply Has.there)) rfl)) rfl ?_
            refine AT.op (fuel := 17) 8 (by kernel_rfl) rfl (by repeat (first | exact Sel.refl _ | refine Sel.empty ?_ | refine Sel.pull (by repeat (first | exact Pull.head | apply Pull.tail)) ?_ | refine Sel.drop ?_)) ?_
            refine OT.slice 0 i hT rfl rfl rfl rfl rfl hr.there.there.there (.inl ⟨rfl, rfl⟩) (.inr ⟨_, rfl⟩) (by omega) (by omega) rfl (fun v_39 hv_39 => ?_)
            obtain ⟨a_39, c_39, hv39⟩ := hv_39.len
            have hl39 : ((xs.take i).drop 0).length = i := by simp; omega
            subst hv39
            refine OT.nil ?_
            refine KT.any ?_
            refine AT.op (fuel := 16) 9 (by kernel_rfl) rfl (by repeat (first | exact Sel.refl _ | refine Sel.empty ?_ | refine Sel.pull (by repeat (first | exact Pull.head | apply Pull.tail)) ?_ | refine Sel.drop ?_)) ?_
            refine OT.build (cs := [.int .i64 0, .slice a_39 ((xs.take i).drop 0).length c_39]) hT rfl Try.zeroValue33 rfl rfl rfl rfl ?_
            refine OT.nil ?_
            refine KT.any ?_
            refine AT.op (fuel := 15) 12 (by kernel_rfl) rfl (by repeat (first | exact Sel.refl _ | refine Sel.empty ?_ | refine Sel.pull (by repeat (first | exact Pull.head | apply Pull.tail)) ?_ | refine Sel.drop ?_)) ?_
            refine OT.call Try.call26 rfl rfl rfl rfl (cat_Find hv_39 (by omega)) ?_
            rintro v_43 hs_43 ⟨rfl, rfl⟩
            rw [List.drop_zero]
            refine OT.nil ?_
            refine KT.any ?_
            refine AT.takes (fuel := 12) hT [13, 14, 15] (by kernel_rfl) (by kernel_rfl) rfl ?_
            refine AT.split 46 rfl (fun g46 => ?_) (fun g46 => ?_)
            ·
              have g46 := of_decide_eq_true g46
              refine AT.takes (fuel := 0) hT [16, 17, 18, 19, 20, 21, 22, 23, 24, 25, 26, 27] (by kernel_rfl) (by kernel_rfl) rfl ?_
              refine AT.done (by kernel_rfl) (by repeat (first | exact Sel.refl _ | refine Sel.empty ?_ | refine Sel.pull (by repeat (first | exact Pull.head | apply Pull.tail)) ?_ | refine Sel.drop ?_)) ?_
              refine KT.seq ?_
              refine TT.cond_true rfl ?_
              refine TT.seq ?_
              refine TT.region ?_
              refine OT.pures hT 1 rfl ?_
              refine OT.nil ?_
              refine KT.seq ?_
              refine TT.ret ?_
              refine RT.of (rs := [.tmp 2]) [_] hs rfl (.tmp rfl .nil) (by repeat (first | exact Sel.refl _ | refine Sel.empty ?_ | refine Sel.pull (by repeat (first | exact Pull.head | apply Pull.tail)) ?_ | refine Sel.drop ?_)) ?_
              dsimp only [one]
              rw [if_pos (by omega)] at hp
              exact ⟨by rw [← hp], rfl⟩
            ·
              have g46 := of_decide_eq_false g46
              refine AT.takes (fuel := 10) hT [16, 18] (by kernel_rfl) (by kernel_rfl) rfl ?_
              refine AT.take (fuel := 9) hT 17 rfl rfl (by kernel_rfl) (by kernel_rfl) (by kernel_rfl) rfl (.load rfl (Ld.one hT rfl (by repeat (first | exact Has.one | apply Has.there)) rfl)) rfl ?_
              refine AT.takes (fuel := 6) hT [19, 20, 21] (by kernel_rfl) (by kernel_rfl) rfl ?_
              refine AT.split 52 rfl (fun g52 => ?_) (fun g52 => ?_)
              ·
                have g52 := of_decide_eq_true g52
                refine AT.takes (fuel := 0) hT [22, 23, 24, 25, 26, 27] (by kernel_rfl) (by kernel_rfl) rfl ?_
                refine AT.done (by kernel_rfl) (by repeat (first | exact Sel.refl _ | refine Sel.empty ?_ | refine Sel.pull (by repeat (first | exact Pull.head | apply Pull.tail)) ?_ | refine Sel.drop ?_)) ?_
                refine KT.seq ?_
                refine TT.cond_true rfl ?_
                refine TT.seq ?_
                refine TT.region ?_
                refine OT.pures hT 1 rfl ?_
                refine OT.nil ?_
                refine KT.seq ?_
                refine TT.ret ?_
                refine RT.of (rs := [.tmp 2]) [_] hs rfl (.tmp rfl .nil) (by repeat (first | exact Sel.refl _ | refine Sel.empty ?_ | refine Sel.pull (by repeat (first | exact Pull.head | apply Pull.tail)) ?_ | refine Sel.drop ?_)) ?_
                dsimp only [one]
                rw [if_pos (by omega)] at hp
                exact ⟨by rw [← hp], rfl⟩
              ·
                have g52 := of_decide_eq_false g52
                refine AT.takes (fuel := 4) hT [22, 24] (by kernel_rfl) (by kernel_rfl) rfl ?_
                refine AT.take (fuel := 3) hT 23 rfl rfl (by kernel_rfl) (by kernel_rfl) (by kernel_rfl) rfl (.load rfl (Ld.one hT rfl (by repeat (first | exact Has.one | apply Has.there)) rfl)) rfl ?_
                refine AT.take (fuel := 2) hT 25 rfl rfl (by kernel_rfl) (by kernel_rfl) (by kernel_rfl) rfl (.load rfl (Ld.one hT rfl (by repeat (first | exact Has.one | apply Has.there)) rfl)) rfl ?_
                refine AT.takes (fuel := 0) hT [26, 27] (by kernel_rfl) (by kernel_rfl) rfl ?_
                refine AT.done (by kernel_rfl) (by repeat (first | exact Sel.refl _ | refine Sel.empty ?_ | refine Sel.pull (by repeat (first | exact Pull.head | apply Pull.tail)) ?_ | refine Sel.drop ?_)) ?_
                refine KT.seq ?_
                refine TT.cond rfl (fun c58 => ?_) (fun c58 => ?_)
                ·
                  have c58 := of_decide_eq_true c58
                  rw [if_pos (by omega)] at hp
                  refine TT.seq ?_
                  refine TT.region ?_
                  refine OT.pures hT 1 rfl ?_
                  refine OT.nil ?_
                  refine KT.seq ?_
                  refine TT.ret ?_
                  refine RT.of (rs := [.tmp 2]) [_] hs rfl (.tmp rfl .nil) (by repeat (first | exact Sel.refl _ | refine Sel.empty ?_ | refine Sel.pull (by repeat (first | exact Pull.head | apply Pull.tail)) ?_ | refine Sel.drop ?_)) ?_
                  dsimp only [one]
                  exact ⟨by rw [← hp], rfl⟩
                ·
                  have c58 := of_decide_eq_false c58
                  rw [if_neg (by rw [g35]; simp only [Bool.true_eq_false, false_or]; omega)] at hp
                  refine TT.skip ?_
                  refine KT.seq ?_
                  refine TT.seq ?_
                  refine TT.region ?_
                  refine OT.pures hT 1 rfl ?_
                  refine OT.load rfl rfl (Ld.one hT rfl (by repeat (first | exact Has.one | apply Has.there)) rfl) rfl ?_
                  refine OT.pures hT 1 rfl ?_
                  refine OT.nil ?_
                  refine KT.seq ?_
                  refine TT.seq ?_
                  refine TT.region ?_
                  refine OT.pures hT 1 rfl ?_
                  refine OT.load rfl rfl (Ld.arr hT rfl Has.one (snap_map h35) (by simp [h32])) rfl ?_
                  refine OT.pures hT 1 rfl ?_
                  refine OT.nil ?_
                  refine KT.seq ?_
                  refine TT.block ?_
                  refine TT.loop (ι := Nat × (List Int) × Value × Chunk) (fun j => (j.1) ≤ 32 ∧ Own Go.Sx.encI 1 3 (j.2.2.1) (j.2.1) (j.2.2.2) ∧ (j.2.1).length ≤ 32 * i + (j.1) ∧ (match mayIn s.inv (j.1) (s.map.drop (j.1)) (j.2.1) with | none => false | some seen' => mayOut next xs (i + 1) s.id seen' (xs.drop (i + 1))) = mayB next xs) (fun j => 32 - (j.1)) (fun j => [(1, .pointer (some ⟨b_1, 0, none⟩)), (3, .int .i64 s.id), (4, (j.2.2.1)), (6, .pointer (some ⟨b_6, 0, none⟩)), (24, .slice a0 xs.length c0), (25, .int .i64 xs.length), (26, .int .i64 (i : Nat)), (62, .agg ⟨s.map.map (Value.int .i64)⟩), (63, .int .i64 ((j.1) : Nat))]) (fun j => [(b_6, blk (encSnap s) 42 (0, 0))] :: [(b_1, blk [.int .i64 next, .slice a0 xs.length c0] 33 (0, 0))] :: (j.2.2.2) :: hs) (0, seen, w, K) ?_ (SubR.cons rfl (SubR.cons rfl (SubR.cons rfl (SubR.cons rfl (SubR.cons rfl (SubR.cons rfl (SubR.cons rfl (SubR.cons rfl (SubR.cons rfl (SubR.nil _)))))))))) (by repeat (first | exact Sel.refl _ | refine Sel.empty ?_ | refine Sel.pull (by repeat (first | exact Pull.head | apply Pull.tail)) ?_ | refine Sel.drop ?_)) ?_
                  · dsimp only
                    exact ⟨by omega, hO, by omega, hp⟩
                  rintro ⟨no, seen2, w2, K2⟩ hI
                  dsimp only at hI
                  obtain ⟨hno, hO2, hsl2, hp⟩ := hI
                  show TT _ _ _ [(1, .pointer (some ⟨b_1, 0, none⟩)), (3, .int .i64 s.id), (4, w2), (6, .pointer (some ⟨b_6, 0, none⟩)), (24, .slice a0 xs.length c0), (25, .int .i64 xs.length), (26, .int .i64 (i : Nat)), (62, .agg ⟨s.map.map (Value.int .i64)⟩), (63, .int .i64 (no : Nat))] ([(b_6, blk (encSnap s) 42 (0, 0))] :: [(b_1, blk [.int .i64 next, .slice a0 xs.length c0] 33 (0, 0))] :: K2 :: hs)
                  refine TT.seq ?_
                  refine TT.region ?_
                  refine OT.pures hT 1 rfl ?_
                  refine OT.nil ?_
                  refine KT.seq ?_
                  refine TT.seq ?_
                  refine TT.cond rfl (fun c64 => ?_) (fun c64 => ?_)
                  ·
                    have c64 := of_decide_eq_true c64
                    obtain ⟨at_, hat⟩ : ∃ y, s.map[no]? = some y := ⟨_, List.getElem?_eq_getElem (by omega)⟩
                    rw [List.drop_eq_getElem_cons (by omega), show s.map[no]'(by omega) = at_ from by rw [List.getElem?_eq_getElem (by omega)] at hat; exact Option.some.inj hat, mayIn] at hp
                    refine TT.skip ?_
                    refine KT.seq ?_
                    refine TT.seq ?_
                    refine TT.block ?_
                    refine TT.seq ?_
                    refine TT.region ?_
                    refine OT.pures hT 1 rfl ?_
                    refine OT.index_arr hT rfl rfl rfl rfl rfl (by omega) (by simp [h32]) (by rw [Int.toNat_natCast, List.getElem?_map, hat]; rfl) rfl ?_
                    refine OT.pures hT 2 rfl ?_
                    refine OT.nil ?_
                    refine KT.seq ?_
                    refine TT.seq ?_
                    refine TT.seq ?_
                    refine TT.region ?_
                    refine OT.pures hT 2 rfl ?_
                    refine OT.nil ?_
                    refine KT.seq ?_
                    refine TT.cond rfl (fun c68 => ?_) (fun c68 => ?_)
                    ·
                      have c68 : at_ = 0 := by simpa using c68
                      rw [if_pos c68] at hp
                      refine TT.exit ?_
                      refine XT.seq ?_
                      refine XT.here ?_
                      refine KT.seq ?_
                      refine TT.region ?_
                      refine OT.pures hT 2 rfl ?_
                      refine OT.nil ?_
                      refine KT.loop (no + 1, seen2, w2, K2) ?_ ?_ (SubR.cons rfl (SubR.cons rfl (SubR.cons rfl (SubR.cons rfl (SubR.cons rfl (SubR.cons rfl (SubR.cons rfl (SubR.cons rfl (SubR.cons' rfl (by (try dsimp only); exact (int_eq (by rw [wrap_i64 (by omega) (by omega)]; omega))) (SubR.nil _)))))))))) (by repeat (first | exact Sel.refl _ | refine Sel.empty ?_ | refine Sel.pull (by repeat (first | exact Pull.head | apply Pull.tail)) ?_ | refine Sel.drop ?_))
                      · dsimp only
                        exact ⟨by omega, hO2, by omega, hp⟩
                      · dsimp only
                        omega
                    ·
                      have c68 : ¬ at_ = 0 := by simpa using c68
                      rw [if_neg c68] at hp
                      refine TT.skip ?_
                      refine KT.seq ?_
                      refine TT.seq ?_
                      refine TT.seq ?_
                      refine TT.region ?_
                      refine OT.pures hT 3 rfl ?_
                      refine OT.split 71 rfl (fun g71 => ?_) (fun g71 => ?_)
                      ·
                        have g71 := of_decide_eq_true g71
                        refine OT.pures hT 16 rfl ?_
                        refine OT.nil ?_
                        refine KT.seq ?_
                        refine TT.cond_true rfl ?_
                        refine TT.seq ?_
                        refine TT.region ?_
                        refine OT.pures hT 1 rfl ?_
                        refine OT.nil ?_
                        refine KT.seq ?_
                        refine TT.ret ?_
                        refine RT.of (rs := [.tmp 2]) [_] hs rfl (.tmp rfl .nil) (by repeat (first | exact Sel.refl _ | refine Sel.empty ?_ | refine Sel.pull (by repeat (first | exact Pull.head | apply Pull.tail)) ?_ | refine Sel.drop ?_)) ?_
                        dsimp only [one]
                        rw [if_pos (by omega)] at hp
                        exact ⟨by rw [← hp], rfl⟩
                      ·
                        have g71 := of_decide_eq_false g71
                        refine OT.pures hT 4 rfl ?_
                        refine OT.split 75 rfl (fun g75 => ?_) (fun g75 => ?_)
                        ·
                          have g75 := of_decide_eq_true g75
                          refine OT.pures hT 12 rfl ?_
                          refine OT.nil ?_
                          refine KT.seq ?_
                          refine TT.cond_true rfl ?_
                          refine TT.seq ?_
                          refine TT.region ?_
                          refine OT.pures hT 1 rfl ?_
                          refine OT.nil ?_
                          refine KT.seq ?_
                          refine TT.ret ?_
                          refine RT.of (rs := [.tmp 2]) [_] hs rfl (.tmp rfl .nil) (by repeat (first | exact Sel.refl _ | refine Sel.empty ?_ | refine Sel.pull (by repeat (first | exact Pull.head | apply Pull.tail)) ?_ | refine Sel.drop ?_)) ?_
                          dsimp only [one]
                          rw [if_pos (by omega)] at hp
                          exact ⟨by rw [← hp], rfl⟩
                        ·
                          have g75 := of_decide_eq_false g75
                          refine OT.pures hT 4 rfl ?_
                          refine OT.split 79 rfl (fun g79 => ?_) (fun g79 => ?_)
                          ·
                            have g79 : (no : Int) = 0 := by simpa using g79
                            refine OT.pures hT 8 rfl ?_
                            refine OT.nil ?_
                            refine KT.seq ?_
                            refine TT.cond_true rfl ?_
                            refine TT.seq ?_
                            refine TT.region ?_
                            refine OT.pures hT 1 rfl ?_
                            refine OT.nil ?_
                            refine KT.seq ?_
                            refine TT.ret ?_
                            refine RT.of (rs := [.tmp 2]) [_] hs rfl (.tmp rfl .nil) (by repeat (first | exact Sel.refl _ | refine Sel.empty ?_ | refine Sel.pull (by repeat (first | exact Pull.head | apply Pull.tail)) ?_ | refine Sel.drop ?_)) ?_
                            dsimp only [one]
                            rw [if_pos (by omega)] at hp
                            exact ⟨by rw [← hp], rfl⟩
                          ·
                            have g79 : ¬ (no : Int) = 0 := by simpa using g79
                            refine OT.pures hT 1 rfl ?_
                            refine OT.load rfl rfl (Ld.one hT rfl (by repeat (first | exact Has.one | apply Has.there)) rfl) rfl ?_
                            refine OT.pures hT 2 rfl ?_
                            refine OT.split 83 rfl (fun g83 => ?_) (fun g83 => ?_)
                            ·
                              refine OT.pures hT 4 rfl ?_
                              refine OT.nil ?_
                              refine KT.seq ?_
                              refine TT.cond_true rfl ?_
                              refine TT.seq ?_
                              refine TT.region ?_
                              refine OT.pures hT 1 rfl ?_
                              refine OT.nil ?_
                              refine KT.seq ?_
                              refine TT.ret ?_
                              refine RT.of (rs := [.tmp 2]) [_] hs rfl (.tmp rfl .nil) (by repeat (first | exact Sel.refl _ | refine Sel.empty ?_ | refine Sel.pull (by repeat (first | exact Pull.head | apply Pull.tail)) ?_ | refine Sel.drop ?_)) ?_
                              dsimp only [one]
                              rw [if_pos (.inr (.inr (.inr (.inl g83))))] at hp
                              exact ⟨by rw [← hp], rfl⟩
                            ·
                              refine OT.pures hT 2 rfl ?_
                              refine OT.call Try.call34 rfl rfl rfl rfl (sl_Contains (hO2.row (hs := hs)).there.there (by omega)) ?_
                              rintro v_86 hs_86 ⟨rfl, rfl⟩
                              refine OT.pures hT 1 rfl ?_
                              refine OT.nil ?_
                              refine KT.seq ?_
                              refine TT.cond rfl (fun c87 => ?_) (fun c87 => ?_)
                              ·
                                have c87 := of_decide_eq_true c87
                                rw [if_pos (.inr (.inr (.inr (.inr c87))))] at hp
                                dsimp only at hp
                                refine TT.seq ?_
                                refine TT.region ?_
                                refine OT.pures hT 1 rfl ?_
                                refine OT.nil ?_
                                refine KT.seq ?_
                                refine TT.ret ?_
                                refine RT.of (rs := [.tmp 2]) [_] hs rfl (.tmp rfl .nil) (by repeat (first | exact Sel.refl _ | refine Sel.empty ?_ | refine Sel.pull (by repeat (first | exact Pull.head | apply Pull.tail)) ?_ | refine Sel.drop ?_)) ?_
                                dsimp only [one]
                                exact ⟨by rw [← hp], rfl⟩
                              ·
                                have c87 := of_decide_eq_false c87
                                rw [if_neg (by rw [g83]; simp only [Bool.false_eq_true, c87, or_false]; omega)] at hp
                                refine TT.skip ?_
                                refine KT.seq ?_
                                refine TT.region ?_
                                refine OT.pures hT 2 rfl ?_
                                refine OT.buildSlice (enc := Go.Sx.encI) (xs := [at_]) (xos := [.tmp 89]) el46 rfl rfl rfl rfl rfl (by simp [Value.cells]) (fun _ _ => rfl) rfl (by decide) rfl (fun v_90 H_90 ho_90 => ?_)
                                refine OT.append hT el46 rfl rfl rfl rfl (by repeat (first | exact Pull.head | apply Pull.tail)) hO2 ho_90.row rfl (by simp only [List.length_cons, List.length_nil]; omega) rfl (fun v_91 H_91 ho_91 => ?_)
                                refine OT.pures hT 1 rfl ?_
                                refine OT.nil ?_
                                refine KT.blk ?_
                                refine KT.seq ?_
                                refine TT.region ?_
                                refine OT.pures hT 2 rfl ?_
                                refine OT.nil ?_
                                refine KT.loop (no + 1, seen2 ++ [at_], v_91, H_91) ?_ ?_ (SubR.cons rfl (SubR.cons rfl (SubR.cons rfl (SubR.cons rfl (SubR.cons rfl (SubR.cons rfl (SubR.cons rfl (SubR.cons rfl (SubR.cons' rfl (by (try dsimp only); exact (int_eq (by rw [wrap_i64 (by omega) (by omega)]; omega))) (SubR.nil _)))))))))) (by repeat (first | exact Sel.refl _ | refine Sel.empty ?_ | refine Sel.pull (by repeat (first | exact Pull.head | apply Pull.tail)) ?_ | refine Sel.drop ?_))
                                · dsimp only
                                  exact ⟨by omega, ho_91, by rw [List.length_append]; simp only [List.length_cons, List.length_nil]; omega, hp⟩
                                · dsimp only
                                  omega
                  ·
                    have c64 := of_decide_eq_false c64
                    rw [List.drop_eq_nil_of_le (by omega), mayIn] at hp
                    dsimp only at hp
                    refine TT.exit ?_
                    refine XT.seq ?_
                    refine XT.loop ?_
                    refine XT.here ?_
                    refine KT.blk ?_
                    refine KT.seq ?_
                    refine TT.region ?_
                    refine OT.pures hT 2 rfl ?_
                    refine OT.nil ?_
                    refine KT.loop (i + 1, s.id, seen2, w2, K2) ?_ ?_ (SubR.cons rfl (SubR.cons rfl (SubR.cons rfl (SubR.cons rfl (SubR.cons rfl (SubR.cons' rfl (by (try dsimp only); exact (int_eq (by rw [wrap_i64 (by omega) (by omega)]; omega))) (SubR.nil _))))))) (by repeat (first | exact Sel.refl _ | refine Sel.empty ?_ | refine Sel.pull (by repeat (first | exact Pull.head | apply Pull.tail)) ?_ | refine Sel.drop ?_))
                    · dsimp only
                      exact ⟨by omega, hO2, by omega, hp⟩
                    · dsimp only
                      omega
        ·
          have c27 := of_decide_eq_false c27
          rw [List.drop_eq_nil_of_le (by omega), mayOut] at hp
          refine TT.exit ?_
          refine XT.seq ?_
          refine XT.loop ?_
          refine XT.here ?_
          refine KT.seq ?_
          refine TT.seq ?_
          refine TT.region ?_
          refine OT.pures hT 1 rfl ?_
          refine OT.nil ?_
          refine KT.seq ?_
          refine TT.ret ?_
          refine RT.of (rs := [.tmp 2]) [_] hs rfl (.tmp rfl .nil) (by repeat (first | exact Sel.refl _ | refine Sel.empty ?_ | refine Sel.pull (by repeat (first | exact Pull.head | apply Pull.tail)) ?_ | refine Sel.drop ?_)) ?_
          dsimp only [one]
          exact ⟨by rw [← hp], rfl⟩

end Go.Proofs.Ytpijialhhdpobaa.Sx
