/- Catalogs as bytes: what the program's Encode and the document's CatBytes, MayCat, EqCat compute. Printed by a program of ours off the loaded program and our notes; Lean checks it. -/
import Derived.Test.YtpijialhhdpobaaPlC
import Derived.Test.YtpijialhhdpobaaSxT
import Derived.Test.YtpijialhhdpobaaCtB
namespace Go.Proofs.Ytpijialhhdpobaa.Sx
open Go Go.Sx Go.Pl
variable [Outer]

set_option maxHeartbeats 1000000 in
set_option maxRecDepth 100000 in
theorem ref_EqSnap {a b : Snap} {hs : List Chunk} (ha : (encSnap a).length = 35) (hb : (encSnap b).length = 35) : Fun Try.prog 41 [.agg ⟨encSnap a⟩, .agg ⟨encSnap b⟩] hs (fun v' hs' => v' = .bool (eqSnap a b) ∧ hs = hs') := by
  refine Fun.enter 38 Try.func41 rfl Try.ntmps41 rfl ?_
  have ha2 := map32 ha
  have hb2 := map32 hb
  refine TT.seq ?_
  refine TT.region ?_
  refine OT.box rfl rfl rfl (fun b_2 => ?_)
  refine OT.box rfl rfl rfl (fun b_3 => ?_)
  refine OT.pures hT 1 rfl ?_
  refine OT.nil ?_
  refine KT.seq ?_
  refine TT.seq ?_
  refine TT.seq ?_
  refine TT.region ?_
  refine OT.pures hT 1 rfl ?_
  refine OT.load rfl rfl (Ld.one hT rfl (by repeat (first | exact Has.one | apply Has.there)) rfl) rfl ?_
  refine OT.pures hT 1 rfl ?_
  refine OT.load rfl rfl (Ld.one hT rfl (by repeat (first | exact Has.one | apply Has.there)) rfl) rfl ?_
  refine OT.pures hT 2 rfl ?_
  refine OT.split 11 rfl (fun g11 => ?_) (fun g11 => ?_)
  ·
    have g11 : ¬ a.name = b.name := by simpa using g11
    refine OT.pures hT 13 rfl ?_
    refine OT.nil ?_
    refine KT.seq ?_
    refine TT.cond_true rfl ?_
    refine TT.seq ?_
    refine TT.region ?_
    refine OT.pures hT 1 rfl ?_
    refine OT.nil ?_
    refine KT.seq ?_
    refine TT.ret ?_
    refine RT.of (rs := [.tmp 4]) [_] hs rfl (.tmp rfl .nil) (by repeat (first | exact Sel.refl _ | refine Sel.empty ?_ | refine Sel.pull (by repeat (first | exact Pull.head | apply Pull.tail)) ?_ | refine Sel.drop ?_)) ?_
    dsimp only [one]
    exact ⟨by simp [eqSnap, g11], rfl⟩
  ·
    have g11 : a.name = b.name := by simpa using g11
    refine OT.pures hT 1 rfl ?_
    refine OT.load rfl rfl (Ld.one hT rfl (by repeat (first | exact Has.one | apply Has.there)) rfl) rfl ?_
    refine OT.pures hT 1 rfl ?_
    refine OT.load rfl rfl (Ld.one hT rfl (by repeat (first | exact Has.one | apply Has.there)) rfl) rfl ?_
    refine OT.pures hT 3 rfl ?_
    refine OT.split 18 rfl (fun g18 => ?_) (fun g18 => ?_)
    ·
      have g18 : ¬ a.id = b.id := by simpa using g18
      refine OT.pures hT 6 rfl ?_
      refine OT.nil ?_
      refine KT.seq ?_
      refine TT.cond_true rfl ?_
      refine TT.seq ?_
      refine TT.region ?_
      refine OT.pures hT 1 rfl ?_
      refine OT.nil ?_
      refine KT.seq ?_
      refine TT.ret ?_
      refine RT.of (rs := [.tmp 4]) [_] hs rfl (.tmp rfl .nil) (by repeat (first | exact Sel.refl _ | refine Sel.empty ?_ | refine Sel.pull (by repeat (first | exact Pull.head | apply Pull.tail)) ?_ | refine Sel.drop ?_)) ?_
      dsimp only [one]
      exact ⟨by simp [eqSnap, g18], rfl⟩
    ·
      have g18 : a.id = b.id := by simpa using g18
      refine OT.pures hT 1 rfl ?_
      refine OT.load rfl rfl (Ld.one hT rfl (by repeat (first | exact Has.one | apply Has.there)) rfl) rfl ?_
      refine OT.pures hT 1 rfl ?_
      refine OT.load rfl rfl (Ld.one hT rfl (by repeat (first | exact Has.one | apply Has.there)) rfl) rfl ?_
      refine OT.pures hT 2 rfl ?_
      refine OT.nil ?_
      refine KT.seq ?_
      refine TT.cond rfl (fun c24 => ?_) (fun c24 => ?_)
      ·
        have c24 : ¬ a.inv = b.inv := by simpa using c24
        refine TT.seq ?_
        refine TT.region ?_
        refine OT.pures hT 1 rfl ?_
        refine OT.nil ?_
        refine KT.seq ?_
        refine TT.ret ?_
        refine RT.of (rs := [.tmp 4]) [_] hs rfl (.tmp rfl .nil) (by repeat (first | exact Sel.refl _ | refine Sel.empty ?_ | refine Sel.pull (by repeat (first | exact Pull.head | apply Pull.tail)) ?_ | refine Sel.drop ?_)) ?_
        dsimp only [one]
        exact ⟨by simp [eqSnap, c24], rfl⟩
      ·
        have c24 : a.inv = b.inv := by simpa using c24
        refine TT.skip ?_
        refine KT.seq ?_
        refine TT.seq ?_
        refine TT.seq ?_
        refine TT.region ?_
        refine OT.pures hT 1 rfl ?_
        refine OT.nil ?_
        refine KT.seq ?_
        refine TT.block ?_
        refine TT.loop (ι := Nat) (fun j => (j) ≤ 32 ∧ a.map.take (j) = b.map.take (j)) (fun j => 32 - (j)) (fun j => [(2, .pointer (some ⟨b_2, 0, none⟩)), (3, .pointer (some ⟨b_3, 0, none⟩)), (5, .int .i64 ((j) : Nat))]) (fun j => [(b_3, blk (encSnap b) 42 (0, 0))] :: [(b_2, blk (encSnap a) 42 (0, 0))] :: hs) (0) ?_ (SubR.cons rfl (SubR.cons rfl (SubR.cons rfl (SubR.nil _)))) (by repeat (first | exact Sel.refl _ | refine Sel.empty ?_ | refine Sel.pull (by repeat (first | exact Pull.head | apply Pull.tail)) ?_ | refine Sel.drop ?_)) ?_
        · exact ⟨by omega, by simp⟩
        rintro i ⟨hi, hp⟩
        show TT _ _ _ [(2, .pointer (some ⟨b_2, 0, none⟩)), (3, .pointer (some ⟨b_3, 0, none⟩)), (5, .int .i64 (i : Nat))] ([(b_3, blk (encSnap b) 42 (0, 0))] :: [(b_2, blk (encSnap a) 42 (0, 0))] :: hs)
        refine TT.seq ?_
        refine TT.seq ?_
        refine TT.region ?_
        refine OT.pures hT 2 rfl ?_
        refine OT.nil ?_
        refine KT.seq ?_
        refine TT.cond rfl (fun c26 => ?_) (fun c26 => ?_)
        ·
          have c26 := of_decide_eq_true c26
          obtain ⟨x, hx⟩ : ∃ y, a.map[i]? = some y := ⟨_, List.getElem?_eq_getElem (by omega)⟩
          obtain ⟨y, hy⟩ : ∃ y, b.map[i]? = some y := ⟨_, List.getElem?_eq_getElem (by omega)⟩
          have hx' : a.map[i]'(by omega) = x := by rw [List.getElem?_eq_getElem (by omega)] at hx; exact Option.some.inj hx
          have hy' : b.map[i]'(by omega) = y := by rw [List.getElem?_eq_getElem (by omega)] at hy; exact Option.some.inj hy
          refine TT.skip ?_
          refine KT.seq ?_
          refine TT.seq ?_
          refine TT.block ?_
          refine TT.seq ?_
          refine TT.draw ([(b_3, blk (encSnap b) 42 (0, 0))] :: [(b_2, blk (encSnap a) 42 (0, 0))] :: hs) mixed ?_
          refine AT.takes (fuel := 5) hT [0, 1, 4, 5] (by kernel_rfl) (by kernel_rfl) rfl ?_
          refine AT.index_at (fuel := 4) hT 2 rfl (by kernel_rfl) (by kernel_rfl) (by kernel_rfl) rfl rfl rfl rfl (by omega) (by omega) rfl ?_
          refine AT.take (fuel := 3) hT 3 rfl rfl (by kernel_rfl) (by kernel_rfl) (by kernel_rfl) rfl (.load rfl (Ld.one hT rfl Has.one.there (snap_at hx))) rfl ?_
          refine AT.index_at (fuel := 2) hT 6 rfl (by kernel_rfl) (by kernel_rfl) (by kernel_rfl) rfl rfl rfl rfl (by omega) (by omega) rfl ?_
          refine AT.take (fuel := 1) hT 7 rfl rfl (by kernel_rfl) (by kernel_rfl) (by kernel_rfl) rfl (.load rfl (Ld.one hT rfl Has.one (snap_at hy))) rfl ?_
          refine AT.takes (fuel := 0) hT [8] (by kernel_rfl) (by kernel_rfl) rfl ?_
          refine AT.done (by kernel_rfl) (by repeat (first | exact Sel.refl _ | refine Sel.empty ?_ | refine Sel.pull (by repeat (first | exact Pull.head | apply Pull.tail)) ?_ | refine Sel.drop ?_)) ?_
          refine KT.seq ?_
          refine TT.cond rfl (fun c37 => ?_) (fun c37 => ?_)
          ·
            have c37 : ¬ x = y := by simpa using c37
            refine TT.seq ?_
            refine TT.region ?_
            refine OT.pures hT 1 rfl ?_
            refine OT.nil ?_
            refine KT.seq ?_
            refine TT.ret ?_
            refine RT.of (rs := [.tmp 4]) [_] hs rfl (.tmp rfl .nil) (by repeat (first | exact Sel.refl _ | refine Sel.empty ?_ | refine Sel.pull (by repeat (first | exact Pull.head | apply Pull.tail)) ?_ | refine Sel.drop ?_)) ?_
            dsimp only [one]
            refine ⟨?_, rfl⟩
            have : ¬ a.map = b.map := by intro h; rw [h, hy] at hx; exact c37 (Option.some.inj hx).symm
            simp [eqSnap, this]
          ·
            have c37 : x = y := by simpa using c37
            refine TT.skip ?_
            refine KT.blk ?_
            refine KT.seq ?_
            refine TT.region ?_
            refine OT.pures hT 3 rfl ?_
            refine OT.nil ?_
            refine KT.loop (i + 1) ?_ ?_ (SubR.cons rfl (SubR.cons rfl (SubR.cons' rfl (by (try dsimp only); exact (int_eq (by rw [wrap_i64 (by omega) (by omega)]; omega))) (SubR.nil _)))) (by repeat (first | exact Sel.refl _ | refine Sel.empty ?_ | refine Sel.pull (by repeat (first | exact Pull.head | apply Pull.tail)) ?_ | refine Sel.drop ?_))
            · exact ⟨by omega, by rw [List.take_succ_eq_append_getElem (by omega), List.take_succ_eq_append_getElem (by omega), hp, hx', hy', c37]⟩
            · omega
        ·
          have c26 := of_decide_eq_false c26
          refine TT.exit ?_
          refine XT.seq ?_
          refine XT.loop ?_
          refine XT.here ?_
          refine KT.seq ?_
          refine TT.seq ?_
          refine TT.region ?_
          refine OT.pures hT 1 rfl ?_
          refine OT.nil ?_
          refine KT.seq ?_
          refine TT.ret ?_
          refine RT.of (rs := [.tmp 4]) [_] hs rfl (.tmp rfl .nil) (by repeat (first | exact Sel.refl _ | refine Sel.empty ?_ | refine Sel.pull (by repeat (first | exact Pull.head | apply Pull.tail)) ?_ | refine Sel.drop ?_)) ?_
          dsimp only [one]
          refine ⟨?_, rfl⟩
          have : a.map = b.map := by rw [List.take_of_length_le (by omega), List.take_of_length_le (by omega)] at hp; exact hp
          simp [eqSnap, g11, g18, c24, this]

set_option maxHeartbeats 1000000 in
set_option maxRecDepth 100000 in
theorem ref_EqCat {n m : Int} {v w : Value} {xs ys : List Snap} {hs : List Chunk} (hr : Row encSnap 35 hs v xs) (hq : Row encSnap 35 hs w ys) (hl : xs.length ≤ 1073741824) : Fun Try.prog 24 [.agg ⟨[.int .i64 n, v]⟩, .agg ⟨[.int .i64 m, w]⟩] hs (fun v' hs' => v' = .bool (eqCat n xs m ys) ∧ hs = hs') := by
  refine Fun.enter 39 Try.func24 rfl Try.ntmps24 rfl ?_
  obtain ⟨a0, c0, hv⟩ := hr.len
  subst hv
  obtain ⟨a1, c1, hw⟩ := hq.len
  subst hw
  refine TT.seq ?_
  refine TT.region ?_
  refine OT.box rfl rfl rfl (fun b_2 => ?_)
  refine OT.box rfl rfl rfl (fun b_3 => ?_)
  refine OT.pures hT 1 rfl ?_
  refine OT.nil ?_
  refine KT.seq ?_
  refine TT.seq ?_
  refine TT.seq ?_
  refine TT.region ?_
  refine OT.pures hT 1 rfl ?_
  refine OT.load rfl rfl (Ld.one hT rfl (by repeat (first | exact Has.one | apply Has.there)) rfl) rfl ?_
  refine OT.pures hT 1 rfl ?_
  refine OT.load rfl rfl (Ld.one hT rfl (by repeat (first | exact Has.one | apply Has.there)) rfl) rfl ?_
  refine OT.pures hT 2 rfl ?_
  refine OT.split 11 rfl (fun g11 => ?_) (fun g11 => ?_)
  ·
    have g11 : ¬ n = m := by simpa using g11
    refine OT.pures hT 8 rfl ?_
    refine OT.nil ?_
    refine KT.seq ?_
    refine TT.cond_true rfl ?_
    refine TT.seq ?_
    refine TT.region ?_
    refine OT.pures hT 1 rfl ?_
    refine OT.nil ?_
    refine KT.seq ?_
    refine TT.ret ?_
    refine RT.of (rs := [.tmp 4]) [_] hs rfl (.tmp rfl .nil) (by repeat (first | exact Sel.refl _ | refine Sel.empty ?_ | refine Sel.pull (by repeat (first | exact Pull.head | apply Pull.tail)) ?_ | refine Sel.drop ?_)) ?_
    dsimp only [one]
    exact ⟨by simp [eqCat, g11], rfl⟩
  ·
    have g11 : n = m := by simpa using g11
    refine OT.pures hT 1 rfl ?_
    refine OT.load rfl rfl (Ld.slc hT rfl (by repeat (first | exact Has.one | apply Has.there)) rfl) rfl ?_
    refine OT.pures hT 2 rfl ?_
    refine OT.load rfl rfl (Ld.slc hT rfl (by repeat (first | exact Has.one | apply Has.there)) rfl) rfl ?_
    refine OT.pures hT 3 rfl ?_
    refine OT.nil ?_
    refine KT.seq ?_
    refine TT.cond rfl (fun c19 => ?_) (fun c19 => ?_)
    ·
      have c19 : ¬ (xs.length : Int) = ys.length := by simpa using c19
      refine TT.seq ?_
      refine TT.region ?_
      refine OT.pures hT 1 rfl ?_
      refine OT.nil ?_
      refine KT.seq ?_
      refine TT.ret ?_
      refine RT.of (rs := [.tmp 4]) [_] hs rfl (.tmp rfl .nil) (by repeat (first | exact Sel.refl _ | refine Sel.empty ?_ | refine Sel.pull (by repeat (first | exact Pull.head | apply Pull.tail)) ?_ | refine Sel.drop ?_)) ?_
      dsimp only [one]
      refine ⟨?_, rfl⟩
      have : ¬ xs.length = ys.length := by omega
      simp [eqCat, this]
    ·
      have c19 : (xs.length : Int) = ys.length := by simpa using c19
      have c19 : xs.length = ys.length := by omega
      have hp : eqSnaps xs ys = eqCat n xs m ys := by simp [eqCat, g11, c19]
      refine TT.skip ?_
      refine KT.seq ?_
      refine TT.seq ?_
      refine TT.seq ?_
      refine TT.region ?_
      refine OT.pures hT 1 rfl ?_
      refine OT.nil ?_
      refine KT.seq ?_
      refine TT.block ?_
      refine TT.loop (ι := Nat) (fun j => (j) ≤ xs.length ∧ eqSnaps (xs.drop (j)) (ys.drop (j)) = eqCat n xs m ys) (fun j => xs.length - (j)) (fun j => [(2, .pointer (some ⟨b_2, 0, none⟩)), (3, .pointer (some ⟨b_3, 0, none⟩)), (5, .int .i64 ((j) : Nat))]) (fun j => [(b_3, blk [.int .i64 m, .slice a1 ys.length c1] 24 (0, 0))] :: [(b_2, blk [.int .i64 n, .slice a0 xs.length c0] 24 (0, 0))] :: hs) (0) ?_ (SubR.cons rfl (SubR.cons rfl (SubR.cons rfl (SubR.nil _)))) (by repeat (first | exact Sel.refl _ | refine Sel.empty ?_ | refine Sel.pull (by repeat (first | exact Pull.head | apply Pull.tail)) ?_ | refine Sel.drop ?_)) ?_
      · exact ⟨by omega, hp⟩
      rintro i ⟨hi, hp⟩
      show TT _ _ _ [(2, .pointer (some ⟨b_2, 0, none⟩)), (3, .pointer (some ⟨b_3, 0, none⟩)), (5, .int .i64 (i : Nat))] ([(b_3, blk [.int .i64 m, .slice a1 ys.length c1] 24 (0, 0))] :: [(b_2, blk [.int .i64 n, .slice a0 xs.length c0] 24 (0, 0))] :: hs)
      refine TT.seq ?_
      refine TT.seq ?_
      refine TT.region ?_
      refine OT.pures hT 2 rfl ?_
      refine OT.load rfl rfl (Ld.slc hT rfl (by repeat (first | exact Has.one | apply Has.there)) rfl) rfl ?_
      refine OT.pures hT 2 rfl ?_
      refine OT.nil ?_
      refine KT.seq ?_
      refine TT.cond rfl (fun c24 => ?_) (fun c24 => ?_)
      ·
        have c24 := of_decide_eq_true c24
        obtain ⟨x, hx⟩ := nth (l := xs) (i := i) (by omega)
        obtain ⟨y, hy⟩ := nth (l := ys) (i := i) (by omega)
        rw [drop_cons hx, drop_cons hy, eqSnaps] at hp
        refine TT.skip ?_
        refine KT.seq ?_
        refine TT.seq ?_
        refine TT.block ?_
        refine TT.seq ?_
        refine TT.draw ([(b_3, blk [.int .i64 m, .slice a1 ys.length c1] 24 (0, 0))] :: [(b_2, blk [.int .i64 n, .slice a0 xs.length c0] 24 (0, 0))] :: hs) mixed ?_
        refine AT.takes (fuel := 8) hT [0, 2, 5, 7] (by kernel_rfl) (by kernel_rfl) rfl ?_
        refine AT.take (fuel := 7) hT 1 rfl rfl (by kernel_rfl) (by kernel_rfl) (by kernel_rfl) rfl (.load rfl (Ld.slc hT rfl (by repeat (first | exact Has.one | apply Has.there)) rfl)) rfl ?_
        refine AT.take (fuel := 6) hT 6 rfl rfl (by kernel_rfl) (by kernel_rfl) (by kernel_rfl) rfl (.load rfl (Ld.slc hT rfl (by repeat (first | exact Has.one | apply Has.there)) rfl)) rfl ?_
        refine AT.index (fuel := 5) hT 3 rfl (by kernel_rfl) (by kernel_rfl) (by kernel_rfl) rfl rfl rfl rfl hr.there.there (by omega) hx rfl (fun ad_30 hel_30 => ?_)
        refine AT.take (fuel := 4) hT 4 rfl rfl (by kernel_rfl) (by kernel_rfl) (by kernel_rfl) rfl (.load rfl (hel_30.ld_struct hT rfl)) rfl ?_
        refine AT.index (fuel := 3) hT 8 rfl (by kernel_rfl) (by kernel_rfl) (by kernel_rfl) rfl rfl rfl rfl hq.there.there (by omega) hy rfl (fun ad_35 hel_35 => ?_)
        refine AT.take (fuel := 2) hT 9 rfl rfl (by kernel_rfl) (by kernel_rfl) (by kernel_rfl) rfl (.load rfl (hel_35.ld_struct hT rfl)) rfl ?_
        refine AT.op (fuel := 1) 10 (by kernel_rfl) rfl (by repeat (first | exact Sel.refl _ | refine Sel.empty ?_ | refine Sel.pull (by repeat (first | exact Pull.head | apply Pull.tail)) ?_ | refine Sel.drop ?_)) ?_
        refine OT.call Try.call41 rfl rfl rfl rfl (ref_EqSnap (hr.1 x (List.mem_of_getElem? hx)) (hq.1 y (List.mem_of_getElem? hy))) ?_
        rintro v_37 hs_37 ⟨rfl, rfl⟩
        refine OT.nil ?_
        refine KT.any ?_
        refine AT.takes (fuel := 0) hT [11] (by kernel_rfl) (by kernel_rfl) rfl ?_
        refine AT.done (by kernel_rfl) (by repeat (first | exact Sel.refl _ | refine Sel.empty ?_ | refine Sel.pull (by repeat (first | exact Pull.head | apply Pull.tail)) ?_ | refine Sel.drop ?_)) ?_
        refine KT.seq ?_
        refine TT.cond rfl (fun c38 => ?_) (fun c38 => ?_)
        ·
          have c38 : eqSnap x y = false := by simpa using c38
          refine TT.seq ?_
          refine TT.region ?_
          refine OT.pures hT 1 rfl ?_
          refine OT.nil ?_
          refine KT.seq ?_
          refine TT.ret ?_
          refine RT.of (rs := [.tmp 4]) [_] hs rfl (.tmp rfl .nil) (by repeat (first | exact Sel.refl _ | refine Sel.empty ?_ | refine Sel.pull (by repeat (first | exact Pull.head | apply Pull.tail)) ?_ | refine Sel.drop ?_)) ?_
          dsimp only [one]
          exact ⟨by rw [← hp, c38]; rfl, rfl⟩
        ·
          have c38 : eqSnap x y = true := by simpa using c38
          refine TT.skip ?_
          refine KT.blk ?_
          refine KT.seq ?_
          refine TT.region ?_
          refine OT.pures hT 3 rfl ?_
          refine OT.nil ?_
          refine KT.loop (i + 1) ?_ ?_ (SubR.cons rfl (SubR.cons rfl (SubR.cons' rfl (by (try dsimp only); exact (int_eq (by rw [wrap_i64 (by omega) (by omega)]; omega))) (SubR.nil _)))) (by repeat (first | exact Sel.refl _ | refine Sel.empty ?_ | refine Sel.pull (by repeat (first | exact Pull.head | apply Pull.tail)) ?_ | refine Sel.drop ?_))
          · exact ⟨by omega, by rw [← hp, c38, Bool.true_and]⟩
          · omega
      ·
        have c24 := of_decide_eq_false c24
        rw [List.drop_eq_nil_of_le (show xs.length ≤ i by omega), eqSnaps_nil] at hp
        refine TT.exit ?_
        refine XT.seq ?_
        refine XT.loop ?_
        refine XT.here ?_
        refine KT.seq ?_
        refine TT.seq ?_
        refine TT.region ?_
        refine OT.pures hT 1 rfl ?_
        refine OT.nil ?_
        refine KT.seq ?_
        refine TT.ret ?_
        refine RT.of (rs := [.tmp 4]) [_] hs rfl (.tmp rfl .nil) (by repeat (first | exact Sel.refl _ | refine Sel.empty ?_ | refine Sel.pull (by repeat (first | exact Pull.head | apply Pull.tail)) ?_ | refine Sel.drop ?_)) ?_
        dsimp only [one]
        exact ⟨by rw [← hp], rfl⟩

set_option maxHeartbeats 1000000 in
set_option maxRecDepth 100000 in
theorem law20_Back {n : Int} {a0 : Option Addr} {l0 c0 : Nat} {hs : List Chunk} : Fun Try.prog 25 [.agg ⟨[.int .i64 n, .slice a0 l0 c0]⟩] hs (fun v' hs' => v' = .agg ⟨[.int .i64 n, .slice a0 l0 c0]⟩ ∧ hs = hs') := by
  refine Fun.enter 8 Try.func25 rfl Try.ntmps25 rfl ?_
  refine TT.seq ?_
  refine TT.region ?_
  refine OT.box rfl rfl rfl (fun b_1 => ?_)
  refine OT.alloc Try.zeroValue24 rfl rfl (fun b_2 => ?_)
  refine OT.nil ?_
  refine KT.seq ?_
  refine TT.seq ?_
  refine TT.region ?_
  refine OT.pures hT 1 rfl ?_
  refine OT.load rfl rfl (Ld.one hT rfl (by repeat (first | exact Has.one | apply Has.there)) rfl) rfl ?_
  refine OT.pures hT 1 rfl ?_
  refine OT.load rfl rfl (Ld.slc hT rfl (by repeat (first | exact Has.one | apply Has.there)) rfl) rfl ?_
  refine OT.build (cs := [.int .i64 n, .slice a0 l0 c0]) hT rfl Try.zeroValue24 rfl rfl rfl rfl ?_
  refine OT.store_all hT rfl rfl rfl rfl (by repeat (first | exact Pull.head | apply Pull.tail)) rfl rfl rfl (.inl (Nat.le_refl _)) ?_
  refine OT.nil ?_
  refine KT.seq ?_
  refine TT.ret ?_
  refine RT.of (rs := [.cell 2 24]) [_] hs rfl (.cell rfl (Ld.struct_all hT rfl (by repeat (first | exact Has.one | apply Has.there)) rfl) .nil) (by repeat (first | exact Sel.refl _ | refine Sel.empty ?_ | refine Sel.pull (by repeat (first | exact Pull.head | apply Pull.tail)) ?_ | refine Sel.drop ?_)) ?_
  dsimp only [one]
  exact ⟨rfl, rfl⟩

set_option maxHeartbeats 1000000 in
set_option maxRecDepth 100000 in
theorem law20_Of {n : Int} {a0 : Option Addr} {l0 c0 : Nat} {hs : List Chunk} : Fun Try.prog 14 [.agg ⟨[.int .i64 n, .slice a0 l0 c0]⟩] hs (fun v' hs' => v' = .agg ⟨[.int .i64 n, .slice a0 l0 c0]⟩ ∧ hs = hs') := by
  refine Fun.enter 8 Try.func14 rfl Try.ntmps14 rfl ?_
  refine TT.seq ?_
  refine TT.region ?_
  refine OT.box rfl rfl rfl (fun b_1 => ?_)
  refine OT.alloc Try.zeroValue33 rfl rfl (fun b_2 => ?_)
  refine OT.nil ?_
  refine KT.seq ?_
  refine TT.seq ?_
  refine TT.region ?_
  refine OT.pures hT 1 rfl ?_
  refine OT.load rfl rfl (Ld.one hT rfl (by repeat (first | exact Has.one | apply Has.there)) rfl) rfl ?_
  refine OT.pures hT 1 rfl ?_
  refine OT.load rfl rfl (Ld.slc hT rfl (by repeat (first | exact Has.one | apply Has.there)) rfl) rfl ?_
  refine OT.build (cs := [.int .i64 n, .slice a0 l0 c0]) hT rfl Try.zeroValue33 rfl rfl rfl rfl ?_
  refine OT.store_all hT rfl rfl rfl rfl (by repeat (first | exact Pull.head | apply Pull.tail)) rfl rfl rfl (.inl (Nat.le_refl _)) ?_
  refine OT.nil ?_
  refine KT.seq ?_
  refine TT.ret ?_
  refine RT.of (rs := [.cell 2 33]) [_] hs rfl (.cell rfl (Ld.struct_all hT rfl (by repeat (first | exact Has.one | apply Has.there)) rfl) .nil) (by repeat (first | exact Sel.refl _ | refine Sel.empty ?_ | refine Sel.pull (by repeat (first | exact Pull.head | apply Pull.tail)) ?_ | refine Sel.drop ?_)) ?_
  dsimp only [one]
  exact ⟨rfl, rfl⟩

set_option maxHeartbeats 1000000 in
set_option maxRecDepth 100000 in
theorem ref_Whole {v : Value} {xs : List UInt8} {hs : List Chunk} (hr : Row Go.Sx.encB 1 hs v xs) (hl : xs.length ≤ 1073741824) : Fun Try.prog 28 [v] hs (fun v' hs' => ∃ H', hs' = H' :: hs ∧ Own Go.Sx.encB 1 5 v' (whole xs) H') := by
  refine Fun.enter 12 Try.func28 rfl Try.ntmps28 rfl ?_
  obtain ⟨a0, c0, hv⟩ := hr.len
  subst hv
  refine TT.seq ?_
  refine TT.region ?_
  refine OT.pures hT 1 rfl ?_
  refine OT.nil ?_
  refine KT.seq ?_
  refine TT.seq ?_
  refine TT.seq ?_
  refine TT.region ?_
  refine OT.pures hT 3 rfl ?_
  refine OT.nil ?_
  refine KT.seq ?_
  refine TT.cond rfl (fun c5 => ?_) (fun c5 => ?_)
  ·
    have c5 := of_decide_eq_true c5
    refine TT.seq ?_
    refine TT.region ?_
    refine OT.pures hT 1 rfl ?_
    refine OT.nil ?_
    refine KT.seq ?_
    refine TT.ret ?_
    refine RT.of (rs := [.tmp 2]) [_] ([] :: hs) rfl (.tmp rfl .nil) (by repeat (first | exact Sel.refl _ | refine Sel.empty ?_ | refine Sel.pull (by repeat (first | exact Pull.head | apply Pull.tail)) ?_ | refine Sel.drop ?_)) ?_
    dsimp only [one]
    exact ⟨[], rfl, by unfold whole; rw [if_pos (by omega)]; exact Own.nil⟩
  ·
    have c5 := of_decide_eq_false c5
    refine TT.skip ?_
    refine KT.seq ?_
    refine TT.seq ?_
    refine TT.region ?_
    refine OT.pures hT 1 rfl ?_
    refine OT.chunk0 ?_
    refine OT.append hT el29 rfl rfl rfl rfl (by repeat (first | exact Pull.head | apply Pull.tail)) Own.nil hr.there (ones_B xs) (by simp only [List.length_nil]; omega) rfl (fun v_7 H_7 ho_7 => ?_)
    refine OT.pures hT 3 rfl ?_
    refine OT.append_zeros (z0 := (0 : UInt8)) (m := 256 - xs.length) Try.zeroValue5 rfl rfl rfl hT el29 rfl rfl rfl (congrArg some (int_eq (by rw [wrap_i64 (by omega) (by omega)]; omega))) (by repeat (first | exact Pull.head | apply Pull.tail)) ho_7 (by simp only [List.nil_append]; omega) rfl (fun v_11 H_11 ho_11 => ?_)
    refine OT.pures hT 1 rfl ?_
    refine OT.nil ?_
    refine KT.seq ?_
    refine TT.ret ?_
    refine RT.of (rs := [.tmp 2]) [_] (H_11 :: hs) rfl (.tmp rfl .nil) (by repeat (first | exact Sel.refl _ | refine Sel.empty ?_ | refine Sel.pull (by repeat (first | exact Pull.head | apply Pull.tail)) ?_ | refine Sel.drop ?_)) ?_
    dsimp only [one]
    exact ⟨_, rfl, by unfold whole page; rw [if_neg (by omega)]; exact ho_11⟩

set_option maxHeartbeats 1000000 in
set_option maxRecDepth 100000 in
theorem law20_Cut {next : Int} {v : Value} {xs : List Snap} {hs : List Chunk} (hr : Row encSnap 35 hs v xs) (hl : xs.length ≤ 1073741824) : Fun Try.prog 10 [.agg ⟨[.int .i64 next, v]⟩] hs (fun v' hs' => ∃ w H', v' = .agg ⟨[.int .i64 next, w]⟩ ∧ hs' = H' :: hs ∧ Own encSnap 35 42 w ((xs.take 6).map cutSnap) H') := by
  refine Fun.enter 36 Try.func10 rfl Try.ntmps10 rfl ?_
  obtain ⟨a0, c0, hv⟩ := hr.len
  subst hv
  refine TT.seq ?_
  refine TT.region ?_
  refine OT.box rfl rfl rfl (fun b_1 => ?_)
  refine OT.alloc Try.zeroValue24 rfl rfl (fun b_2 => ?_)
  refine OT.nil ?_
  refine KT.seq ?_
  refine TT.seq ?_
  refine TT.region ?_
  refine OT.pures hT 1 rfl ?_
  refine OT.load rfl rfl (Ld.one hT rfl (by repeat (first | exact Has.one | apply Has.there)) rfl) rfl ?_
  refine OT.build (cs := [.int .i64 next, .slice none 0 0]) hT rfl Try.zeroValue24 rfl rfl rfl rfl ?_
  refine OT.alloc Try.zeroValue24 rfl rfl (fun b_3 => ?_)
  refine OT.store_all hT rfl rfl rfl rfl (by repeat (first | exact Pull.head | apply Pull.tail)) rfl rfl rfl (.inl (Nat.le_refl _)) ?_
  refine OT.nil ?_
  refine KT.seq ?_
  refine TT.seq ?_
  refine TT.seq ?_
  refine TT.region ?_
  refine OT.pures hT 1 rfl ?_
  refine OT.nil ?_
  refine KT.seq ?_
  refine TT.block ?_
  refine TT.chunk0 ?_
  refine TT.loop (ι := Nat × (Option Addr) × Nat × Nat × Chunk) (fun j => (j.1) ≤ xs.length ∧ (j.1) ≤ 6 ∧ Own encSnap 35 42 (.slice (j.2.1) (j.2.2.1) (j.2.2.2.1)) ((xs.take (j.1)).map cutSnap) (j.2.2.2.2)) (fun j => xs.length - (j.1)) (fun j => [(1, .pointer (some ⟨b_1, 0, none⟩)), (2, .pointer (some ⟨b_2, 0, none⟩)), (3, .pointer (some ⟨b_3, 0, none⟩)), (4, .int .i64 ((j.1) : Nat))]) (fun j => [(b_3, blk [.int .i64 next, .slice (j.2.1) (j.2.2.1) (j.2.2.2.1)] 24 (0, 0))] :: [(b_2, blk [.int .i64 0, .slice none 0 0] 24 (0, 0))] :: [(b_1, blk [.int .i64 next, .slice a0 xs.length c0] 24 (0, 0))] :: (j.2.2.2.2) :: hs) (0, none, 0, 0, []) ?_ (SubR.cons rfl (SubR.cons rfl (SubR.cons rfl (SubR.cons rfl (SubR.nil _))))) (by repeat (first | exact Sel.refl _ | refine Sel.empty ?_ | refine Sel.pull (by repeat (first | exact Pull.head | apply Pull.tail)) ?_ | refine Sel.drop ?_)) ?_
  · dsimp only
    exact ⟨by omega, by omega, Own.nil⟩
  rintro ⟨i, a, n, c, K⟩ hI
  dsimp only at hI
  obtain ⟨hi, h6, hO⟩ := hI
  show TT _ _ _ [(1, .pointer (some ⟨b_1, 0, none⟩)), (2, .pointer (some ⟨b_2, 0, none⟩)), (3, .pointer (some ⟨b_3, 0, none⟩)), (4, .int .i64 (i : Nat))] ([(b_3, blk [.int .i64 next, .slice a n c] 24 (0, 0))] :: [(b_2, blk [.int .i64 0, .slice none 0 0] 24 (0, 0))] :: [(b_1, blk [.int .i64 next, .slice a0 xs.length c0] 24 (0, 0))] :: K :: hs)
  refine TT.seq ?_
  refine TT.seq ?_
  refine TT.region ?_
  refine OT.pures hT 2 rfl ?_
  refine OT.load rfl rfl (Ld.slc hT rfl (by repeat (first | exact Has.one | apply Has.there)) rfl) rfl ?_
  refine OT.pures hT 3 rfl ?_
  refine OT.split 14 rfl (fun g14 => ?_) (fun g14 => ?_)
  ·
    have g14 := of_decide_eq_true g14
    refine OT.pures hT 3 rfl ?_
    refine OT.nil ?_
    refine KT.seq ?_
    refine TT.cond rfl (fun c17 => ?_) (fun c17 => ?_)
    ·
      have c17 := of_decide_eq_true c17
      obtain ⟨s, hy⟩ : ∃ y, xs[i]? = some y := ⟨_, List.getElem?_eq_getElem (by omega)⟩
      have h35 := hr.1 s (List.mem_of_getElem? hy)
      refine TT.skip ?_
      refine KT.seq ?_
      refine TT.seq ?_
      refine TT.block ?_
      refine TT.seq ?_
      refine TT.region ?_
      refine OT.pures hT 1 rfl ?_
      refine OT.load rfl rfl (Ld.slc hT rfl (by repeat (first | exact Has.one | apply Has.there)) rfl) rfl ?_
      refine OT.pures hT 1 rfl ?_
      refine OT.index hT rfl rfl rfl rfl hr.there.there.there.there (by omega) hy rfl (fun ad_23 hel_23 => ?_)
      refine OT.load rfl rfl (hel_23.ld_struct hT rfl) rfl ?_
      refine OT.alloc Try.zeroValue42 rfl rfl (fun b_5 => ?_)
      refine OT.store_all hT rfl rfl rfl rfl (by repeat (first | exact Pull.head | apply Pull.tail)) (by exact h35) rfl (ones_snap s) (.inl (Nat.le_refl _)) ?_
      refine OT.nil ?_
      refine KT.seq ?_
      refine TT.seq ?_
      refine TT.region ?_
      refine OT.pures hT 1 rfl ?_
      refine OT.load rfl rfl (Ld.one hT rfl (by repeat (first | exact Has.one | apply Has.there)) rfl) rfl ?_
      refine OT.call Try.call11 rfl rfl rfl rfl (law1_Cut (n := 10)) ?_
      rintro v_27 hs_27 ⟨rfl, rfl⟩
      refine OT.pures hT 1 rfl ?_
      refine OT.store hT rfl rfl rfl rfl (by repeat (first | exact Pull.head | apply Pull.tail)) rfl (by show 0 + 0 + 1 ≤ (encSnap s).length; omega) rfl (.inl (Nat.le_refl _)) rfl ?_
      refine OT.nil ?_
      refine KT.seq ?_
      refine TT.region ?_
      refine OT.pures hT 1 rfl ?_
      refine OT.load rfl rfl (Ld.slc hT rfl (by repeat (first | exact Has.one | apply Has.there)) rfl) rfl ?_
      refine OT.load (v := .agg ⟨encSnap (cutSnap s)⟩) rfl rfl (Ld.struct_all hT rfl Has.one (by exact h35)) rfl ?_
      refine OT.buildSlice (enc := encSnap) (xs := [cutSnap s]) (xos := [.tmp 31]) el22 rfl rfl rfl rfl rfl (by intro v hv; simp only [List.mem_singleton] at hv; subst hv; exact h35) (by intro x hx; simp only [List.mem_singleton] at hx; subst hx; exact h35) rfl (by decide) rfl (fun v_32 H_32 ho_32 => ?_)
      refine OT.append hT el22 rfl rfl rfl rfl (by repeat (first | exact Pull.head | apply Pull.tail)) hO ho_32.row (ones_snaps _) (by simp; omega) rfl (fun v_33 H_33 ho_33 => ?_)
      obtain ⟨a_33, c_33, hv33⟩ := (ho_33.row (hs := hs)).len
      generalize hn33 : (((xs.take i).map cutSnap) ++ [cutSnap s]).length = n_33 at hv33
      subst hv33
      refine OT.pures hT 1 rfl ?_
      refine OT.store hT rfl rfl rfl rfl (by repeat (first | exact Pull.head | apply Pull.tail)) rfl (Nat.le_of_ble_eq_true rfl) rfl (.inl (Nat.le_refl _)) (cs' := [.int .i64 next, .slice a_33 n_33 c_33]) rfl ?_
      refine OT.nil ?_
      refine KT.blk ?_
      refine KT.seq ?_
      refine TT.region ?_
      refine OT.pures hT 3 rfl ?_
      refine OT.nil ?_
      refine KT.loop (i + 1, a_33, n_33, c_33, H_33) ?_ ?_ (SubR.cons rfl (SubR.cons rfl (SubR.cons rfl (SubR.cons' rfl (by (try dsimp only); exact (int_eq (by rw [wrap_i64 (by omega) (by omega)]; omega))) (SubR.nil _))))) (by repeat (first | exact Sel.refl _ | refine Sel.empty ?_ | refine Sel.pull (by repeat (first | exact Pull.head | apply Pull.tail)) ?_ | refine Sel.drop ?_))
      · dsimp only
        exact ⟨by omega, by omega, by rw [map_take_succ cutSnap xs hy]; exact ho_33⟩
      · dsimp only
        omega
    ·
      have c17 := of_decide_eq_false c17
      refine TT.exit ?_
      refine XT.seq ?_
      refine XT.loop ?_
      refine XT.here ?_
      refine KT.seq ?_
      refine TT.seq ?_
      refine TT.region ?_
      refine OT.load rfl rfl (Ld.struct_all hT rfl Has.one rfl) rfl ?_
      refine OT.store_all hT rfl rfl rfl rfl (by repeat (first | exact Pull.head | apply Pull.tail)) rfl rfl rfl (.inl (Nat.le_refl _)) ?_
      refine OT.nil ?_
      refine KT.seq ?_
      refine TT.ret ?_
      refine RT.of (rs := [.cell 2 24]) [_] (K :: hs) rfl (.cell rfl (Ld.struct_all hT rfl (by repeat (first | exact Has.one | apply Has.there)) rfl) .nil) (by repeat (first | exact Sel.refl _ | refine Sel.empty ?_ | refine Sel.pull (by repeat (first | exact Pull.head | apply Pull.tail)) ?_ | refine Sel.drop ?_)) ?_
      dsimp only [one]
      refine ⟨_, K, rfl, rfl, ?_⟩
      have e : (xs.take 6).map cutSnap = (xs.take i).map cutSnap := by
        by_cases h : i = 6
        · subst h; rfl
        · rw [List.take_of_length_le (by omega), List.take_of_length_le (by omega)]
      rw [e]; exact hO
  ·
    have g14 := of_decide_eq_false g14
    refine OT.pures hT 3 rfl ?_
    refine OT.nil ?_
    refine KT.seq ?_
    refine TT.cond_false rfl ?_
    refine TT.exit ?_
    refine XT.seq ?_
    refine XT.loop ?_
    refine XT.here ?_
    refine KT.seq ?_
    refine TT.seq ?_
    refine TT.region ?_
    refine OT.load rfl rfl (Ld.struct_all hT rfl Has.one rfl) rfl ?_
    refine OT.store_all hT rfl rfl rfl rfl (by repeat (first | exact Pull.head | apply Pull.tail)) rfl rfl rfl (.inl (Nat.le_refl _)) ?_
    refine OT.nil ?_
    refine KT.seq ?_
    refine TT.ret ?_
    refine RT.of (rs := [.cell 2 24]) [_] (K :: hs) rfl (.cell rfl (Ld.struct_all hT rfl (by repeat (first | exact Has.one | apply Has.there)) rfl) .nil) (by repeat (first | exact Sel.refl _ | refine Sel.empty ?_ | refine Sel.pull (by repeat (first | exact Pull.head | apply Pull.tail)) ?_ | refine Sel.drop ?_)) ?_
    dsimp only [one]
    refine ⟨_, K, rfl, rfl, ?_⟩
    have e : (xs.take 6).map cutSnap = (xs.take i).map cutSnap := by
      by_cases h : i = 6
      · subst h; rfl
      · rw [List.take_of_length_le (by omega), List.take_of_length_le (by omega)]
    rw [e]; exact hO

end Go.Proofs.Ytpijialhhdpobaa.Sx
