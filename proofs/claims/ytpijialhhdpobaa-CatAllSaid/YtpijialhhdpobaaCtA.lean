/- Numbers and texts as bytes: what the program's num does, and the document's. Printed by a program of ours off the loaded program and our notes; Lean checks it. -/
import Derived.Test.YtpijialhhdpobaaPlA
import Derived.Test.YtpijialhhdpobaaSxT
namespace Go.Proofs.Ytpijialhhdpobaa.Sx
open Go Go.Sx Go.Pl
variable [Outer]

set_option maxHeartbeats 1000000 in
set_option maxRecDepth 100000 in
theorem num_Put {v : Value} {xs : List UInt8} {H : Chunk} {r : List Chunk} {n : Int} (ho : Own Go.Sx.encB 1 5 v xs H) (h1 : -9223372036854775808 ≤ n) (h2 : n ≤ 9223372036854775807) (hl : xs.length ≤ 1073741824) : Fun Try.prog 32 [v, .int .i64 n] (H :: r) (fun v' hs' => ∃ H', hs' = H' :: r ∧ Own Go.Sx.encB 1 5 v' (xs ++ put n) H') := by
  refine Fun.enter 28 Try.func32 rfl Try.ntmps32 rfl ?_
  refine TT.seq ?_
  refine TT.region ?_
  refine OT.pures hT 1 rfl ?_
  refine OT.nil ?_
  refine KT.seq ?_
  refine TT.seq ?_
  refine TT.region ?_
  refine OT.pures hT 4 rfl ?_
  refine OT.nil ?_
  refine KT.seq ?_
  refine TT.cut (ι := Unit) (fun j => True) (fun j => [(0, v), (5, .int .u64 (zig n : Nat))]) (fun j => H :: r) ?_ ?_
  ·
    refine TT.seq ?_
    refine TT.region ?_
    refine OT.pures hT 2 rfl ?_
    refine OT.nil ?_
    refine KT.seq ?_
    refine TT.cond rfl (fun c10 => ?_) (fun c10 => ?_)
    ·
      have c10 := of_decide_eq_true c10
      refine TT.region ?_
      refine OT.pures hT 3 rfl ?_
      refine OT.nil ?_
      refine KT.cut (()) ?_ (SubR.cons rfl (SubR.cons' rfl (by (try dsimp only); exact (by rw [shl1_neg c10 h1, not64 _ (by omega) (by omega)]; refine int_eq ?_; unfold zig; rw [if_pos c10]; omega)) (SubR.nil _))) (by repeat (first | exact Sel.refl _ | refine Sel.empty ?_ | refine Sel.pull (by repeat (first | exact Pull.head | apply Pull.tail)) ?_ | refine Sel.drop ?_))
      · trivial
    ·
      have c10 := of_decide_eq_false c10
      refine TT.skip ?_
      refine KT.cut (()) ?_ (SubR.cons rfl (SubR.cons' rfl (by (try dsimp only); exact (by rw [shl1_pos (by omega) h2])) (SubR.nil _))) (by repeat (first | exact Sel.refl _ | refine Sel.empty ?_ | refine Sel.pull (by repeat (first | exact Pull.head | apply Pull.tail)) ?_ | refine Sel.drop ?_))
      · trivial
  ·
    rintro _ -
    show TT _ _ _ [(0, v), (5, .int .u64 (zig n : Nat))] (H :: r)
    refine TT.seq ?_
    refine TT.block ?_
    refine TT.loop (ι := Nat × (List UInt8) × Value × Chunk) (fun j => Own Go.Sx.encB 1 5 (j.2.2.1) (xs ++ (j.2.1)) (j.2.2.2) ∧ (j.2.1) ++ putU (j.1) = put n ∧ (j.1) < 18446744073709551616) (fun j => (j.1)) (fun j => [(0, (j.2.2.1)), (5, .int .u64 ((j.1) : Nat))]) (fun j => (j.2.2.2) :: r) (zig n, [], v, H) ?_ (SubR.cons rfl (SubR.cons rfl (SubR.nil _))) (by repeat (first | exact Sel.refl _ | refine Sel.empty ?_ | refine Sel.pull (by repeat (first | exact Pull.head | apply Pull.tail)) ?_ | refine Sel.drop ?_)) ?_
    · dsimp only
      exact ⟨by simpa using ho, rfl, zig_lt h1 h2⟩
    rintro ⟨u, ys, w, K⟩ hI
    dsimp only at hI
    obtain ⟨hO, hp, hu⟩ := hI
    show TT _ _ _ [(0, w), (5, .int .u64 (u : Nat))] (K :: r)
    have h10 : ys.length + (putU u).length ≤ 10 := by rw [← List.length_append, hp]; exact put_ten h1 h2
    refine TT.seq ?_
    refine TT.seq ?_
    refine TT.region ?_
    refine OT.pures hT 2 rfl ?_
    refine OT.nil ?_
    refine KT.seq ?_
    refine TT.cond rfl (fun c14 => ?_) (fun c14 => ?_)
    ·
      have c14 := of_decide_eq_true c14
      refine TT.skip ?_
      refine KT.seq ?_
      refine TT.block ?_
      refine TT.seq ?_
      refine TT.region ?_
      refine OT.pures hT 4 rfl ?_
      refine OT.buildSlice (enc := Go.Sx.encB) (xs := [UInt8.ofNat (u % 128 + 128)]) (xos := [.tmp 18]) el29 rfl rfl rfl rfl (by rw [byteOr]; rfl) (by simp [Value.cells]) (fun _ _ => rfl) rfl (by decide) rfl (fun v_19 H_19 ho_19 => ?_)
      refine OT.append hT el29 rfl rfl rfl rfl (by repeat (first | exact Pull.head | apply Pull.tail)) hO ho_19.row rfl (by simp; omega) rfl (fun v_20 H_20 ho_20 => ?_)
      refine OT.pures hT 1 rfl ?_
      refine OT.nil ?_
      refine KT.seq ?_
      refine TT.region ?_
      refine OT.pures hT 3 rfl ?_
      refine OT.nil ?_
      refine KT.blk ?_
      refine KT.loop (u / 128, ys ++ [UInt8.ofNat (u % 128 + 128)], v_20, H_20) ?_ ?_ (SubR.cons rfl (SubR.cons' rfl (by (try dsimp only); exact (by rw [shr7])) (SubR.nil _))) (by repeat (first | exact Sel.refl _ | refine Sel.empty ?_ | refine Sel.pull (by repeat (first | exact Pull.head | apply Pull.tail)) ?_ | refine Sel.drop ?_))
      · dsimp only
        exact ⟨by simpa using ho_20, by rw [← hp, putU_big (u := u) (by omega), List.append_assoc]; rfl, by omega⟩
      · dsimp only
        omega
    ·
      have c14 := of_decide_eq_false c14
      refine TT.exit ?_
      refine XT.seq ?_
      refine XT.loop ?_
      refine XT.here ?_
      refine KT.seq ?_
      refine TT.seq ?_
      refine TT.region ?_
      refine OT.pures hT 3 rfl ?_
      refine OT.buildSlice (enc := Go.Sx.encB) (xs := [UInt8.ofNat u]) (xos := [.tmp 25]) el29 rfl rfl rfl rfl (by rw [wrap_u8]; rfl) (by simp [Value.cells]) (fun _ _ => rfl) rfl (by decide) rfl (fun v_26 H_26 ho_26 => ?_)
      refine OT.append hT el29 rfl rfl rfl rfl (by repeat (first | exact Pull.head | apply Pull.tail)) hO ho_26.row rfl (by simp; omega) rfl (fun v_27 H_27 ho_27 => ?_)
      refine OT.pures hT 1 rfl ?_
      refine OT.nil ?_
      refine KT.seq ?_
      refine TT.ret ?_
      refine RT.of (rs := [.tmp 4]) [_] (H_27 :: r) rfl (.tmp rfl .nil) (by repeat (first | exact Sel.refl _ | refine Sel.empty ?_ | refine Sel.pull (by repeat (first | exact Pull.head | apply Pull.tail)) ?_ | refine Sel.drop ?_)) ?_
      dsimp only [one]
      exact ⟨_, rfl, by rw [← hp, putU_small (u := u) (by omega), ← List.append_assoc]; exact ho_27⟩

set_option maxHeartbeats 1000000 in
set_option maxRecDepth 100000 in
theorem ref_Put {r : List Chunk} {n : Int} (h1 : -9223372036854775808 ≤ n) (h2 : n ≤ 9223372036854775807) : Fun Try.prog 35 [.int .i64 n] r (fun v' hs' => ∃ H', hs' = H' :: r ∧ Own Go.Sx.encB 1 5 v' (put n) H') := by
  refine Fun.enter 28 Try.func35 rfl Try.ntmps35 rfl ?_
  refine TT.seq ?_
  refine TT.region ?_
  refine OT.pures hT 1 rfl ?_
  refine OT.nil ?_
  refine KT.seq ?_
  refine TT.seq ?_
  refine TT.region ?_
  refine OT.pures hT 4 rfl ?_
  refine OT.nil ?_
  refine KT.seq ?_
  refine TT.cut (ι := Unit) (fun j => True) (fun j => [(3, .int .u64 (zig n : Nat))]) (fun j => r) ?_ ?_
  ·
    refine TT.seq ?_
    refine TT.region ?_
    refine OT.pures hT 2 rfl ?_
    refine OT.nil ?_
    refine KT.seq ?_
    refine TT.cond rfl (fun c9 => ?_) (fun c9 => ?_)
    ·
      have c9 := of_decide_eq_true c9
      refine TT.region ?_
      refine OT.pures hT 3 rfl ?_
      refine OT.nil ?_
      refine KT.cut (()) ?_ (SubR.cons' rfl (by (try dsimp only); exact (by rw [show IntKind.u64.wrap (IntKind.u64.wrap n * 2) = 18446744073709551616 + 2 * n from shl1_neg c9 h1, not64 _ (by omega) (by omega)]; refine int_eq ?_; unfold zig; rw [if_pos c9]; omega)) (SubR.nil _)) (by repeat (first | exact Sel.refl _ | refine Sel.empty ?_ | refine Sel.pull (by repeat (first | exact Pull.head | apply Pull.tail)) ?_ | refine Sel.drop ?_))
      · trivial
    ·
      have c9 := of_decide_eq_false c9
      refine TT.skip ?_
      refine KT.cut (()) ?_ (SubR.cons' rfl (by (try dsimp only); exact (int_eq (shl1_pos (by omega) h2))) (SubR.nil _)) (by repeat (first | exact Sel.refl _ | refine Sel.empty ?_ | refine Sel.pull (by repeat (first | exact Pull.head | apply Pull.tail)) ?_ | refine Sel.drop ?_))
      · trivial
  ·
    rintro _ -
    show TT _ _ _ [(3, .int .u64 (zig n : Nat))] (r)
    refine TT.seq ?_
    refine TT.region ?_
    refine OT.pures hT 1 rfl ?_
    refine OT.nil ?_
    refine KT.seq ?_
    refine TT.seq ?_
    refine TT.block ?_
    refine TT.chunk0 ?_
    refine TT.loop (ι := Nat × (List UInt8) × Value × Chunk) (fun j => Own Go.Sx.encB 1 5 (j.2.2.1) (j.2.1) (j.2.2.2) ∧ (j.2.1) ++ putU (j.1) = put n ∧ (j.1) < 18446744073709551616) (fun j => (j.1)) (fun j => [(4, (j.2.2.1)), (3, .int .u64 ((j.1) : Nat))]) (fun j => (j.2.2.2) :: r) (zig n, [], .slice none 0 0, []) ?_ (SubR.cons rfl (SubR.cons rfl (SubR.nil _))) (by repeat (first | exact Sel.refl _ | refine Sel.empty ?_ | refine Sel.pull (by repeat (first | exact Pull.head | apply Pull.tail)) ?_ | refine Sel.drop ?_)) ?_
    · dsimp only
      exact ⟨Own.nil, rfl, zig_lt h1 h2⟩
    rintro ⟨u, ys, w, K⟩ hI
    dsimp only at hI
    obtain ⟨hO, hp, hu⟩ := hI
    show TT _ _ _ [(4, w), (3, .int .u64 (u : Nat))] (K :: r)
    have h10 : ys.length + (putU u).length ≤ 10 := by rw [← List.length_append, hp]; exact put_ten h1 h2
    refine TT.seq ?_
    refine TT.seq ?_
    refine TT.region ?_
    refine OT.pures hT 2 rfl ?_
    refine OT.nil ?_
    refine KT.seq ?_
    refine TT.cond rfl (fun c13 => ?_) (fun c13 => ?_)
    ·
      have c13 := of_decide_eq_true c13
      refine TT.skip ?_
      refine KT.seq ?_
      refine TT.block ?_
      refine TT.seq ?_
      refine TT.region ?_
      refine OT.pures hT 5 rfl ?_
      refine OT.buildSlice (enc := Go.Sx.encB) (xs := [UInt8.ofNat (u % 128 + 128)]) (xos := [.tmp 18]) el29 rfl rfl rfl rfl (by rw [tmod128, wrap_u64 (by omega) (by omega), show ((u % 128 : Nat) : Int) + 128 = ((u % 128 + 128 : Nat) : Int) from by omega, wrap_u8]; rfl) (by simp [Value.cells]) (fun _ _ => rfl) rfl (by decide) rfl (fun v_19 H_19 ho_19 => ?_)
      refine OT.append hT el29 rfl rfl rfl rfl (by repeat (first | exact Pull.head | apply Pull.tail)) hO ho_19.row rfl (by simp; omega) rfl (fun v_20 H_20 ho_20 => ?_)
      refine OT.pures hT 1 rfl ?_
      refine OT.nil ?_
      refine KT.seq ?_
      refine TT.region ?_
      refine OT.pures hT 3 rfl ?_
      refine OT.nil ?_
      refine KT.blk ?_
      refine KT.loop (u / 128, ys ++ [UInt8.ofNat (u % 128 + 128)], v_20, H_20) ?_ ?_ (SubR.cons rfl (SubR.cons' rfl (by (try dsimp only); exact (by rw [tdiv128, wrap_u64 (by omega) (by omega)])) (SubR.nil _))) (by repeat (first | exact Sel.refl _ | refine Sel.empty ?_ | refine Sel.pull (by repeat (first | exact Pull.head | apply Pull.tail)) ?_ | refine Sel.drop ?_))
      · dsimp only
        exact ⟨by simpa using ho_20, by rw [← hp, putU_big (u := u) (by omega), List.append_assoc]; rfl, by omega⟩
      · dsimp only
        omega
    ·
      have c13 := of_decide_eq_false c13
      refine TT.exit ?_
      refine XT.seq ?_
      refine XT.loop ?_
      refine XT.here ?_
      refine KT.seq ?_
      refine TT.seq ?_
      refine TT.region ?_
      refine OT.pures hT 3 rfl ?_
      refine OT.buildSlice (enc := Go.Sx.encB) (xs := [UInt8.ofNat u]) (xos := [.tmp 25]) el29 rfl rfl rfl rfl (by rw [wrap_u8]; rfl) (by simp [Value.cells]) (fun _ _ => rfl) rfl (by decide) rfl (fun v_26 H_26 ho_26 => ?_)
      refine OT.append hT el29 rfl rfl rfl rfl (by repeat (first | exact Pull.head | apply Pull.tail)) hO ho_26.row rfl (by simp; omega) rfl (fun v_27 H_27 ho_27 => ?_)
      refine OT.pures hT 1 rfl ?_
      refine OT.nil ?_
      refine KT.seq ?_
      refine TT.ret ?_
      refine RT.of (rs := [.tmp 2]) [_] (H_27 :: r) rfl (.tmp rfl .nil) (by repeat (first | exact Sel.refl _ | refine Sel.empty ?_ | refine Sel.pull (by repeat (first | exact Pull.head | apply Pull.tail)) ?_ | refine Sel.drop ?_)) ?_
      dsimp only [one]
      exact ⟨_, rfl, by rw [← hp, putU_small (u := u) (by omega)]; exact ho_27⟩

set_option maxHeartbeats 1000000 in
set_option maxRecDepth 100000 in
theorem num_PutText {v : Value} {xs : List UInt8} {H : Chunk} {r : List Chunk} {s : ByteArray} (ho : Own Go.Sx.encB 1 5 v xs H) (hs : s.size ≤ 1073741824) (hl : xs.length ≤ 1073741824) : Fun Try.prog 33 [v, .string s] (H :: r) (fun v' hs' => ∃ H', hs' = H' :: r ∧ Own Go.Sx.encB 1 5 v' (xs ++ putText s) H') := by
  refine Fun.enter 11 Try.func33 rfl Try.ntmps33 rfl ?_
  refine TT.seq ?_
  refine TT.region ?_
  refine OT.pures hT 1 rfl ?_
  refine OT.nil ?_
  refine KT.seq ?_
  refine TT.seq ?_
  refine TT.region ?_
  refine OT.pures hT 3 rfl ?_
  refine OT.call Try.call32 rfl rfl rfl rfl (num_Put ho (by omega) (by omega) hl) ?_
  rintro v_8 hs_8 ⟨H1, rfl, ho1⟩
  refine OT.pures hT 1 rfl ?_
  refine OT.append_str (fun _ => rfl) hT el29 rfl rfl rfl rfl (by repeat (first | exact Pull.head | apply Pull.tail)) ho1 (by have := put_ten (n := s.size) (by omega) (by omega); have e : s.data.toList.length = s.size := Array.length_toList; rw [List.length_append, e]; omega) rfl (fun v_10 H_10 ho_10 => ?_)
  refine OT.pures hT 1 rfl ?_
  refine OT.nil ?_
  refine KT.seq ?_
  refine TT.ret ?_
  refine RT.of (rs := [.tmp 4]) [_] (H_10 :: r) rfl (.tmp rfl .nil) (by repeat (first | exact Sel.refl _ | refine Sel.empty ?_ | refine Sel.pull (by repeat (first | exact Pull.head | apply Pull.tail)) ?_ | refine Sel.drop ?_)) ?_
  dsimp only [one]
  exact ⟨_, rfl, by unfold putText; rw [← List.append_assoc]; exact ho_10⟩

set_option maxHeartbeats 1000000 in
set_option maxRecDepth 100000 in
theorem ref_PutText {r : List Chunk} {s : ByteArray} (hs : s.size ≤ 1073741824) : Fun Try.prog 36 [.string s] r (fun v' hs' => ∃ H', hs' = H' :: r ∧ Own Go.Sx.encB 1 5 v' (putText s) H') := by
  refine Fun.enter 8 Try.func36 rfl Try.ntmps36 rfl ?_
  refine TT.seq ?_
  refine TT.region ?_
  refine OT.pures hT 1 rfl ?_
  refine OT.nil ?_
  refine KT.seq ?_
  refine TT.seq ?_
  refine TT.region ?_
  refine OT.pures hT 2 rfl ?_
  refine OT.call Try.call35 rfl rfl rfl rfl (ref_Put (by omega) (by omega)) ?_
  rintro v_5 hs_5 ⟨H1, rfl, ho1⟩
  refine OT.pures hT 1 rfl ?_
  refine OT.append_str (fun _ => rfl) hT el29 rfl rfl rfl rfl (by repeat (first | exact Pull.head | apply Pull.tail)) ho1 (by have := put_ten (n := s.size) (by omega) (by omega); have e : s.data.toList.length = s.size := Array.length_toList; rw [e]; omega) rfl (fun v_7 H_7 ho_7 => ?_)
  refine OT.pures hT 1 rfl ?_
  refine OT.nil ?_
  refine KT.seq ?_
  refine TT.ret ?_
  refine RT.of (rs := [.tmp 2]) [_] (H_7 :: r) rfl (.tmp rfl .nil) (by repeat (first | exact Sel.refl _ | refine Sel.empty ?_ | refine Sel.pull (by repeat (first | exact Pull.head | apply Pull.tail)) ?_ | refine Sel.drop ?_)) ?_
  dsimp only [one]
  exact ⟨_, rfl, ho_7⟩

set_option maxHeartbeats 1000000 in
set_option maxRecDepth 100000 in
theorem num_Get {v : Value} {xs : List UInt8} {hs : List Chunk} (hr : Row Go.Sx.encB 1 hs v xs) (hl : xs.length ≤ 1073741824) : Fun Try.prog 37 [v] hs (fun v' hs' => v' = .tuple ⟨[.int .i64 (get xs).1, .int .i64 (get xs).2.1, .int .i64 (get xs).2.2]⟩ ∧ hs = hs') := by
  refine Fun.enter 50 Try.func37 rfl Try.ntmps37 rfl ?_
  obtain ⟨a0, c0, hv⟩ := hr.len
  subst hv
  refine TT.seq ?_
  refine TT.region ?_
  refine OT.pures hT 3 rfl ?_
  refine OT.nil ?_
  refine KT.seq ?_
  refine TT.seq ?_
  refine TT.region ?_
  refine OT.pures hT 1 rfl ?_
  refine OT.nil ?_
  refine KT.seq ?_
  refine TT.seq ?_
  refine TT.seq ?_
  refine TT.region ?_
  refine OT.pures hT 3 rfl ?_
  refine OT.nil ?_
  refine KT.seq ?_
  refine TT.block ?_
  refine TT.loop (ι := Nat × Nat) (fun j => (j.1) ≤ 9 ∧ (j.1) ≤ xs.length ∧ (j.2) < 128 ^ (j.1) ∧ getL (j.1) (j.2) (xs.drop (j.1)) = get xs) (fun j => xs.length - (j.1)) (fun j => [(5, .int .u64 ((j.2) : Nat)), (9, .slice a0 xs.length c0), (10, .int .i64 xs.length), (11, .int .i64 ((j.1) : Nat))]) (fun j => hs) (0, 0) ?_ (SubR.cons rfl (SubR.cons rfl (SubR.cons rfl (SubR.cons rfl (SubR.nil _))))) (by repeat (first | exact Sel.refl _ | refine Sel.empty ?_ | refine Sel.pull (by repeat (first | exact Pull.head | apply Pull.tail)) ?_ | refine Sel.drop ?_)) ?_
  · dsimp only
    exact ⟨by omega, by omega, by simp, rfl⟩
  rintro ⟨i, u⟩ hI
  dsimp only at hI
  obtain ⟨h9, hi, hu, hp⟩ := hI
  show TT _ _ _ [(5, .int .u64 (u : Nat)), (9, .slice a0 xs.length c0), (10, .int .i64 xs.length), (11, .int .i64 (i : Nat))] (hs)
  refine TT.seq ?_
  refine TT.region ?_
  refine OT.pures hT 1 rfl ?_
  refine OT.nil ?_
  refine KT.seq ?_
  refine TT.seq ?_
  refine TT.cond rfl (fun c12 => ?_) (fun c12 => ?_)
  ·
    have c12 := of_decide_eq_true c12
    obtain ⟨c, hc⟩ : ∃ c, xs[i]? = some c := ⟨_, List.getElem?_eq_getElem (by omega)⟩
    rw [List.drop_eq_getElem_cons (by omega), show xs[i]'(by omega) = c from by rw [List.getElem?_eq_getElem (by omega)] at hc; exact Option.some.inj hc, getL] at hp
    have hcl := c.toNat_lt
    refine TT.skip ?_
    refine KT.seq ?_
    refine TT.seq ?_
    refine TT.block ?_
    refine TT.seq ?_
    refine TT.region ?_
    refine OT.pures hT 1 rfl ?_
    refine OT.index hT rfl rfl rfl rfl hr (by omega) hc rfl (fun ad_14 hel_14 => ?_)
    refine OT.load rfl rfl (hel_14.ld_one hT rfl rfl) rfl ?_
    refine OT.pures hT 2 rfl ?_
    refine OT.nil ?_
    refine KT.seq ?_
    refine TT.seq ?_
    refine TT.seq ?_
    refine TT.region ?_
    refine OT.pures hT 3 rfl ?_
    refine OT.split 18 rfl (fun g18 => ?_) (fun g18 => ?_)
    ·
      have g18 := of_decide_eq_true (g18 : decide ((i : Int) = 9) = true)
      refine OT.pures hT 3 rfl ?_
      refine OT.nil ?_
      refine KT.seq ?_
      refine TT.cond rfl (fun c21 => ?_) (fun c21 => ?_)
      ·
        have c21 := of_decide_eq_true c21
        rw [if_pos ⟨by omega, by omega⟩] at hp
        refine TT.seq ?_
        refine TT.region ?_
        refine OT.pures hT 3 rfl ?_
        refine OT.nil ?_
        refine KT.seq ?_
        refine TT.ret ?_
        refine RT.of (rs := [.tmp 2, .tmp 3, .tmp 4]) [_, _, _] hs rfl (.tmp rfl (.tmp rfl (.tmp rfl .nil))) (by repeat (first | exact Sel.refl _ | refine Sel.empty ?_ | refine Sel.pull (by repeat (first | exact Pull.head | apply Pull.tail)) ?_ | refine Sel.drop ?_)) ?_
        dsimp only [one]
        exact ⟨by rw [← hp], rfl⟩
      ·
        have c21 := of_decide_eq_false c21
        have c21 : ¬ (i = 9 ∧ 1 < c.toNat) := by omega
        rw [if_neg c21] at hp
        refine TT.skip ?_
        refine KT.seq ?_
        refine TT.seq ?_
        refine TT.region ?_
        refine OT.pures hT 6 rfl ?_
        refine OT.shl hT rfl rfl rfl (by rw [wrap_i64 (by omega) (by omega)]; omega) rfl ?_
        have c21 : ¬ (i = 9 ∧ 1 < c.toNat) := by omega
        have hst := get_step h9 hu c21
        refine OT.pures hT 1 rfl ?_
        refine OT.reg 29 rfl (int_eq (by rw [byteAnd, get_shl h9 (by omega), get_or h9 hu (by omega)])) ?_
        refine OT.pures hT 1 rfl ?_
        refine OT.nil ?_
        refine KT.seq ?_
        refine TT.seq ?_
        refine TT.seq ?_
        refine TT.region ?_
        refine OT.pures hT 2 rfl ?_
        refine OT.nil ?_
        refine KT.seq ?_
        refine TT.cond rfl (fun c31 => ?_) (fun c31 => ?_)
        ·
          have c31 := of_decide_eq_true c31
          try rw [if_neg c21] at hp
          rw [if_pos (by omega)] at hp
          refine TT.exit ?_
          refine XT.seq ?_
          refine XT.here ?_
          refine KT.seq ?_
          refine TT.region ?_
          refine OT.pures hT 2 rfl ?_
          refine OT.nil ?_
          refine KT.loop (i + 1, u + c.toNat % 128 * 128 ^ i) ?_ ?_ (SubR.cons rfl (SubR.cons rfl (SubR.cons rfl (SubR.cons' rfl (by (try dsimp only); exact (int_eq (by rw [wrap_i64 (by omega) (by omega)]; omega))) (SubR.nil _))))) (by repeat (first | exact Sel.refl _ | refine Sel.empty ?_ | refine Sel.pull (by repeat (first | exact Pull.head | apply Pull.tail)) ?_ | refine Sel.drop ?_))
          · dsimp only
            exact ⟨by omega, by omega, get_next hu, hp⟩
          · dsimp only
            omega
        ·
          have c31 := of_decide_eq_false c31
          try rw [if_neg c21] at hp
          rw [if_neg (by omega)] at hp
          refine TT.skip ?_
          refine KT.seq ?_
          refine TT.seq ?_
          refine TT.seq ?_
          refine TT.region ?_
          refine OT.pures hT 3 rfl ?_
          refine OT.split 34 rfl (fun g34 => ?_) (fun g34 => ?_)
          ·
            have g34 := of_decide_eq_true g34
            refine OT.pures hT 3 rfl ?_
            refine OT.nil ?_
            refine KT.seq ?_
            refine TT.cond rfl (fun c37 => ?_) (fun c37 => ?_)
            ·
              have c37 := of_decide_eq_true (c37 : decide ((c.toNat : Int) = 0) = true)
              rw [if_pos ⟨by omega, by omega⟩] at hp
              refine TT.seq ?_
              refine TT.region ?_
              refine OT.pures hT 3 rfl ?_
              refine OT.nil ?_
              refine KT.seq ?_
              refine TT.ret ?_
              refine RT.of (rs := [.tmp 2, .tmp 3, .tmp 4]) [_, _, _] hs rfl (.tmp rfl (.tmp rfl (.tmp rfl .nil))) (by repeat (first | exact Sel.refl _ | refine Sel.empty ?_ | refine Sel.pull (by repeat (first | exact Pull.head | apply Pull.tail)) ?_ | refine Sel.drop ?_)) ?_
              dsimp only [one]
              exact ⟨by rw [← hp], rfl⟩
            ·
              have c37 := of_decide_eq_false (c37 : decide ((c.toNat : Int) = 0) = false)
              rw [if_neg (by omega)] at hp
              refine TT.skip ?_
              refine KT.seq ?_
              refine TT.seq ?_
              refine TT.region ?_
              refine OT.pures hT 2 rfl ?_
              refine OT.pures hT 1 rfl ?_
              refine OT.reg 40 rfl (int_eq (unzig_even hst)) ?_
              try rw [if_neg (by omega)] at hp
              refine OT.pures hT 1 rfl ?_
              refine OT.nil ?_
              refine KT.seq ?_
              refine TT.cut (ι := Unit) (fun j => True) (fun j => [(8, .int .i64 (unzig (u + c.toNat % 128 * 128 ^ i))), (6, .int .i64 (i : Nat))]) (fun j => hs) ?_ ?_
              ·
                refine TT.seq ?_
                refine TT.region ?_
                refine OT.pures hT 1 rfl ?_
                refine OT.pures hT 1 rfl ?_
                refine OT.reg 42 rfl (int_eq (and64_1 hst)) ?_
                refine OT.pures hT 1 rfl ?_
                refine OT.nil ?_
                refine KT.seq ?_
                refine TT.cond rfl (fun c43 => ?_) (fun c43 => ?_)
                ·
                  have c43 := of_decide_eq_true (c43 : decide (((u + c.toNat % 128 * 128 ^ i) % 2 : Nat) = (1 : Int)) = true)
                  refine TT.region ?_
                  refine OT.pures hT 3 rfl ?_
                  refine OT.nil ?_
                  refine KT.cut (()) ?_ (SubR.cons' rfl (by (try dsimp only); exact (int_eq (by rw [not64i (by omega) (by omega)]; unfold unzig; rw [if_pos (by omega)]))) (SubR.cons rfl (SubR.nil _))) (by repeat (first | exact Sel.refl _ | refine Sel.empty ?_ | refine Sel.pull (by repeat (first | exact Pull.head | apply Pull.tail)) ?_ | refine Sel.drop ?_))
                  · trivial
                ·
                  have c43 := of_decide_eq_false (c43 : decide (((u + c.toNat % 128 * 128 ^ i) % 2 : Nat) = (1 : Int)) = false)
                  refine TT.skip ?_
                  refine KT.cut (()) ?_ (SubR.cons' rfl (by (try dsimp only); exact (int_eq (by unfold unzig; rw [if_neg (by omega)]))) (SubR.cons rfl (SubR.nil _))) (by repeat (first | exact Sel.refl _ | refine Sel.empty ?_ | refine Sel.pull (by repeat (first | exact Pull.head | apply Pull.tail)) ?_ | refine Sel.drop ?_))
                  · trivial
              ·
                rintro _ -
                show TT _ _ _ [(8, .int .i64 (unzig (u + c.toNat % 128 * 128 ^ i))), (6, .int .i64 (i : Nat))] (hs)
                refine TT.seq ?_
                refine TT.region ?_
                refine OT.pures hT 6 rfl ?_
                refine OT.nil ?_
                refine KT.seq ?_
                refine TT.ret ?_
                refine RT.of (rs := [.tmp 2, .tmp 3, .tmp 4]) [_, _, _] hs rfl (.tmp rfl (.tmp rfl (.tmp rfl .nil))) (by repeat (first | exact Sel.refl _ | refine Sel.empty ?_ | refine Sel.pull (by repeat (first | exact Pull.head | apply Pull.tail)) ?_ | refine Sel.drop ?_)) ?_
                dsimp only [one]
                refine ⟨?_, rfl⟩
                rw [← hp, wrap_i64 (n := (i : Int) + 1) (by omega) (by omega)]
                rfl
          ·
            have g34 := of_decide_eq_false g34
            refine OT.pures hT 3 rfl ?_
            refine OT.nil ?_
            refine KT.seq ?_
            refine TT.cond_false rfl ?_
            refine TT.skip ?_
            refine KT.seq ?_
            refine TT.seq ?_
            refine TT.region ?_
            refine OT.pures hT 2 rfl ?_
            refine OT.pures hT 1 rfl ?_
            refine OT.reg 40 rfl (int_eq (unzig_even hst)) ?_
            try rw [if_neg (by omega)] at hp
            refine OT.pures hT 1 rfl ?_
            refine OT.nil ?_
            refine KT.seq ?_
            refine TT.cut (ι := Unit) (fun j => True) (fun j => [(8, .int .i64 (unzig (u + c.toNat % 128 * 128 ^ i))), (6, .int .i64 (i : Nat))]) (fun j => hs) ?_ ?_
            ·
              refine TT.seq ?_
              refine TT.region ?_
              refine OT.pures hT 1 rfl ?_
              refine OT.pures hT 1 rfl ?_
              refine OT.reg 42 rfl (int_eq (and64_1 hst)) ?_
              refine OT.pures hT 1 rfl ?_
              refine OT.nil ?_
              refine KT.seq ?_
              refine TT.cond rfl (fun c43 => ?_) (fun c43 => ?_)
              ·
                have c43 := of_decide_eq_true (c43 : decide (((u + c.toNat % 128 * 128 ^ i) % 2 : Nat) = (1 : Int)) = true)
                refine TT.region ?_
                refine OT.pures hT 3 rfl ?_
                refine OT.nil ?_
                refine KT.cut (()) ?_ (SubR.cons' rfl (by (try dsimp only); exact (int_eq (by rw [not64i (by omega) (by omega)]; unfold unzig; rw [if_pos (by omega)]))) (SubR.cons rfl (SubR.nil _))) (by repeat (first | exact Sel.refl _ | refine Sel.empty ?_ | refine Sel.pull (by repeat (first | exact Pull.head | apply Pull.tail)) ?_ | refine Sel.drop ?_))
                · trivial
              ·
                have c43 := of_decide_eq_false (c43 : decide (((u + c.toNat % 128 * 128 ^ i) % 2 : Nat) = (1 : Int)) = false)
                refine TT.skip ?_
                refine KT.cut (()) ?_ (SubR.cons' rfl (by (try dsimp only); exact (int_eq (by unfold unzig; rw [if_neg (by omega)]))) (SubR.cons rfl (SubR.nil _))) (by repeat (first | exact Sel.refl _ | refine Sel.empty ?_ | refine Sel.pull (by repeat (first | exact Pull.head | apply Pull.tail)) ?_ | refine Sel.drop ?_))
                · trivial
            ·
              rintro _ -
              show TT _ _ _ [(8, .int .i64 (unzig (u + c.toNat % 128 * 128 ^ i))), (6, .int .i64 (i : Nat))] (hs)
              refine TT.seq ?_
              refine TT.region ?_
              refine OT.pures hT 6 rfl ?_
              refine OT.nil ?_
              refine KT.seq ?_
              refine TT.ret ?_
              refine RT.of (rs := [.tmp 2, .tmp 3, .tmp 4]) [_, _, _] hs rfl (.tmp rfl (.tmp rfl (.tmp rfl .nil))) (by repeat (first | exact Sel.refl _ | refine Sel.empty ?_ | refine Sel.pull (by repeat (first | exact Pull.head | apply Pull.tail)) ?_ | refine Sel.drop ?_)) ?_
              dsimp only [one]
              refine ⟨?_, rfl⟩
              rw [← hp, wrap_i64 (n := (i : Int) + 1) (by omega) (by omega)]
              rfl
    ·
      have g18 := of_decide_eq_false (g18 : decide ((i : Int) = 9) = false)
      refine OT.pures hT 3 rfl ?_
      refine OT.nil ?_
      refine KT.seq ?_
      refine TT.cond_false rfl ?_
      refine TT.skip ?_
      refine KT.seq ?_
      refine TT.seq ?_
      refine TT.region ?_
      refine OT.pures hT 6 rfl ?_
      refine OT.shl hT rfl rfl rfl (by rw [wrap_i64 (by omega) (by omega)]; omega) rfl ?_
      have c21 : ¬ (i = 9 ∧ 1 < c.toNat) := by omega
      have hst := get_step h9 hu c21
      refine OT.pures hT 1 rfl ?_
      refine OT.reg 29 rfl (int_eq (by rw [byteAnd, get_shl h9 (by omega), get_or h9 hu (by omega)])) ?_
      refine OT.pures hT 1 rfl ?_
      refine OT.nil ?_
      refine KT.seq ?_
      refine TT.seq ?_
      refine TT.seq ?_
      refine TT.region ?_
      refine OT.pures hT 2 rfl ?_
      refine OT.nil ?_
      refine KT.seq ?_
      refine TT.cond rfl (fun c31 => ?_) (fun c31 => ?_)
      ·
        have c31 := of_decide_eq_true c31
        try rw [if_neg c21] at hp
        rw [if_pos (by omega)] at hp
        refine TT.exit ?_
        refine XT.seq ?_
        refine XT.here ?_
        refine KT.seq ?_
        refine TT.region ?_
        refine OT.pures hT 2 rfl ?_
        refine OT.nil ?_
        refine KT.loop (i + 1, u + c.toNat % 128 * 128 ^ i) ?_ ?_ (SubR.cons rfl (SubR.cons rfl (SubR.cons rfl (SubR.cons' rfl (by (try dsimp only); exact (int_eq (by rw [wrap_i64 (by omega) (by omega)]; omega))) (SubR.nil _))))) (by repeat (first | exact Sel.refl _ | refine Sel.empty ?_ | refine Sel.pull (by repeat (first | exact Pull.head | apply Pull.tail)) ?_ | refine Sel.drop ?_))
        · dsimp only
          exact ⟨by omega, by omega, get_next hu, hp⟩
        · dsimp only
          omega
      ·
        have c31 := of_decide_eq_false c31
        try rw [if_neg c21] at hp
        rw [if_neg (by omega)] at hp
        refine TT.skip ?_
        refine KT.seq ?_
        refine TT.seq ?_
        refine TT.seq ?_
        refine TT.region ?_
        refine OT.pures hT 3 rfl ?_
        refine OT.split 34 rfl (fun g34 => ?_) (fun g34 => ?_)
        ·
          have g34 := of_decide_eq_true g34
          refine OT.pures hT 3 rfl ?_
          refine OT.nil ?_
          refine KT.seq ?_
          refine TT.cond rfl (fun c37 => ?_) (fun c37 => ?_)
          ·
            have c37 := of_decide_eq_true (c37 : decide ((c.toNat : Int) = 0) = true)
            rw [if_pos ⟨by omega, by omega⟩] at hp
            refine TT.seq ?_
            refine TT.region ?_
            refine OT.pures hT 3 rfl ?_
            refine OT.nil ?_
            refine KT.seq ?_
            refine TT.ret ?_
            refine RT.of (rs := [.tmp 2, .tmp 3, .tmp 4]) [_, _, _] hs rfl (.tmp rfl (.tmp rfl (.tmp rfl .nil))) (by repeat (first | exact Sel.refl _ | refine Sel.empty ?_ | refine Sel.pull (by repeat (first | exact Pull.head | apply Pull.tail)) ?_ | refine Sel.drop ?_)) ?_
            dsimp only [one]
            exact ⟨by rw [← hp], rfl⟩
          ·
            have c37 := of_decide_eq_false (c37 : decide ((c.toNat : Int) = 0) = false)
            rw [if_neg (by omega)] at hp
            refine TT.skip ?_
            refine KT.seq ?_
            refine TT.seq ?_
            refine TT.region ?_
            refine OT.pures hT 2 rfl ?_
            refine OT.pures hT 1 rfl ?_
            refine OT.reg 40 rfl (int_eq (unzig_even hst)) ?_
            try rw [if_neg (by omega)] at hp
            refine OT.pures hT 1 rfl ?_
            refine OT.nil ?_
            refine KT.seq ?_
            refine TT.cut (ι := Unit) (fun j => True) (fun j => [(8, .int .i64 (unzig (u + c.toNat % 128 * 128 ^ i))), (6, .int .i64 (i : Nat))]) (fun j => hs) ?_ ?_
            ·
              refine TT.seq ?_
              refine TT.region ?_
              refine OT.pures hT 1 rfl ?_
              refine OT.pures hT 1 rfl ?_
              refine OT.reg 42 rfl (int_eq (and64_1 hst)) ?_
              refine OT.pures hT 1 rfl ?_
              refine OT.nil ?_
              refine KT.seq ?_
              refine TT.cond rfl (fun c43 => ?_) (fun c43 => ?_)
              ·
                have c43 := of_decide_eq_true (c43 : decide (((u + c.toNat % 128 * 128 ^ i) % 2 : Nat) = (1 : Int)) = true)
                refine TT.region ?_
                refine OT.pures hT 3 rfl ?_
                refine OT.nil ?_
                refine KT.cut (()) ?_ (SubR.cons' rfl (by (try dsimp only); exact (int_eq (by rw [not64i (by omega) (by omega)]; unfold unzig; rw [if_pos (by omega)]))) (SubR.cons rfl (SubR.nil _))) (by repeat (first | exact Sel.refl _ | refine Sel.empty ?_ | refine Sel.pull (by repeat (first | exact Pull.head | apply Pull.tail)) ?_ | refine Sel.drop ?_))
                · trivial
              ·
                have c43 := of_decide_eq_false (c43 : decide (((u + c.toNat % 128 * 128 ^ i) % 2 : Nat) = (1 : Int)) = false)
                refine TT.skip ?_
                refine KT.cut (()) ?_ (SubR.cons' rfl (by (try dsimp only); exact (int_eq (by unfold unzig; rw [if_neg (by omega)]))) (SubR.cons rfl (SubR.nil _))) (by repeat (first | exact Sel.refl _ | refine Sel.empty ?_ | refine Sel.pull (by repeat (first | exact Pull.head | apply Pull.tail)) ?_ | refine Sel.drop ?_))
                · trivial
            ·
              rintro _ -
              show TT _ _ _ [(8, .int .i64 (unzig (u + c.toNat % 128 * 128 ^ i))), (6, .int .i64 (i : Nat))] (hs)
              refine TT.seq ?_
              refine TT.region ?_
              refine OT.pures hT 6 rfl ?_
              refine OT.nil ?_
              refine KT.seq ?_
              refine TT.ret ?_
              refine RT.of (rs := [.tmp 2, .tmp 3, .tmp 4]) [_, _, _] hs rfl (.tmp rfl (.tmp rfl (.tmp rfl .nil))) (by repeat (first | exact Sel.refl _ | refine Sel.empty ?_ | refine Sel.pull (by repeat (first | exact Pull.head | apply Pull.tail)) ?_ | refine Sel.drop ?_)) ?_
              dsimp only [one]
              refine ⟨?_, rfl⟩
              rw [← hp, wrap_i64 (n := (i : Int) + 1) (by omega) (by omega)]
              rfl
        ·
          have g34 := of_decide_eq_false g34
          refine OT.pures hT 3 rfl ?_
          refine OT.nil ?_
          refine KT.seq ?_
          refine TT.cond_false rfl ?_
          refine TT.skip ?_
          refine KT.seq ?_
          refine TT.seq ?_
          refine TT.region ?_
          refine OT.pures hT 2 rfl ?_
          refine OT.pures hT 1 rfl ?_
          refine OT.reg 40 rfl (int_eq (unzig_even hst)) ?_
          try rw [if_neg (by omega)] at hp
          refine OT.pures hT 1 rfl ?_
          refine OT.nil ?_
          refine KT.seq ?_
          refine TT.cut (ι := Unit) (fun j => True) (fun j => [(8, .int .i64 (unzig (u + c.toNat % 128 * 128 ^ i))), (6, .int .i64 (i : Nat))]) (fun j => hs) ?_ ?_
          ·
            refine TT.seq ?_
            refine TT.region ?_
            refine OT.pures hT 1 rfl ?_
            refine OT.pures hT 1 rfl ?_
            refine OT.reg 42 rfl (int_eq (and64_1 hst)) ?_
            refine OT.pures hT 1 rfl ?_
            refine OT.nil ?_
            refine KT.seq ?_
            refine TT.cond rfl (fun c43 => ?_) (fun c43 => ?_)
            ·
              have c43 := of_decide_eq_true (c43 : decide (((u + c.toNat % 128 * 128 ^ i) % 2 : Nat) = (1 : Int)) = true)
              refine TT.region ?_
              refine OT.pures hT 3 rfl ?_
              refine OT.nil ?_
              refine KT.cut (()) ?_ (SubR.cons' rfl (by (try dsimp only); exact (int_eq (by rw [not64i (by omega) (by omega)]; unfold unzig; rw [if_pos (by omega)]))) (SubR.cons rfl (SubR.nil _))) (by repeat (first | exact Sel.refl _ | refine Sel.empty ?_ | refine Sel.pull (by repeat (first | exact Pull.head | apply Pull.tail)) ?_ | refine Sel.drop ?_))
              · trivial
            ·
              have c43 := of_decide_eq_false (c43 : decide (((u + c.toNat % 128 * 128 ^ i) % 2 : Nat) = (1 : Int)) = false)
              refine TT.skip ?_
              refine KT.cut (()) ?_ (SubR.cons' rfl (by (try dsimp only); exact (int_eq (by unfold unzig; rw [if_neg (by omega)]))) (SubR.cons rfl (SubR.nil _))) (by repeat (first | exact Sel.refl _ | refine Sel.empty ?_ | refine Sel.pull (by repeat (first | exact Pull.head | apply Pull.tail)) ?_ | refine Sel.drop ?_))
              · trivial
          ·
            rintro _ -
            show TT _ _ _ [(8, .int .i64 (unzig (u + c.toNat % 128 * 128 ^ i))), (6, .int .i64 (i : Nat))] (hs)
            refine TT.seq ?_
            refine TT.region ?_
            refine OT.pures hT 6 rfl ?_
            refine OT.nil ?_
            refine KT.seq ?_
            refine TT.ret ?_
            refine RT.of (rs := [.tmp 2, .tmp 3, .tmp 4]) [_, _, _] hs rfl (.tmp rfl (.tmp rfl (.tmp rfl .nil))) (by repeat (first | exact Sel.refl _ | refine Sel.empty ?_ | refine Sel.pull (by repeat (first | exact Pull.head | apply Pull.tail)) ?_ | refine Sel.drop ?_)) ?_
            dsimp only [one]
            refine ⟨?_, rfl⟩
            rw [← hp, wrap_i64 (n := (i : Int) + 1) (by omega) (by omega)]
            rfl
  ·
    have c12 := of_decide_eq_false c12
    rw [List.drop_eq_nil_of_le (by omega), getL] at hp
    refine TT.exit ?_
    refine XT.seq ?_
    refine XT.loop ?_
    refine XT.here ?_
    refine KT.seq ?_
    refine TT.seq ?_
    refine TT.region ?_
    refine OT.pures hT 3 rfl ?_
    refine OT.nil ?_
    refine KT.seq ?_
    refine TT.ret ?_
    refine RT.of (rs := [.tmp 2, .tmp 3, .tmp 4]) [_, _, _] hs rfl (.tmp rfl (.tmp rfl (.tmp rfl .nil))) (by repeat (first | exact Sel.refl _ | refine Sel.empty ?_ | refine Sel.pull (by repeat (first | exact Pull.head | apply Pull.tail)) ?_ | refine Sel.drop ?_)) ?_
    dsimp only [one]
    exact ⟨by rw [← hp], rfl⟩

set_option maxHeartbeats 1000000 in
set_option maxRecDepth 100000 in
theorem num_GetText {v : Value} {xs : List UInt8} {hs : List Chunk} (hr : Row Go.Sx.encB 1 hs v xs) (hl : xs.length ≤ 1073741824) : Fun Try.prog 47 [v] hs (fun v' hs' => v' = .tuple ⟨[.string (getText xs).1, .int .i64 (getText xs).2.1, .int .i64 (getText xs).2.2]⟩ ∧ hs = hs') := by
  refine Fun.enter 42 Try.func47 rfl Try.ntmps47 rfl ?_
  obtain ⟨a0, c0, hv⟩ := hr.len
  subst hv
  have hk := @get_k xs
  unfold getText
  generalize hg : get xs = p at *
  obtain ⟨n, kk, e⟩ := p
  dsimp only at *
  refine TT.seq ?_
  refine TT.region ?_
  refine OT.pures hT 3 rfl ?_
  refine OT.nil ?_
  refine KT.seq ?_
  refine TT.seq ?_
  refine TT.region ?_
  refine OT.pures hT 1 rfl ?_
  refine OT.call Try.call37 rfl rfl rfl rfl (num_Get hr hl) ?_
  rintro v_10 hs_10 ⟨rfl, rfl⟩
  rw [hg]
  dsimp only
  refine OT.pures hT 7 rfl ?_
  refine OT.nil ?_
  refine KT.seq ?_
  refine TT.seq ?_
  refine TT.block ?_
  refine TT.seq ?_
  refine TT.region ?_
  refine OT.pures hT 3 rfl ?_
  refine OT.nil ?_
  refine KT.seq ?_
  refine TT.cond rfl (fun c14 => ?_) (fun c14 => ?_)
  ·
    have c14 : ¬ e = 0 := by simpa using c14
    refine TT.seq ?_
    refine TT.region ?_
    refine OT.pures hT 4 rfl ?_
    refine OT.nil ?_
    refine KT.seq ?_
    refine TT.ret ?_
    refine RT.of (rs := [.tmp 2, .tmp 3, .tmp 4]) [_, _, _] hs rfl (.tmp rfl (.tmp rfl (.tmp rfl .nil))) (by repeat (first | exact Sel.refl _ | refine Sel.empty ?_ | refine Sel.pull (by repeat (first | exact Pull.head | apply Pull.tail)) ?_ | refine Sel.drop ?_)) ?_
    dsimp only [one]
    refine ⟨?_, rfl⟩
    rw [if_pos c14]
  ·
    have c14 : e = 0 := by simpa using c14
    have hk := hk c14
    refine TT.seq ?_
    refine TT.region ?_
    refine OT.pures hT 3 rfl ?_
    refine OT.split 21 rfl (fun g21 => ?_) (fun g21 => ?_)
    ·
      have g21 := of_decide_eq_true g21
      refine OT.pures hT 4 rfl ?_
      refine OT.nil ?_
      refine KT.seq ?_
      refine TT.cond_true rfl ?_
      refine TT.seq ?_
      refine TT.region ?_
      refine OT.pures hT 3 rfl ?_
      refine OT.nil ?_
      refine KT.seq ?_
      refine TT.ret ?_
      refine RT.of (rs := [.tmp 2, .tmp 3, .tmp 4]) [_, _, _] hs rfl (.tmp rfl (.tmp rfl (.tmp rfl .nil))) (by repeat (first | exact Sel.refl _ | refine Sel.empty ?_ | refine Sel.pull (by repeat (first | exact Pull.head | apply Pull.tail)) ?_ | refine Sel.drop ?_)) ?_
      dsimp only [one]
      refine ⟨?_, rfl⟩
      rw [if_neg (by omega), if_pos (by omega)]
    ·
      have g21 := of_decide_eq_false g21
      refine OT.pures hT 4 rfl ?_
      refine OT.nil ?_
      refine KT.seq ?_
      refine TT.cond rfl (fun c18 => ?_) (fun c18 => ?_)
      ·
        have c18 := of_decide_eq_true c18
        refine TT.seq ?_
        refine TT.region ?_
        refine OT.pures hT 3 rfl ?_
        refine OT.nil ?_
        refine KT.seq ?_
        refine TT.ret ?_
        refine RT.of (rs := [.tmp 2, .tmp 3, .tmp 4]) [_, _, _] hs rfl (.tmp rfl (.tmp rfl (.tmp rfl .nil))) (by repeat (first | exact Sel.refl _ | refine Sel.empty ?_ | refine Sel.pull (by repeat (first | exact Pull.head | apply Pull.tail)) ?_ | refine Sel.drop ?_)) ?_
        dsimp only [one]
        refine ⟨?_, rfl⟩
        rw [if_neg (by omega), if_pos (by omega)]
      ·
        have c18 := of_decide_eq_false c18
        refine TT.seq ?_
        refine TT.region ?_
        refine OT.pures hT 7 rfl ?_
        refine OT.nil ?_
        refine KT.seq ?_
        refine TT.cond rfl (fun c25 => ?_) (fun c25 => ?_)
        ·
          have c25 := of_decide_eq_true c25
          rw [wrap_i64 (by omega) (by omega)] at c25
          refine TT.seq ?_
          refine TT.region ?_
          refine OT.pures hT 3 rfl ?_
          refine OT.nil ?_
          refine KT.seq ?_
          refine TT.ret ?_
          refine RT.of (rs := [.tmp 2, .tmp 3, .tmp 4]) [_, _, _] hs rfl (.tmp rfl (.tmp rfl (.tmp rfl .nil))) (by repeat (first | exact Sel.refl _ | refine Sel.empty ?_ | refine Sel.pull (by repeat (first | exact Pull.head | apply Pull.tail)) ?_ | refine Sel.drop ?_)) ?_
          dsimp only [one]
          refine ⟨?_, rfl⟩
          rw [if_neg (by omega), if_neg (by omega), if_pos (by omega)]
        ·
          have c25 := of_decide_eq_false c25
          rw [wrap_i64 (by omega) (by omega)] at c25
          refine TT.skip ?_
          refine KT.blk ?_
          refine KT.seq ?_
          refine TT.seq ?_
          refine TT.region ?_
          refine OT.pures hT 5 rfl ?_
          refine OT.slice kk.toNat (kk + n).toNat hT rfl rfl rfl rfl rfl hr (.inr ⟨.i64, by rw [Int.toNat_of_nonneg (by omega)]⟩) (.inr ⟨.i64, by rw [Int.toNat_of_nonneg (by omega), wrap_i64 (by omega) (by omega)]⟩) (by omega) (by omega) rfl (fun v_37 hv_37 => ?_)
          refine OT.conv_bs (fun _ => rfl) hT rfl rfl rfl rfl rfl hv_37 rfl ?_
          refine OT.pures hT 6 rfl ?_
          refine OT.nil ?_
          refine KT.seq ?_
          refine TT.ret ?_
          refine RT.of (rs := [.tmp 2, .tmp 3, .tmp 4]) [_, _, _] hs rfl (.tmp rfl (.tmp rfl (.tmp rfl .nil))) (by repeat (first | exact Sel.refl _ | refine Sel.empty ?_ | refine Sel.pull (by repeat (first | exact Pull.head | apply Pull.tail)) ?_ | refine Sel.drop ?_)) ?_
          dsimp only [one]
          refine ⟨?_, rfl⟩
          rw [if_neg (by omega), if_neg (by omega), if_neg (by omega), wrap_i64 (by omega) (by omega)]

set_option maxHeartbeats 1000000 in
set_option maxRecDepth 100000 in
theorem law1_Cut {s : ByteArray} {n : Nat} {hs : List Chunk} : Fun Try.prog 11 [.string s, .int .i64 (n : Int)] hs (fun v' hs' => v' = .string (cutS s n) ∧ hs = hs') := by
  refine Fun.enter 13 Try.func11 rfl Try.ntmps11 rfl ?_
  refine TT.seq ?_
  refine TT.region ?_
  refine OT.pures hT 1 rfl ?_
  refine OT.nil ?_
  refine KT.seq ?_
  refine TT.seq ?_
  refine TT.seq ?_
  refine TT.region ?_
  refine OT.pures hT 4 rfl ?_
  refine OT.nil ?_
  refine KT.seq ?_
  refine TT.cond rfl (fun c8 => ?_) (fun c8 => ?_)
  ·
    have c8 := of_decide_eq_true c8
    refine TT.seq ?_
    refine TT.region ?_
    refine OT.pures hT 2 rfl ?_
    refine OT.slice_str 0 n hT rfl rfl rfl rfl rfl (.inl ⟨rfl, rfl⟩) (.inr ⟨_, rfl⟩) (by omega) (by omega) rfl ?_
    refine OT.pures hT 1 rfl ?_
    refine OT.nil ?_
    refine KT.seq ?_
    refine TT.ret ?_
    refine RT.of (rs := [.tmp 4]) [_] hs rfl (.tmp rfl .nil) (by repeat (first | exact Sel.refl _ | refine Sel.empty ?_ | refine Sel.pull (by repeat (first | exact Pull.head | apply Pull.tail)) ?_ | refine Sel.drop ?_)) ?_
    dsimp only [one]
    refine ⟨?_, rfl⟩
    unfold cutS
    first | rw [if_pos (by omega)] | rw [if_neg (by omega)]
  ·
    have c8 := of_decide_eq_false c8
    refine TT.skip ?_
    refine KT.seq ?_
    refine TT.seq ?_
    refine TT.region ?_
    refine OT.pures hT 2 rfl ?_
    refine OT.nil ?_
    refine KT.seq ?_
    refine TT.ret ?_
    refine RT.of (rs := [.tmp 4]) [_] hs rfl (.tmp rfl .nil) (by repeat (first | exact Sel.refl _ | refine Sel.empty ?_ | refine Sel.pull (by repeat (first | exact Pull.head | apply Pull.tail)) ?_ | refine Sel.drop ?_)) ?_
    dsimp only [one]
    refine ⟨?_, rfl⟩
    unfold cutS
    first | rw [if_pos (by omega)] | rw [if_neg (by omega)]

set_option maxHeartbeats 1000000 in
set_option maxRecDepth 100000 in
theorem cat_Name {s : ByteArray} {hs : List Chunk} : Fun Try.prog 17 [.string s] hs (fun v' hs' => v' = .bool (nameB s) ∧ hs = hs') := by
  refine Fun.enter 10 Try.func17 rfl Try.ntmps17 rfl ?_
  have hz := size_zero_iff s
  refine TT.seq ?_
  refine TT.region ?_
  refine OT.pures hT 1 rfl ?_
  refine OT.nil ?_
  refine KT.seq ?_
  refine TT.seq ?_
  refine TT.region ?_
  refine OT.pures hT 3 rfl ?_
  refine OT.split 5 rfl (fun g5 => ?_) (fun g5 => ?_)
  ·
    have g5 : ¬ s = ⟨#[]⟩ := by simpa using g5
    have g5 : ¬ s.size = 0 := fun h => g5 (hz.1 h)
    refine OT.pures hT 5 rfl ?_
    refine OT.nil ?_
    refine KT.seq ?_
    refine TT.ret ?_
    refine RT.of (rs := [.tmp 2]) [_] hs rfl (.tmp rfl .nil) (by repeat (first | exact Sel.refl _ | refine Sel.empty ?_ | refine Sel.pull (by repeat (first | exact Pull.head | apply Pull.tail)) ?_ | refine Sel.drop ?_)) ?_
    dsimp only [one]
    refine ⟨?_, rfl⟩
    unfold nameB
    refine congrArg Value.bool ?_
    first | (refine (decide_eq_false ?_).symm; omega) | (refine decide_eq_decide.2 ?_; omega)
  ·
    have g5 : s = ⟨#[]⟩ := by simpa using g5
    have g5 : s.size = 0 := hz.2 g5
    refine OT.pures hT 5 rfl ?_
    refine OT.nil ?_
    refine KT.seq ?_
    refine TT.ret ?_
    refine RT.of (rs := [.tmp 2]) [_] hs rfl (.tmp rfl .nil) (by repeat (first | exact Sel.refl _ | refine Sel.empty ?_ | refine Sel.pull (by repeat (first | exact Pull.head | apply Pull.tail)) ?_ | refine Sel.drop ?_)) ?_
    dsimp only [one]
    refine ⟨?_, rfl⟩
    unfold nameB
    refine congrArg Value.bool ?_
    first | (refine (decide_eq_false ?_).symm; omega) | (refine decide_eq_decide.2 ?_; omega)

set_option maxHeartbeats 1000000 in
set_option maxRecDepth 100000 in
theorem ref_Name {s : ByteArray} {hs : List Chunk} : Fun Try.prog 18 [.string s] hs (fun v' hs' => v' = .bool (nameB s) ∧ hs = hs') := by
  refine Fun.enter 11 Try.func18 rfl Try.ntmps18 rfl ?_
  refine TT.seq ?_
  refine TT.region ?_
  refine OT.pures hT 1 rfl ?_
  refine OT.nil ?_
  refine KT.seq ?_
  refine TT.seq ?_
  refine TT.region ?_
  refine OT.pures hT 4 rfl ?_
  refine OT.split 6 rfl (fun g6 => ?_) (fun g6 => ?_)
  ·
    have g6 := of_decide_eq_true g6
    refine OT.pures hT 5 rfl ?_
    refine OT.nil ?_
    refine KT.seq ?_
    refine TT.ret ?_
    refine RT.of (rs := [.tmp 2]) [_] hs rfl (.tmp rfl .nil) (by repeat (first | exact Sel.refl _ | refine Sel.empty ?_ | refine Sel.pull (by repeat (first | exact Pull.head | apply Pull.tail)) ?_ | refine Sel.drop ?_)) ?_
    dsimp only [one]
    refine ⟨?_, rfl⟩
    unfold nameB
    refine congrArg Value.bool ?_
    first | (refine (decide_eq_false ?_).symm; omega) | (refine decide_eq_decide.2 ?_; omega)
  ·
    have g6 := of_decide_eq_false g6
    refine OT.pures hT 5 rfl ?_
    refine OT.nil ?_
    refine KT.seq ?_
    refine TT.ret ?_
    refine RT.of (rs := [.tmp 2]) [_] hs rfl (.tmp rfl .nil) (by repeat (first | exact Sel.refl _ | refine Sel.empty ?_ | refine Sel.pull (by repeat (first | exact Pull.head | apply Pull.tail)) ?_ | refine Sel.drop ?_)) ?_
    dsimp only [one]
    refine ⟨?_, rfl⟩
    unfold nameB
    refine congrArg Value.bool ?_
    first | (refine (decide_eq_false ?_).symm; omega) | (refine decide_eq_decide.2 ?_; omega)

set_option maxHeartbeats 1000000 in
set_option maxRecDepth 100000 in
theorem law1_Short {v : Value} {xs : List UInt8} {n : Nat} {hs : List Chunk} (hr : Row Go.Sx.encB 1 hs v xs) : Fun Try.prog 29 [v, .int .i64 (n : Int)] hs (fun v' hs' => Row Go.Sx.encB 1 hs v' (xs.take n) ∧ hs = hs') := by
  refine Fun.enter 13 Try.func29 rfl Try.ntmps29 rfl ?_
  obtain ⟨a0, c0, hv⟩ := hr.len
  subst hv
  refine TT.seq ?_
  refine TT.region ?_
  refine OT.pures hT 1 rfl ?_
  refine OT.nil ?_
  refine KT.seq ?_
  refine TT.seq ?_
  refine TT.seq ?_
  refine TT.region ?_
  refine OT.pures hT 4 rfl ?_
  refine OT.nil ?_
  refine KT.seq ?_
  refine TT.cond rfl (fun c8 => ?_) (fun c8 => ?_)
  ·
    have c8 := of_decide_eq_true c8
    refine TT.seq ?_
    refine TT.region ?_
    refine OT.pures hT 2 rfl ?_
    refine OT.slice 0 n hT rfl rfl rfl rfl rfl hr (.inl ⟨rfl, rfl⟩) (.inr ⟨_, rfl⟩) (by omega) (by omega) rfl (fun v_11 hv_11 => ?_)
    refine OT.pures hT 1 rfl ?_
    refine OT.nil ?_
    refine KT.seq ?_
    refine TT.ret ?_
    refine RT.of (rs := [.tmp 4]) [_] hs rfl (.tmp rfl .nil) (by repeat (first | exact Sel.refl _ | refine Sel.empty ?_ | refine Sel.pull (by repeat (first | exact Pull.head | apply Pull.tail)) ?_ | refine Sel.drop ?_)) ?_
    dsimp only [one]
    exact ⟨by simpa using hv_11, rfl⟩
  ·
    have c8 := of_decide_eq_false c8
    refine TT.skip ?_
    refine KT.seq ?_
    refine TT.seq ?_
    refine TT.region ?_
    refine OT.pures hT 2 rfl ?_
    refine OT.nil ?_
    refine KT.seq ?_
    refine TT.ret ?_
    refine RT.of (rs := [.tmp 4]) [_] hs rfl (.tmp rfl .nil) (by repeat (first | exact Sel.refl _ | refine Sel.empty ?_ | refine Sel.pull (by repeat (first | exact Pull.head | apply Pull.tail)) ?_ | refine Sel.drop ?_)) ?_
    dsimp only [one]
    exact ⟨by rw [List.take_of_length_le (by omega)]; exact hr, rfl⟩

end Go.Proofs.Ytpijialhhdpobaa.Sx
