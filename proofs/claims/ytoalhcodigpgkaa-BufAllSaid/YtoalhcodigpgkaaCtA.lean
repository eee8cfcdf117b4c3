/- Numbers and texts as bytes: what the program's num does, and the document's. Printed by a program of ours off the loaded program and our notes; Lean checks it. -/
import Derived.Test.YtoalhcodigpgkaaPlA
import Derived.Test.YtoalhcodigpgkaaSxT
import Derived.Test.YtoalhcodigpgkaaSxL
namespace Go.Proofs.Ytoalhcodigpgkaa.Sx
open Go Go.Sx Go.Pl
variable [Outer]

set_option maxHeartbeats 1000000 in
set_option maxRecDepth 100000 in
theorem num_Put {v : Value} {xs : List UInt8} {H : Chunk} {r : List Chunk} {n : Int} (ho : Own Go.Sx.encB 1 5 v xs H) (h1 : -9223372036854775808 ≤ n) (h2 : n ≤ 9223372036854775807) (hl : xs.length ≤ 1073741824) : Fun Try.prog 51 [v, .int .i64 n] (H :: r) (fun v' hs' => ∃ H', hs' = H' :: r ∧ Own Go.Sx.encB 1 5 v' (xs ++ put n) H') := by
  refine Fun.enter 28 Try.func51 rfl Try.ntmps51 rfl ?_
  refine TT.seq (.region (.pures hT 1 rfl (.nil (.seq (.seq (.region (.pures hT 4 rfl (.nil (.seq (.cut (ι := Unit) (fun j => True) (fun j => [(0, v), (5, .int .u64 (zig n : Nat))]) (fun j => H :: r) ?_ ?_))))))))))
  ·
    refine TT.seq (.region (.pures hT 2 rfl (.nil (.seq (.cond rfl (fun c10 => ?_) (fun c10 => ?_))))))
    ·
      have c10 := of_decide_eq_true c10
      refine TT.region (.pures hT 3 rfl (.nil (.cut (()) ?_ (SubR.cons rfl (SubR.cons' rfl (by (try dsimp only); exact (by rw [shl1_neg c10 h1, not64 _ (by omega) (by omega)]; refine int_eq ?_; unfold zig; rw [if_pos c10]; omega)) (SubR.nil _))) sl)))
      · trivial
    ·
      have c10 := of_decide_eq_false c10
      refine TT.skip (.cut (()) ?_ (SubR.cons rfl (SubR.cons' rfl (by (try dsimp only); exact (by rw [shl1_pos (by omega) h2])) (SubR.nil _))) sl)
      · trivial
  ·
    rintro _ -
    show TT _ _ _ [(0, v), (5, .int .u64 (zig n : Nat))] (H :: r)
    refine TT.seq (.block (.loop (ι := Nat × (List UInt8) × Value × Chunk) (fun j => Own Go.Sx.encB 1 5 (j.2.2.1) (xs ++ (j.2.1)) (j.2.2.2) ∧ (j.2.1) ++ putU (j.1) = put n ∧ (j.1) < 18446744073709551616) (fun j => (j.1)) (fun j => [(0, (j.2.2.1)), (5, .int .u64 ((j.1) : Nat))]) (fun j => (j.2.2.2) :: r) (zig n, [], v, H) ?_ (SubR.cons rfl (SubR.cons rfl (SubR.nil _))) sl ?_))
    · dsimp only
      exact ⟨by simpa using ho, rfl, zig_lt h1 h2⟩
    rintro ⟨u, ys, w, K⟩ hI
    dsimp only at hI
    obtain ⟨hO, hp, hu⟩ := hI
    show TT _ _ _ [(0, w), (5, .int .u64 (u : Nat))] (K :: r)
    have h10 : ys.length + (putU u).length ≤ 10 := by rw [← List.length_append, hp]; exact put_ten h1 h2
    refine TT.seq (.seq (.region (.pures hT 2 rfl (.nil (.seq (.cond rfl (fun c14 => ?_) (fun c14 => ?_)))))))
    ·
      have c14 := of_decide_eq_true c14
      refine TT.skip (.seq (.block (.seq (.region (.pures hT 4 rfl ?_)))))
      refine OT.buildSlice (enc := Go.Sx.encB) (xs := [UInt8.ofNat (u % 128 + 128)]) (xos := [.tmp 18]) el31 rfl rfl rfl rfl (by rw [byteOr]; rfl) (by simp [Value.cells]) (fun _ _ => rfl) rfl (by decide) rfl (fun v_19 H_19 ho_19 => ?_)
      refine OT.append hT el31 rfl rfl rfl rfl pl hO ho_19.row rfl (by simp; omega) rfl (fun v_20 H_20 ho_20 => ?_)
      refine OT.pures hT 1 rfl (.nil (.seq (.region (.pures hT 3 rfl (.nil (.blk (.loop (u / 128, ys ++ [UInt8.ofNat (u % 128 + 128)], v_20, H_20) ?_ ?_ (SubR.cons rfl (SubR.cons' rfl (by (try dsimp only); exact (by rw [shr7])) (SubR.nil _))) sl)))))))
      · dsimp only
        exact ⟨by simpa using ho_20, by rw [← hp, putU_big (u := u) (by omega), List.append_assoc]; rfl, by omega⟩
      · dsimp only
        omega
    ·
      have c14 := of_decide_eq_false c14
      refine TT.exit (.seq (.loop (.here (.seq (.seq (.region (.pures hT 3 rfl ?_)))))))
      refine OT.buildSlice (enc := Go.Sx.encB) (xs := [UInt8.ofNat u]) (xos := [.tmp 25]) el31 rfl rfl rfl rfl (by rw [wrap_u8]; rfl) (by simp [Value.cells]) (fun _ _ => rfl) rfl (by decide) rfl (fun v_26 H_26 ho_26 => ?_)
      refine OT.append hT el31 rfl rfl rfl rfl pl hO ho_26.row rfl (by simp; omega) rfl (fun v_27 H_27 ho_27 => ?_)
      refine OT.pures hT 1 rfl (.nil (.seq (.ret (.of (rs := [.tmp 4]) [_] (H_27 :: r) rfl (.tmp rfl .nil) sl ?_))))
      dsimp only [one]
      exact ⟨_, rfl, by rw [← hp, putU_small (u := u) (by omega), ← List.append_assoc]; exact ho_27⟩




set_option maxHeartbeats 1000000 in
set_option maxRecDepth 100000 in
theorem num_Get {v : Value} {xs : List UInt8} {hs : List Chunk} (hr : Row Go.Sx.encB 1 hs v xs) (hl : xs.length ≤ 1073741824) : Fun Try.prog 42 [v] hs (fun v' hs' => v' = .tuple ⟨[.int .i64 (get xs).1, .int .i64 (get xs).2.1, .int .i64 (get xs).2.2]⟩ ∧ hs = hs') := by
  refine Fun.enter 50 Try.func42 rfl Try.ntmps42 rfl ?_
  obtain ⟨a0, c0, hv⟩ := hr.len
  subst hv
  refine TT.seq (.region (.pures hT 3 rfl (.nil (.seq (.seq (.region (.pures hT 1 rfl (.nil (.seq (.seq (.seq (.region (.pures hT 3 rfl (.nil (.seq (.block (.loop (ι := Nat × Nat) (fun j => (j.1) ≤ 9 ∧ (j.1) ≤ xs.length ∧ (j.2) < 128 ^ (j.1) ∧ getL (j.1) (j.2) (xs.drop (j.1)) = get xs) (fun j => xs.length - (j.1)) (fun j => [(5, .int .u64 ((j.2) : Nat)), (9, .slice a0 xs.length c0), (10, .int .i64 xs.length), (11, .int .i64 ((j.1) : Nat))]) (fun j => hs) (0, 0) ?_ (SubR.cons rfl (SubR.cons rfl (SubR.cons rfl (SubR.cons rfl (SubR.nil _))))) sl ?_)))))))))))))))))
  · dsimp only
    exact ⟨by omega, by omega, by simp, rfl⟩
  rintro ⟨i, u⟩ hI
  dsimp only at hI
  obtain ⟨h9, hi, hu, hp⟩ := hI
  show TT _ _ _ [(5, .int .u64 (u : Nat)), (9, .slice a0 xs.length c0), (10, .int .i64 xs.length), (11, .int .i64 (i : Nat))] (hs)
  refine TT.seq (.region (.pures hT 1 rfl (.nil (.seq (.seq (.cond rfl (fun c12 => ?_) (fun c12 => ?_)))))))
  ·
    have c12 := of_decide_eq_true c12
    obtain ⟨c, hc⟩ : ∃ c, xs[i]? = some c := ⟨_, List.getElem?_eq_getElem (by omega)⟩
    rw [List.drop_eq_getElem_cons (by omega), show xs[i]'(by omega) = c from by rw [List.getElem?_eq_getElem (by omega)] at hc; exact Option.some.inj hc, getL] at hp
    have hcl := c.toNat_lt
    refine TT.skip (.seq (.seq (.block (.seq (.region (.pures hT 1 rfl (.index hT rfl rfl rfl rfl hr (by omega) hc rfl (fun ad_14 hel_14 => ?_))))))))
    refine OT.load rfl rfl (hel_14.ld_one hT rfl rfl) rfl (.pures hT 2 rfl (.nil (.seq (.seq (.seq (.region (.pures hT 3 rfl (.split 18 rfl (fun g18 => ?_) (fun g18 => ?_)))))))))
    ·
      have g18 := of_decide_eq_true (g18 : decide ((i : Int) = 9) = true)
      refine OT.pures hT 3 rfl (.nil (.seq (.cond rfl (fun c21 => ?_) (fun c21 => ?_))))
      ·
        have c21 := of_decide_eq_true c21
        rw [if_pos ⟨by omega, by omega⟩] at hp
        refine TT.seq (.region (.pures hT 3 rfl (.nil (.seq (.ret (.of (rs := [.tmp 2, .tmp 3, .tmp 4]) [_, _, _] hs rfl (.tmp rfl (.tmp rfl (.tmp rfl .nil))) sl ?_))))))
        dsimp only [one]
        exact ⟨by rw [← hp], rfl⟩
      ·
        have c21 := of_decide_eq_false c21
        have c21 : ¬ (i = 9 ∧ 1 < c.toNat) := by omega
        rw [if_neg c21] at hp
        refine TT.skip (.seq (.seq (.region (.pures hT 6 rfl (.shl hT rfl rfl rfl (by rw [wrap_i64 (by omega) (by omega)]; omega) rfl ?_)))))
        have c21 : ¬ (i = 9 ∧ 1 < c.toNat) := by omega
        have hst := get_step h9 hu c21
        refine OT.pures hT 1 rfl (.reg 29 rfl (int_eq (by rw [byteAnd, get_shl h9 (by omega), get_or h9 hu (by omega)])) (.pures hT 1 rfl (.nil (.seq (.seq (.seq (.region (.pures hT 2 rfl (.nil (.seq (.cond rfl (fun c31 => ?_) (fun c31 => ?_))))))))))))
        ·
          have c31 := of_decide_eq_true c31
          try rw [if_neg c21] at hp
          rw [if_pos (by omega)] at hp
          refine TT.exit (.seq (.here (.seq (.region (.pures hT 2 rfl (.nil (.loop (i + 1, u + c.toNat % 128 * 128 ^ i) ?_ ?_ (SubR.cons rfl (SubR.cons rfl (SubR.cons rfl (SubR.cons' rfl (by (try dsimp only); exact (int_eq (by rw [wrap_i64 (by omega) (by omega)]; omega))) (SubR.nil _))))) sl)))))))
          · dsimp only
            exact ⟨by omega, by omega, get_next hu, hp⟩
          · dsimp only
            omega
        ·
          have c31 := of_decide_eq_false c31
          try rw [if_neg c21] at hp
          rw [if_neg (by omega)] at hp
          refine TT.skip (.seq (.seq (.seq (.region (.pures hT 3 rfl (.split 34 rfl (fun g34 => ?_) (fun g34 => ?_)))))))
          ·
            have g34 := of_decide_eq_true g34
            refine OT.pures hT 3 rfl (.nil (.seq (.cond rfl (fun c37 => ?_) (fun c37 => ?_))))
            ·
              have c37 := of_decide_eq_true (c37 : decide ((c.toNat : Int) = 0) = true)
              rw [if_pos ⟨by omega, by omega⟩] at hp
              refine TT.seq (.region (.pures hT 3 rfl (.nil (.seq (.ret (.of (rs := [.tmp 2, .tmp 3, .tmp 4]) [_, _, _] hs rfl (.tmp rfl (.tmp rfl (.tmp rfl .nil))) sl ?_))))))
              dsimp only [one]
              exact ⟨by rw [← hp], rfl⟩
            ·
              have c37 := of_decide_eq_false (c37 : decide ((c.toNat : Int) = 0) = false)
              rw [if_neg (by omega)] at hp
              refine TT.skip (.seq (.seq (.region (.pures hT 2 rfl (.pures hT 1 rfl (.reg 40 rfl (int_eq (unzig_even hst)) ?_))))))
              try rw [if_neg (by omega)] at hp
              refine OT.pures hT 1 rfl (.nil (.seq (.cut (ι := Unit) (fun j => True) (fun j => [(8, .int .i64 (unzig (u + c.toNat % 128 * 128 ^ i))), (6, .int .i64 (i : Nat))]) (fun j => hs) ?_ ?_)))
              ·
                refine TT.seq (.region (.pures hT 1 rfl (.pures hT 1 rfl (.reg 42 rfl (int_eq (and64_1 hst)) (.pures hT 1 rfl (.nil (.seq (.cond rfl (fun c43 => ?_) (fun c43 => ?_)))))))))
                ·
                  have c43 := of_decide_eq_true (c43 : decide (((u + c.toNat % 128 * 128 ^ i) % 2 : Nat) = (1 : Int)) = true)
                  refine TT.region (.pures hT 3 rfl (.nil (.cut (()) ?_ (SubR.cons' rfl (by (try dsimp only); exact (int_eq (by rw [not64i (by omega) (by omega)]; unfold unzig; rw [if_pos (by omega)]))) (SubR.cons rfl (SubR.nil _))) sl)))
                  · trivial
                ·
                  have c43 := of_decide_eq_false (c43 : decide (((u + c.toNat % 128 * 128 ^ i) % 2 : Nat) = (1 : Int)) = false)
                  refine TT.skip (.cut (()) ?_ (SubR.cons' rfl (by (try dsimp only); exact (int_eq (by unfold unzig; rw [if_neg (by omega)]))) (SubR.cons rfl (SubR.nil _))) sl)
                  · trivial
              ·
                rintro _ -
                show TT _ _ _ [(8, .int .i64 (unzig (u + c.toNat % 128 * 128 ^ i))), (6, .int .i64 (i : Nat))] (hs)
                refine TT.seq (.region (.pures hT 6 rfl (.nil (.seq (.ret (.of (rs := [.tmp 2, .tmp 3, .tmp 4]) [_, _, _] hs rfl (.tmp rfl (.tmp rfl (.tmp rfl .nil))) sl ?_))))))
                dsimp only [one]
                refine ⟨?_, rfl⟩
                rw [← hp, wrap_i64 (n := (i : Int) + 1) (by omega) (by omega)]
                rfl
          ·
            have g34 := of_decide_eq_false g34
            refine OT.pures hT 3 rfl (.nil (.seq (.cond_false rfl (.skip (.seq (.seq (.region (.pures hT 2 rfl (.pures hT 1 rfl (.reg 40 rfl (int_eq (unzig_even hst)) ?_))))))))))
            try rw [if_neg (by omega)] at hp
            refine OT.pures hT 1 rfl (.nil (.seq (.cut (ι := Unit) (fun j => True) (fun j => [(8, .int .i64 (unzig (u + c.toNat % 128 * 128 ^ i))), (6, .int .i64 (i : Nat))]) (fun j => hs) ?_ ?_)))
            ·
              refine TT.seq (.region (.pures hT 1 rfl (.pures hT 1 rfl (.reg 42 rfl (int_eq (and64_1 hst)) (.pures hT 1 rfl (.nil (.seq (.cond rfl (fun c43 => ?_) (fun c43 => ?_)))))))))
              ·
                have c43 := of_decide_eq_true (c43 : decide (((u + c.toNat % 128 * 128 ^ i) % 2 : Nat) = (1 : Int)) = true)
                refine TT.region (.pures hT 3 rfl (.nil (.cut (()) ?_ (SubR.cons' rfl (by (try dsimp only); exact (int_eq (by rw [not64i (by omega) (by omega)]; unfold unzig; rw [if_pos (by omega)]))) (SubR.cons rfl (SubR.nil _))) sl)))
                · trivial
              ·
                have c43 := of_decide_eq_false (c43 : decide (((u + c.toNat % 128 * 128 ^ i) % 2 : Nat) = (1 : Int)) = false)
                refine TT.skip (.cut (()) ?_ (SubR.cons' rfl (by (try dsimp only); exact (int_eq (by unfold unzig; rw [if_neg (by omega)]))) (SubR.cons rfl (SubR.nil _))) sl)
                · trivial
            ·
              rintro _ -
              show TT _ _ _ [(8, .int .i64 (unzig (u + c.toNat % 128 * 128 ^ i))), (6, .int .i64 (i : Nat))] (hs)
              refine TT.seq (.region (.pures hT 6 rfl (.nil (.seq (.ret (.of (rs := [.tmp 2, .tmp 3, .tmp 4]) [_, _, _] hs rfl (.tmp rfl (.tmp rfl (.tmp rfl .nil))) sl ?_))))))
              dsimp only [one]
              refine ⟨?_, rfl⟩
              rw [← hp, wrap_i64 (n := (i : Int) + 1) (by omega) (by omega)]
              rfl
    ·
      have g18 := of_decide_eq_false (g18 : decide ((i : Int) = 9) = false)
      refine OT.pures hT 3 rfl (.nil (.seq (.cond_false rfl (.skip (.seq (.seq (.region (.pures hT 6 rfl (.shl hT rfl rfl rfl (by rw [wrap_i64 (by omega) (by omega)]; omega) rfl ?_)))))))))
      have c21 : ¬ (i = 9 ∧ 1 < c.toNat) := by omega
      have hst := get_step h9 hu c21
      refine OT.pures hT 1 rfl (.reg 29 rfl (int_eq (by rw [byteAnd, get_shl h9 (by omega), get_or h9 hu (by omega)])) (.pures hT 1 rfl (.nil (.seq (.seq (.seq (.region (.pures hT 2 rfl (.nil (.seq (.cond rfl (fun c31 => ?_) (fun c31 => ?_))))))))))))
      ·
        have c31 := of_decide_eq_true c31
        try rw [if_neg c21] at hp
        rw [if_pos (by omega)] at hp
        refine TT.exit (.seq (.here (.seq (.region (.pures hT 2 rfl (.nil (.loop (i + 1, u + c.toNat % 128 * 128 ^ i) ?_ ?_ (SubR.cons rfl (SubR.cons rfl (SubR.cons rfl (SubR.cons' rfl (by (try dsimp only); exact (int_eq (by rw [wrap_i64 (by omega) (by omega)]; omega))) (SubR.nil _))))) sl)))))))
        · dsimp only
          exact ⟨by omega, by omega, get_next hu, hp⟩
        · dsimp only
          omega
      ·
        have c31 := of_decide_eq_false c31
        try rw [if_neg c21] at hp
        rw [if_neg (by omega)] at hp
        refine TT.skip (.seq (.seq (.seq (.region (.pures hT 3 rfl (.split 34 rfl (fun g34 => ?_) (fun g34 => ?_)))))))
        ·
          have g34 := of_decide_eq_true g34
          refine OT.pures hT 3 rfl (.nil (.seq (.cond rfl (fun c37 => ?_) (fun c37 => ?_))))
          ·
            have c37 := of_decide_eq_true (c37 : decide ((c.toNat : Int) = 0) = true)
            rw [if_pos ⟨by omega, by omega⟩] at hp
            refine TT.seq (.region (.pures hT 3 rfl (.nil (.seq (.ret (.of (rs := [.tmp 2, .tmp 3, .tmp 4]) [_, _, _] hs rfl (.tmp rfl (.tmp rfl (.tmp rfl .nil))) sl ?_))))))
            dsimp only [one]
            exact ⟨by rw [← hp], rfl⟩
          ·
            have c37 := of_decide_eq_false (c37 : decide ((c.toNat : Int) = 0) = false)
            rw [if_neg (by omega)] at hp
            refine TT.skip (.seq (.seq (.region (.pures hT 2 rfl (.pures hT 1 rfl (.reg 40 rfl (int_eq (unzig_even hst)) ?_))))))
            try rw [if_neg (by omega)] at hp
            refine OT.pures hT 1 rfl (.nil (.seq (.cut (ι := Unit) (fun j => True) (fun j => [(8, .int .i64 (unzig (u + c.toNat % 128 * 128 ^ i))), (6, .int .i64 (i : Nat))]) (fun j => hs) ?_ ?_)))
            ·
              refine TT.seq (.region (.pures hT 1 rfl (.pures hT 1 rfl (.reg 42 rfl (int_eq (and64_1 hst)) (.pures hT 1 rfl (.nil (.seq (.cond rfl (fun c43 => ?_) (fun c43 => ?_)))))))))
              ·
                have c43 := of_decide_eq_true (c43 : decide (((u + c.toNat % 128 * 128 ^ i) % 2 : Nat) = (1 : Int)) = true)
                refine TT.region (.pures hT 3 rfl (.nil (.cut (()) ?_ (SubR.cons' rfl (by (try dsimp only); exact (int_eq (by rw [not64i (by omega) (by omega)]; unfold unzig; rw [if_pos (by omega)]))) (SubR.cons rfl (SubR.nil _))) sl)))
                · trivial
              ·
                have c43 := of_decide_eq_false (c43 : decide (((u + c.toNat % 128 * 128 ^ i) % 2 : Nat) = (1 : Int)) = false)
                refine TT.skip (.cut (()) ?_ (SubR.cons' rfl (by (try dsimp only); exact (int_eq (by unfold unzig; rw [if_neg (by omega)]))) (SubR.cons rfl (SubR.nil _))) sl)
                · trivial
            ·
              rintro _ -
              show TT _ _ _ [(8, .int .i64 (unzig (u + c.toNat % 128 * 128 ^ i))), (6, .int .i64 (i : Nat))] (hs)
              refine TT.seq (.region (.pures hT 6 rfl (.nil (.seq (.ret (.of (rs := [.tmp 2, .tmp 3, .tmp 4]) [_, _, _] hs rfl (.tmp rfl (.tmp rfl (.tmp rfl .nil))) sl ?_))))))
              dsimp only [one]
              refine ⟨?_, rfl⟩
              rw [← hp, wrap_i64 (n := (i : Int) + 1) (by omega) (by omega)]
              rfl
        ·
          have g34 := of_decide_eq_false g34
          refine OT.pures hT 3 rfl (.nil (.seq (.cond_false rfl (.skip (.seq (.seq (.region (.pures hT 2 rfl (.pures hT 1 rfl (.reg 40 rfl (int_eq (unzig_even hst)) ?_))))))))))
          try rw [if_neg (by omega)] at hp
          refine OT.pures hT 1 rfl (.nil (.seq (.cut (ι := Unit) (fun j => True) (fun j => [(8, .int .i64 (unzig (u + c.toNat % 128 * 128 ^ i))), (6, .int .i64 (i : Nat))]) (fun j => hs) ?_ ?_)))
          ·
            refine TT.seq (.region (.pures hT 1 rfl (.pures hT 1 rfl (.reg 42 rfl (int_eq (and64_1 hst)) (.pures hT 1 rfl (.nil (.seq (.cond rfl (fun c43 => ?_) (fun c43 => ?_)))))))))
            ·
              have c43 := of_decide_eq_true (c43 : decide (((u + c.toNat % 128 * 128 ^ i) % 2 : Nat) = (1 : Int)) = true)
              refine TT.region (.pures hT 3 rfl (.nil (.cut (()) ?_ (SubR.cons' rfl (by (try dsimp only); exact (int_eq (by rw [not64i (by omega) (by omega)]; unfold unzig; rw [if_pos (by omega)]))) (SubR.cons rfl (SubR.nil _))) sl)))
              · trivial
            ·
              have c43 := of_decide_eq_false (c43 : decide (((u + c.toNat % 128 * 128 ^ i) % 2 : Nat) = (1 : Int)) = false)
              refine TT.skip (.cut (()) ?_ (SubR.cons' rfl (by (try dsimp only); exact (int_eq (by unfold unzig; rw [if_neg (by omega)]))) (SubR.cons rfl (SubR.nil _))) sl)
              · trivial
          ·
            rintro _ -
            show TT _ _ _ [(8, .int .i64 (unzig (u + c.toNat % 128 * 128 ^ i))), (6, .int .i64 (i : Nat))] (hs)
            refine TT.seq (.region (.pures hT 6 rfl (.nil (.seq (.ret (.of (rs := [.tmp 2, .tmp 3, .tmp 4]) [_, _, _] hs rfl (.tmp rfl (.tmp rfl (.tmp rfl .nil))) sl ?_))))))
            dsimp only [one]
            refine ⟨?_, rfl⟩
            rw [← hp, wrap_i64 (n := (i : Int) + 1) (by omega) (by omega)]
            rfl
  ·
    have c12 := of_decide_eq_false c12
    rw [List.drop_eq_nil_of_le (by omega), getL] at hp
    refine TT.exit (.seq (.loop (.here (.seq (.seq (.region (.pures hT 3 rfl (.nil (.seq (.ret (.of (rs := [.tmp 2, .tmp 3, .tmp 4]) [_, _, _] hs rfl (.tmp rfl (.tmp rfl (.tmp rfl .nil))) sl ?_)))))))))))
    dsimp only [one]
    exact ⟨by rw [← hp], rfl⟩






end Go.Proofs.Ytoalhcodigpgkaa.Sx
