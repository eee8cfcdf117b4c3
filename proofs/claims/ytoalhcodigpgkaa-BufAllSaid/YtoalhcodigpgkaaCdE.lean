/- Sums; a text on two sectors. Printed by a program of ours off the loaded program and our notes; Lean checks it. -/
import Derived.Test.YtoalhcodigpgkaaPdB
import Derived.Test.YtoalhcodigpgkaaSxT
import Derived.Test.YtoalhcodigpgkaaCdD
import Derived.Test.YtoalhcodigpgkaaSxL
namespace Go.Proofs.Ytoalhcodigpgkaa.Sx
open Go Go.Sx Go.Pl
variable [Outer]

set_option maxHeartbeats 1000000 in
set_option maxRecDepth 100000 in
theorem crc_More {x : Int} {v : Value} {bs : List UInt8} {hs : List Chunk} (hr : Row Go.Sx.encB 1 hs v bs) (hl : bs.length ≤ 1073741824) : Fun Try.prog 78 [.int .u32 x, v] hs (fun v' hs' => v' = .int .u32 (u32not (crcAll (u32not x) bs)) ∧ hs = hs') := by
  refine Fun.enter 33 Try.func78 rfl Try.ntmps78 rfl ?_
  obtain ⟨a0, c0, hv⟩ := hr.len
  subst hv
  refine TT.seq (.region (.pures hT 1 rfl (.nil (.seq (.seq (.region (.pures hT 3 rfl (.nil (.seq (.seq (.seq (.region (.pures hT 3 rfl (.nil (.seq (.block (.loop (ι := Nat) (fun j => (j) ≤ bs.length) (fun j => bs.length - (j)) (fun j => [(5, .int .u32 (crcAll (u32not x) (bs.take (j)))), (10, .slice a0 bs.length c0), (11, .int .i64 bs.length), (12, .int .i64 ((j) : Nat))]) (fun j => hs) (0) ?_ (SubR.cons' rfl (by (try dsimp only); exact (rfl)) (SubR.cons rfl (SubR.cons rfl (SubR.cons rfl (SubR.nil _))))) sl ?_)))))))))))))))))
  · omega
  rintro i hi
  show TT _ _ _ [(5, .int .u32 (crcAll (u32not x) (bs.take i))), (10, .slice a0 bs.length c0), (11, .int .i64 bs.length), (12, .int .i64 (i : Nat))] (hs)
  refine TT.seq (.region (.pures hT 1 rfl (.nil (.seq (.seq (.cond rfl (fun c13 => ?_) (fun c13 => ?_)))))))
  ·
    have c13 := of_decide_eq_true c13
    obtain ⟨c, hc⟩ := nth (l := bs) (i := i) (by omega)
    refine TT.skip (.seq (.seq (.block (.seq (.region (.index hT rfl rfl rfl rfl hr (by omega) hc rfl (fun ad_14 hel_14 => ?_)))))))
    refine OT.load rfl rfl (hel_14.ld_one hT rfl rfl) rfl (.pures hT 1 rfl (.nil (.seq (.seq (.region (.pures hT 5 rfl (.nil (.seq (.seq (.region (.pures hT 1 rfl (.nil (.seq (.block (.loop (ι := Nat) (fun j => (j) ≤ 8) (fun j => 8 - (j)) (fun j => [(5, .int .u32 (crcBits (j) (u32xor (crcAll (u32not x) (bs.take i)) (IntKind.u32.wrap c.toNat)))), (10, .slice a0 bs.length c0), (11, .int .i64 bs.length), (12, .int .i64 (i : Nat)), (20, .int .i64 ((j) : Nat))]) (fun j => hs) (0) ?_ (SubR.cons' rfl (by (try dsimp only); exact (rfl)) (SubR.cons rfl (SubR.cons rfl (SubR.cons rfl (SubR.cons rfl (SubR.nil _)))))) sl ?_)))))))))))))))
    · omega
    rintro k hk
    show TT _ _ _ [(5, .int .u32 (crcBits k (u32xor (crcAll (u32not x) (bs.take i)) (IntKind.u32.wrap c.toNat)))), (10, .slice a0 bs.length c0), (11, .int .i64 bs.length), (12, .int .i64 (i : Nat)), (20, .int .i64 (k : Nat))] (hs)
    refine TT.seq (.region (.pures hT 1 rfl (.nil (.seq (.seq (.cond rfl (fun c21 => ?_) (fun c21 => ?_)))))))
    ·
      have c21 := of_decide_eq_true c21
      refine TT.skip (.seq (.seq (.block (.region (.pures hT 8 rfl (.nil (.blk (.seq (.region (.pures hT 2 rfl (.nil (.loop (k + 1) ?_ ?_ (SubR.cons' rfl (by (try dsimp only); exact (rfl)) (SubR.cons rfl (SubR.cons rfl (SubR.cons rfl (SubR.cons' rfl (by (try dsimp only); exact (int_eq (by rw [wrap_i64 (by omega) (by omega)]; omega))) (SubR.nil _)))))) sl))))))))))))
      · omega
      · omega
    ·
      have c21 := of_decide_eq_false c21
      obtain rfl : k = 8 := by omega
      refine TT.exit (.seq (.loop (.here (.blk (.seq (.region (.pures hT 2 rfl (.nil (.loop (i + 1) ?_ ?_ (SubR.cons' rfl (by (try dsimp only); exact (int_eq (by rw [take_succ hc]; unfold crcAll; rw [List.foldl_append]; rfl))) (SubR.cons rfl (SubR.cons rfl (SubR.cons' rfl (by (try dsimp only); exact (int_eq (by rw [wrap_i64 (by omega) (by omega)]; omega))) (SubR.nil _))))) sl)))))))))
      · omega
      · omega
  ·
    have c13 := of_decide_eq_false c13
    obtain rfl : i = bs.length := by omega
    refine TT.exit (.seq (.loop (.here (.seq (.seq (.region (.pures hT 3 rfl (.nil (.seq (.ret (.of (rs := [.tmp 4]) [_] hs rfl (.tmp rfl .nil) sl ?_)))))))))))
    dsimp only [one]
    exact ⟨by rw [List.take_length]; rfl, rfl⟩

set_option maxHeartbeats 1000000 in
set_option maxRecDepth 100000 in
theorem crc_Sum {v : Value} {bs : List UInt8} {hs : List Chunk} (hr : Row Go.Sx.encB 1 hs v bs) (hl : bs.length ≤ 1073741824) : Fun Try.prog 62 [v] hs (fun v' hs' => v' = .int .u32 (crcSum bs) ∧ hs = hs') := by
  refine Fun.enter 5 Try.func62 rfl Try.ntmps62 rfl ?_
  refine TT.seq (.region (.pures hT 1 rfl (.nil (.seq (.seq (.region (.pures hT 1 rfl (.call Try.call78 rfl rfl rfl rfl (crc_More hr hl) ?_))))))))
  rintro v_4 hs_4 ⟨rfl, rfl⟩
  refine OT.pures hT 1 rfl (.nil (.seq (.ret (.of (rs := [.tmp 2]) [_] hs rfl (.tmp rfl .nil) sl ?_))))
  dsimp only [one]
  exact ⟨rfl, rfl⟩

set_option maxHeartbeats 1000000 in
set_option maxRecDepth 100000 in
theorem super_put {b o n c q k cap : Nat} {xs : List UInt8} {H : Chunk} {r : List Chunk} {x : Nat} (ho : Own Go.Sx.encB 1 5 (.slice (some ⟨b, o, none⟩) n c) xs H) (hj : q + k ≤ xs.length) (hk : k ≤ 8) (hx : x < 18446744073709551616) : Fun Try.prog 65 [.slice (some ⟨b, o + q, none⟩) k cap, .int .u64 (x : Nat)] (H :: r) (fun v' hs' => ∃ H', hs' = H' :: r ∧ v' = .tuple ⟨[]⟩ ∧ Own Go.Sx.encB 1 5 (.slice (some ⟨b, o, none⟩) n c) (over xs q (be k x)) H') := by
  refine Fun.enter 23 Try.func65 rfl Try.ntmps65 rfl ?_
  refine TT.seq (.region (.pures hT 3 rfl (.nil (.seq (.block (.loop (ι := Nat × Chunk) (fun j => (j.1) ≤ k ∧ Own Go.Sx.encB 1 5 (.slice (some ⟨b, o, none⟩) n c) (over xs (q + (k - (j.1))) (be (j.1) x)) (j.2)) (fun j => k - (j.1)) (fun j => [(0, .slice (some ⟨b, o + q, none⟩) k cap), (1, .int .u64 (x : Nat)), (6, .int .i64 (k : Nat)), (7, .int .i64 ((j.1) : Nat))]) (fun j => (j.2) :: r) (0, H) ?_ (SubR.cons rfl (SubR.cons rfl (SubR.cons rfl (SubR.cons rfl (SubR.nil _))))) sl ?_))))))
  · dsimp only
    exact ⟨by omega, by show Own _ _ _ _ (over _ _ []) _; rw [over_nil]; exact ho⟩
  rintro ⟨i, W⟩ hI
  dsimp only at hI
  obtain ⟨hi, hW⟩ := hI
  show TT _ _ _ [(0, .slice (some ⟨b, o + q, none⟩) k cap), (1, .int .u64 (x : Nat)), (6, .int .i64 (k : Nat)), (7, .int .i64 (i : Nat))] (W :: r)
  refine TT.seq (.region (.pures hT 1 rfl (.nil (.seq (.seq (.cond rfl (fun c8 => ?_) (fun c8 => ?_)))))))
  ·
    have c8 := of_decide_eq_true c8
    have hol : (over xs (q + (k - i)) (be i x)).length = xs.length := length_over (by rw [be_length]; omega)
    obtain ⟨z, hz⟩ := nth (l := over xs (q + (k - i)) (be i x)) (i := q + (k - 1 - i)) (by omega)
    refine TT.skip (.seq (.seq (.block (.seq (.region (.pures hT 2 rfl (.nil (.seq (.region (.pures hT 9 rfl (.reg 15 rfl (v := .int .i64 ((k - 1 - i : Nat) : Int)) (int_eq (by rw [wrap_i64 (n := (k : Int) - 1) (by omega) (by omega), wrap_i64 (by omega) (by omega)]; omega)) (.reg 18 rfl (v := .int .i64 ((8 * i : Nat) : Int)) (int_eq (by rw [wrap_i64 (by omega) (by omega)]; omega)) (.shr hT rfl rfl rfl (by omega) rfl (.pures hT 1 rfl (.reg 20 rfl (v := .int .u8 ((UInt8.ofNat (x / 256 ^ i)).toNat : Int)) (int_eq (by rw [shr8 (by omega), byte_of])) (.index_raw hT rfl rfl rfl rfl (by omega) (by omega) rfl (.store_el (q + (k - 1 - i)) 0 hT rfl rfl rfl rfl pl hW hz (by omega) rfl (by decide) rfl (z' := UInt8.ofNat (x / 256 ^ i)) (by rfl) (fun H_y ho_y => ?_))))))))))))))))))
    refine OT.nil (.blk (.seq (.region (.pures hT 2 rfl (.nil ?_)))))
    have hW2 : Own Go.Sx.encB 1 5 (.slice (some ⟨b, o, none⟩) n c) (over xs (q + (k - (i + 1))) (be (i + 1) x)) H_y := by
      have e := over_step (xs := xs) (l := be i x) (p := q + (k - (i + 1))) (c := UInt8.ofNat (x / 256 ^ i)) (by rw [be_length]; omega)
      rw [show q + (k - (i + 1)) + 1 = q + (k - i) by omega, show q + (k - (i + 1)) = q + (k - 1 - i) by omega] at e
      rw [show q + (k - (i + 1)) = q + (k - 1 - i) by omega]
      exact e ▸ ho_y
    refine KT.loop (i + 1, H_y) ?_ ?_ (SubR.cons rfl (SubR.cons rfl (SubR.cons rfl (SubR.cons' rfl (by (try dsimp only); exact (int_eq (by rw [wrap_i64 (by omega) (by omega)]; omega))) (SubR.nil _))))) sl
    · dsimp only
      exact ⟨by omega, hW2⟩
    · dsimp only
      omega
  ·
    have c8 := of_decide_eq_false c8
    obtain rfl : i = k := by omega
    refine TT.exit (.seq (.loop (.here (.of (rs := []) [] (W :: r) rfl .nil sl ?_))))
    dsimp only [one]
    exact ⟨_, rfl, rfl, by rw [Nat.sub_self, Nat.add_zero] at hW; exact hW⟩

set_option maxHeartbeats 1000000 in
set_option maxRecDepth 100000 in
theorem super_get {v : Value} {bs : List UInt8} {hs : List Chunk} (hr : Row Go.Sx.encB 1 hs v bs) (hl : bs.length ≤ 8) : Fun Try.prog 61 [v] hs (fun v' hs' => v' = .int .u64 (fromBe bs : Nat) ∧ hs = hs') := by
  refine Fun.enter 19 Try.func61 rfl Try.ntmps61 rfl ?_
  obtain ⟨a0, c0, hv⟩ := hr.len
  subst hv
  refine TT.seq (.region (.pures hT 1 rfl (.nil (.seq (.seq (.region (.pures hT 1 rfl (.nil (.seq (.seq (.seq (.region (.pures hT 3 rfl (.nil (.seq (.block (.loop (ι := Nat) (fun j => (j) ≤ bs.length) (fun j => bs.length - (j)) (fun j => [(3, .int .u64 (fromBe (bs.take (j)) : Nat)), (6, .slice a0 bs.length c0), (7, .int .i64 bs.length), (8, .int .i64 ((j) : Nat))]) (fun j => hs) (0) ?_ (SubR.cons' rfl (by (try dsimp only); exact (rfl)) (SubR.cons rfl (SubR.cons rfl (SubR.cons rfl (SubR.nil _))))) sl ?_)))))))))))))))))
  · omega
  rintro i hi
  show TT _ _ _ [(3, .int .u64 (fromBe (bs.take i) : Nat)), (6, .slice a0 bs.length c0), (7, .int .i64 bs.length), (8, .int .i64 (i : Nat))] (hs)
  refine TT.seq (.region (.pures hT 1 rfl (.nil (.seq (.seq (.cond rfl (fun c9 => ?_) (fun c9 => ?_)))))))
  ·
    have c9 := of_decide_eq_true c9
    obtain ⟨c, hc⟩ := nth (l := bs) (i := i) (by omega)
    have hlt := fromBe_lt (bs.take i)
    have hlt : fromBe (bs.take i) < 72057594037927936 := Nat.lt_of_lt_of_le hlt (Nat.le_trans (Nat.pow_le_pow_right (by omega) (show (bs.take i).length ≤ 7 by rw [List.length_take]; omega)) (by decide))
    refine TT.skip (.seq (.seq (.block (.seq (.region (.index hT rfl rfl rfl rfl hr (by omega) hc rfl (fun ad_10 hel_10 => ?_)))))))
    refine OT.load rfl rfl (hel_10.ld_one hT rfl rfl) rfl (.pures hT 1 rfl (.nil (.seq (.region (.pures hT 6 rfl (.nil (.blk (.seq (.region (.pures hT 2 rfl (.nil (.loop (i + 1) ?_ ?_ (SubR.cons' rfl (by (try dsimp only); exact (int_eq (by rw [shl8or (by omega), take_succ hc, fromBe_snoc]))) (SubR.cons rfl (SubR.cons rfl (SubR.cons' rfl (by (try dsimp only); exact (int_eq (by rw [wrap_i64 (by omega) (by omega)]; omega))) (SubR.nil _))))) sl))))))))))))
    · omega
    · omega
  ·
    have c9 := of_decide_eq_false c9
    obtain rfl : i = bs.length := by omega
    refine TT.exit (.seq (.loop (.here (.seq (.seq (.region (.pures hT 2 rfl (.nil (.seq (.ret (.of (rs := [.tmp 2]) [_] hs rfl (.tmp rfl .nil) sl ?_)))))))))))
    dsimp only [one]
    exact ⟨by rw [List.take_length], rfl⟩

set_option maxHeartbeats 1000000 in
set_option maxRecDepth 100000 in
theorem super_there {p : Value} {d : Dev} {H : Chunk} {r : List Chunk} (hd : IsDev 89 65 p d H) {i : Int} (hi : -4611686018427387904 ≤ i ∧ i ≤ 4611686018427387904) : Fun Try.prog 48 [p, .int .i64 i] (H :: r) (fun v' hs' => v' = .bool (decide (0 ≤ i ∧ i < (d.secs.length : Int) - 1)) ∧ H :: r = hs') := by
  refine Fun.enter 14 Try.func48 rfl Try.ntmps48 rfl ?_
  have hmost := hd.ok.most
  refine TT.seq (.region (.pures hT 1 rfl (.nil (.seq (.seq (.region (.pures hT 3 rfl (.split 7 rfl (fun g7 => ?_) (fun g7 => ?_)))))))))
  ·
    have g7 := of_decide_eq_true g7
    refine OT.pures hT 2 rfl (.call Try.call26 rfl rfl rfl rfl (dev_Len hd) ?_)
    rintro v_10 hs_10 ⟨rfl, rfl⟩
    refine OT.pures hT 4 rfl (.nil (.seq (.ret (.of (rs := [.tmp 4]) [_] (H :: r) rfl (.tmp rfl .nil) sl ?_))))
    dsimp only [one]
    refine ⟨?_, rfl⟩
    rw [wrap_i64 (by omega) (by omega)]
    by_cases h : i < (d.secs.length : Int) - 1
    · rw [decide_eq_true h, decide_eq_true (by omega)]; rfl
    · rw [decide_eq_false h, decide_eq_false (by omega)]; rfl
  ·
    have g7 := of_decide_eq_false g7
    refine OT.pures hT 7 rfl (.nil (.seq (.ret (.of (rs := [.tmp 4]) [_] (H :: r) rfl (.tmp rfl .nil) sl ?_))))
    dsimp only [one]
    exact ⟨by rw [decide_eq_false (by omega)]; rfl, rfl⟩

end Go.Proofs.Ytoalhcodigpgkaa.Sx
