/- The device: what each of its functions does. Printed by a program of ours off the loaded program and our notes; Lean checks it. -/
import Derived.Test.YtoalhcodigpgkaaPdA
import Derived.Test.YtoalhcodigpgkaaSxT
import Derived.Test.YtoalhcodigpgkaaSxL
namespace Go.Proofs.Ytoalhcodigpgkaa.Sx
open Go Go.Sx Go.Pl
variable [Outer]

set_option maxHeartbeats 1000000 in
set_option maxRecDepth 100000 in
theorem bytes_Clone {v : Value} {xs : List UInt8} {hs : List Chunk} (hr : Row Go.Sx.encB 1 hs v xs) (hl : xs.length ≤ 1073741824) : Fun Try.prog 32 [v] hs (fun v' hs' => ∃ H', hs' = H' :: hs ∧ Own Go.Sx.encB 1 5 v' xs H') := by
  refine Fun.enter 8 Try.func32 rfl Try.ntmps32 rfl ?_
  obtain ⟨a0, c0, hv⟩ := hr.len
  subst hv
  refine TT.seq (.region (.pures hT 1 rfl (.nil (.seq (.seq (.seq (.region (.pures hT 2 rfl (.nil (.seq (.cond rfl (fun c4 => ?_) (fun c4 => ?_))))))))))))
  ·
    obtain rfl : a0 = none := by cases a0 with | none => rfl | some x => cases c4
    have hx := hr.of_none
    refine TT.seq (.region (.pures hT 1 rfl (.nil (.seq (.ret (.of (rs := [.tmp 2]) [_] ([] :: hs) rfl (.tmp rfl .nil) sl ?_))))))
    dsimp only [one]
    exact ⟨_, rfl, by rw [hx]; exact Own.nil⟩
  ·
    refine TT.skip (.seq (.seq (.region ?_)))
    refine OT.buildSlice (enc := Go.Sx.encB) (xs := ([] : List UInt8)) (xos := []) el31 rfl rfl rfl rfl rfl (by simp [Value.cells]) (fun _ _ => rfl) rfl (by decide) rfl (fun v_5 H_5 ho_5 => ?_)
    refine OT.pures hT 1 rfl ?_
    refine OT.append hT el31 rfl rfl rfl rfl pl ho_5 ro (ones_bytes _) (by simp; omega) rfl (fun v_7 H_7 ho_7 => ?_)
    refine OT.pures hT 1 rfl (.nil (.seq (.ret (.of (rs := [.tmp 2]) [_] (H_7 :: hs) rfl (.tmp rfl .nil) sl ?_))))
    dsimp only [one]
    exact ⟨_, rfl, ho_7⟩

set_option maxHeartbeats 1000000 in
set_option maxRecDepth 100000 in
theorem dev_New {n : Int} {r : List Chunk} : Fun Try.prog 9 [.int .i64 n] r (fun v' hs' => ∃ H', hs' = H' :: r ∧ IsDev 89 65 v' (Dev.new n) H') := by
  refine Fun.enter 9 Try.func9 rfl Try.ntmps9 rfl ?_
  refine TT.seq (.region (.pures hT 1 rfl (.nil (.seq (.seq (.region (.pures hT 3 rfl ?_)))))))
  refine OT.makeN (enc := encSec) (z0 := sec0) (n := (min (max n 1) 2048).toNat) el63 Try.zeroValue89 kr rfl rfl (congrArg some (int_eq (by omega))) (congrArg some (int_eq (by omega))) (by omega) rfl (fun v_6 H_6 ho_6 => ?_)
  obtain ⟨a6, c6, hv6⟩ := (ho_6.row (hs := r)).len
  subst hv6
  refine OT.build hT rfl Try.zeroValue65 rfl rfl rfl rfl (.box rfl rfl rfl (fun b_8 => ?_))
  refine OT.pures hT 1 rfl (.nil (.seq (.ret (.of (rs := [.tmp 2]) [_] (([(b_8, blk _ 65 (0, 0))] ++ H_6) :: r) rfl (.tmp rfl .nil) sl ?_))))
  dsimp only [one]
  exact ⟨_, rfl, ⟨Dev.new_ok n, ⟨b_8, a6, c6, H_6, 0, 0, rfl, by simpa [Dev.new] using ho_6, (fun _ h => by cases h), by simp only [Dev.new]; rfl⟩⟩⟩

set_option maxHeartbeats 1000000 in
set_option maxRecDepth 100000 in
theorem dev_Len {p : Value} {d : Dev} {H : Chunk} {r : List Chunk} (hd : IsDev 89 65 p d H) : Fun Try.prog 26 [p] (H :: r) (fun v' hs' => v' = .int .i64 d.secs.length ∧ H :: r = hs') := by
  refine Fun.enter 10 Try.func26 rfl Try.ntmps26 rfl ?_
  obtain ⟨b, a, c, K, calls, fu, hpp, hO, hfu, hH⟩ := hd.is
  have hpos := hd.ok.pos
  have hmost := hd.ok.most
  subst hpp
  subst hH
  refine TT.split (.seq (.region (.pures hT 1 rfl (.nil (.seq (.seq (.seq (.region (.pures hT 2 rfl (.nil (.seq (.cond_false rfl (.skip (.seq (.seq (.region (.pures hT 3 rfl (.load rfl rfl (Ld.slc hT rfl hz rfl) rfl ?_))))))))))))))))))
  refine OT.pures hT 2 rfl (.nil (.seq (.ret (.of (rs := [.tmp 2]) [_] (([(b, blk [.slice a d.secs.length c, .int .i64 calls, .bool d.fuse.isSome, .int .i64 fu, .bool d.dead] 65 (0, 0))] ++ K) :: r) rfl (.tmp rfl .nil) sl ?_))))
  dsimp only [one]
  exact ⟨rfl, rfl⟩

set_option maxHeartbeats 1000000 in
set_option maxRecDepth 100000 in
theorem dev_at {p : Value} {d : Dev} {H : Chunk} {r : List Chunk} (hd : IsDev 89 65 p d H) {i : Int} : Fun Try.prog 63 [p, .int .i64 i] (H :: r) (fun v' hs' => v' = .int .i64 (d.at i) ∧ H :: r = hs') := by
  refine Fun.enter 20 Try.func63 rfl Try.ntmps63 rfl ?_
  obtain ⟨b, a, c, K, calls, fu, hpp, hO, hfu, hH⟩ := hd.is
  have hpos := hd.ok.pos
  have hmost := hd.ok.most
  subst hpp
  subst hH
  refine TT.split (.seq (.region (.pures hT 1 rfl (.nil (.seq (.seq (.block (.seq (.region (.pures hT 3 rfl (.nil (.seq (.cond_false rfl (.seq (.region (.pures hT 3 rfl (.split 11 rfl (fun g11 => ?_) (fun g11 => ?_))))))))))))))))))
  ·
    have g11 := of_decide_eq_true g11
    refine OT.pures hT 9 rfl (.nil (.seq (.cond_true rfl (.seq (.region (.pures hT 1 rfl (.nil (.seq (.ret (.of (rs := [.tmp 4]) [_] (([(b, blk [.slice a d.secs.length c, .int .i64 calls, .bool d.fuse.isSome, .int .i64 fu, .bool d.dead] 65 (0, 0))] ++ K) :: r) rfl (.tmp rfl .nil) sl ?_))))))))))
    dsimp only [one]
    exact ⟨by unfold Dev.at; rw [if_neg (by unfold Dev.in; omega)], rfl⟩
  ·
    have g11 := of_decide_eq_false g11
    refine OT.pures hT 4 rfl (.load rfl rfl (Ld.slc hT rfl hz rfl) rfl ?_)
    refine OT.pures hT 4 rfl (.nil (.seq (.cond rfl (fun c8 => ?_) (fun c8 => ?_))))
    ·
      have c8 := of_decide_eq_true c8
      refine TT.seq (.region (.pures hT 1 rfl (.nil (.seq (.ret (.of (rs := [.tmp 4]) [_] (([(b, blk [.slice a d.secs.length c, .int .i64 calls, .bool d.fuse.isSome, .int .i64 fu, .bool d.dead] 65 (0, 0))] ++ K) :: r) rfl (.tmp rfl .nil) sl ?_))))))
      dsimp only [one]
      exact ⟨by unfold Dev.at; rw [if_neg (by unfold Dev.in; omega)], rfl⟩
    ·
      have c8 := of_decide_eq_false c8
      refine TT.skip (.blk (.seq (.seq (.region (.pures hT 1 rfl (.nil (.seq (.ret (.of (rs := [.tmp 4]) [_] (([(b, blk [.slice a d.secs.length c, .int .i64 calls, .bool d.fuse.isSome, .int .i64 fu, .bool d.dead] 65 (0, 0))] ++ K) :: r) rfl (.tmp rfl .nil) sl ?_)))))))))
      dsimp only [one]
      exact ⟨by unfold Dev.at; rw [if_pos (by unfold Dev.in; omega)], rfl⟩

set_option maxHeartbeats 1000000 in
set_option maxRecDepth 100000 in
theorem dev_Read {p : Value} {d : Dev} {H : Chunk} {r : List Chunk} (hd : IsDev 89 65 p d H) {i : Int} : Fun Try.prog 47 [p, .int .i64 i] (H :: r) (fun v' hs' => ∃ w H', v' = .tuple ⟨[w, .int .i64 (d.read i).2]⟩ ∧ hs' = H' :: H :: r ∧ Own Go.Sx.encB 1 5 w (d.read i).1 H') := by
  refine Fun.enter 22 Try.func47 rfl Try.ntmps47 rfl ?_
  refine TT.seq (.region (.pures hT 2 rfl (.nil (.seq (.seq (.seq (.region (.pures hT 2 rfl (.call Try.call63 rfl rfl rfl rfl (dev_at hd) ?_)))))))))
  rintro v_9 hs_9 ⟨rfl, rfl⟩
  refine OT.pures hT 1 rfl (.nil (.seq (.seq (.region (.pures hT 2 rfl (.nil (.seq (.cond rfl (fun c11 => ?_) (fun c11 => ?_)))))))))
  ·
    have hin : ¬ d.in i := by intro h; unfold Dev.at at c11; rw [if_pos h] at c11; cases c11
    have hat : d.at i = 3 := by unfold Dev.at; rw [if_neg hin]
    have hrd : d.read i = ([], 3) := by unfold Dev.read; rw [if_neg hin]
    rw [hat, hrd]
    refine TT.seq (.region (.pures hT 3 rfl (.nil (.seq (.ret (.of (rs := [.tmp 4, .tmp 5]) [_, _] ([] :: H :: r) rfl (.tmp rfl (.tmp rfl .nil)) sl ?_))))))
    dsimp only [one]
    exact ⟨_, _, rfl, rfl, Own.nil⟩
  ·
    have hin : d.in i := by refine Classical.byContradiction fun h => ?_; unfold Dev.at at c11; rw [if_neg h] at c11; cases c11
    have hrd : d.read i = ((d.sec i).now, 0) := by unfold Dev.read; rw [if_pos hin]
    have hsok := Dev.sec_ok hd.ok hin
    have hs64 := hsok.1
    rw [hrd]
    obtain ⟨b, a, c, K, calls, fu, hpp, hO, hfu, hH⟩ := hd.is
    have hpos := hd.ok.pos
    have hmost := hd.ok.most
    subst hpp
    subst hH
    refine TT.split ?_
    have hin' : 0 ≤ i ∧ i < d.secs.length := hin
    refine TT.skip (.seq (.seq (.region (.pures hT 3 rfl (.load rfl rfl (Ld.slc hT rfl hz rfl) rfl ?_)))))
    refine OT.pures hT 1 rfl (.index hT rfl rfl rfl rfl ro (by omega) (Dev.sec_at hin) rfl (fun ad_18 hel_18 => ?_))
    obtain ⟨eb, eo, rfl, _⟩ := hel_18.at (P := Try.prog)
    refine OT.pures hT 1 rfl (.slice_arr 0 64 hT rfl rfl rfl rfl rfl (.inl ⟨rfl, rfl⟩) (.inl ⟨rfl, rfl⟩) (by omega) (by omega) (by omega) rfl (.call Try.call32 rfl rfl rfl rfl (bytes_Clone (hel_18.piece (enc' := Go.Sx.encB) (sz' := 1) (ys := (d.sec i).now) (fun _ _ => rfl) 0 (n := 64) (by rw [hs64]) (by omega) (sec_now hsok) (by omega)) (by omega)) ?_))
    rintro v_21 hs_21 ⟨H1, rfl, ho1⟩
    refine OT.pures hT 2 rfl (.nil (.seq (.ret (.of (rs := [.tmp 4, .tmp 5]) [_, _] (H1 :: ([(b, blk [.slice a d.secs.length c, .int .i64 calls, .bool d.fuse.isSome, .int .i64 fu, .bool d.dead] 65 (0, 0))] ++ K) :: r) rfl (.tmp rfl (.tmp rfl .nil)) sl ?_))))
    dsimp only [one]
    exact ⟨_, _, rfl, rfl, ho1⟩

set_option maxHeartbeats 1000000 in
set_option maxRecDepth 100000 in
theorem dev_burns {p : Value} {d : Dev} {H : Chunk} {r : List Chunk} (hd : IsDev 89 65 p d H) (hg : d.gone = false) : Fun Try.prog 64 [p] (H :: r) (fun v' hs' => ∃ H', hs' = H' :: r ∧ v' = .tuple ⟨[]⟩ ∧ IsDev 89 65 p d.burn H') := by
  refine Fun.enter 20 Try.func64 rfl Try.ntmps64 rfl ?_
  obtain ⟨b, a, c, K, calls, fu, hpp, hO, hfu, hH⟩ := hd.is
  have hpos := hd.ok.pos
  have hmost := hd.ok.most
  subst hpp
  subst hH
  refine TT.split (.seq (.seq (.region (.pures hT 3 rfl (.load rfl rfl (Ld.one hT rfl hz rfl) rfl ?_)))))
  refine OT.nil (.seq (.cond rfl (fun c5 => ?_) (fun c5 => ?_)))
  ·
    obtain ⟨n, hn⟩ : ∃ n, d.fuse = some n := by cases hf : d.fuse with | none => rw [hf] at c5; cases c5 | some n => exact ⟨n, rfl⟩
    have hfn := hfu n hn
    have hnm := hd.ok.fuse n hn
    subst hfn
    have hn0 : n ≠ 0 := by intro h; subst h; unfold Dev.gone at hg; rw [hn] at hg; simp at hg
    refine TT.region (.pures hT 3 rfl (.load rfl rfl (Ld.one hT rfl hz rfl) rfl ?_))
    refine OT.pures hT 3 rfl (.store hT rfl rfl rfl rfl pl rfl (Nat.le_of_ble_eq_true rfl) rfl (.inl (Nat.le_refl _)) (cs' := [.slice a d.secs.length c, .int .i64 calls, .bool d.fuse.isSome, .int .i64 (n - 1 : Nat), .bool d.dead]) (by rw [wrap_i64 (by omega) (by omega)]; rw [show (n : Int) - 1 = ((n - 1 : Nat) : Int) by omega]; rfl) ?_)
    refine OT.nil (.seq (.region (.pures hT 3 rfl (.load rfl rfl (Ld.one hT rfl hz rfl) rfl ?_))))
    refine OT.pures hT 3 rfl (.store hT rfl rfl rfl rfl pl rfl (Nat.le_of_ble_eq_true rfl) rfl (.inl (Nat.le_refl _)) (cs' := [.slice a d.secs.length c, .int .i64 (IntKind.i64.wrap (calls + 1)), .bool d.fuse.isSome, .int .i64 (n - 1 : Nat), .bool d.dead]) rfl ?_)
    refine OT.nil (.of (rs := []) [] (([(b, blk [.slice a d.secs.length c, .int .i64 (IntKind.i64.wrap (calls + 1)), .bool d.fuse.isSome, .int .i64 (n - 1 : Nat), .bool d.dead] 65 (0, 0))] ++ K) :: r) rfl .nil sl ?_)
    dsimp only [one]
    exact ⟨_, rfl, rfl, ⟨Dev.burn_ok hd.ok, ⟨b, a, c, K, _, _, rfl, hO, (fun m h => by unfold Dev.burn at h; dsimp only at h; rw [hn] at h; rw [← Option.some.inj h]), by unfold Dev.burn; rw [hn]; rfl⟩⟩⟩
  ·
    have hn : d.fuse = none := by cases hf : d.fuse with | none => rfl | some n => rw [hf] at c5; cases c5
    refine TT.skip (.seq (.region (.pures hT 3 rfl (.load rfl rfl (Ld.one hT rfl hz rfl) rfl ?_))))
    refine OT.pures hT 3 rfl (.store hT rfl rfl rfl rfl pl rfl (Nat.le_of_ble_eq_true rfl) rfl (.inl (Nat.le_refl _)) (cs' := [.slice a d.secs.length c, .int .i64 (IntKind.i64.wrap (calls + 1)), .bool d.fuse.isSome, .int .i64 fu, .bool d.dead]) rfl ?_)
    refine OT.nil (.of (rs := []) [] (([(b, blk [.slice a d.secs.length c, .int .i64 (IntKind.i64.wrap (calls + 1)), .bool d.fuse.isSome, .int .i64 fu, .bool d.dead] 65 (0, 0))] ++ K) :: r) rfl .nil sl ?_)
    dsimp only [one]
    exact ⟨_, rfl, rfl, ⟨Dev.burn_ok hd.ok, ⟨b, a, c, K, _, fu, rfl, hO, (fun m h => by unfold Dev.burn at h; dsimp only at h; rw [hn] at h; cases h), by unfold Dev.burn; rw [hn]; rfl⟩⟩⟩

set_option maxHeartbeats 1000000 in
set_option maxRecDepth 100000 in
theorem dev_Dead {p : Value} {d : Dev} {H : Chunk} {r : List Chunk} (hd : IsDev 89 65 p d H) : Fun Try.prog 40 [p] (H :: r) (fun v' hs' => v' = .bool d.gone ∧ H :: r = hs') := by
  refine Fun.enter 24 Try.func40 rfl Try.ntmps40 rfl ?_
  obtain ⟨b, a, c, K, calls, fu, hpp, hO, hfu, hH⟩ := hd.is
  have hpos := hd.ok.pos
  have hmost := hd.ok.most
  subst hpp
  subst hH
  refine TT.split (.seq (.region (.pures hT 1 rfl (.nil (.seq (.seq (.region (.pures hT 3 rfl (.pures hT 3 rfl (.load rfl rfl (Ld.one hT rfl hz rfl) rfl ?_))))))))))
  refine OT.pures hT 2 rfl (.split 11 rfl (fun g11 => ?_) (fun g11 => ?_))
  ·
    refine OT.pures hT 13 rfl (.nil (.seq (.ret (.of (rs := [.tmp 2]) [_] (([(b, blk [.slice a d.secs.length c, .int .i64 calls, .bool d.fuse.isSome, .int .i64 fu, .bool d.dead] 65 (0, 0))] ++ K) :: r) rfl (.tmp rfl .nil) sl ?_))))
    dsimp only [one]
    exact ⟨by unfold Dev.gone; rw [show d.dead = true from g11]; rfl, rfl⟩
  ·
    refine OT.pures hT 3 rfl (.load rfl rfl (Ld.one hT rfl hz rfl) rfl ?_)
    refine OT.pures hT 1 rfl (.split 16 rfl (fun g16 => ?_) (fun g16 => ?_))
    ·
      refine OT.pures hT 3 rfl (.load rfl rfl (Ld.one hT rfl hz rfl) rfl ?_)
      refine OT.pures hT 4 rfl (.nil (.seq (.ret (.of (rs := [.tmp 2]) [_] (([(b, blk [.slice a d.secs.length c, .int .i64 calls, .bool d.fuse.isSome, .int .i64 fu, .bool d.dead] 65 (0, 0))] ++ K) :: r) rfl (.tmp rfl .nil) sl ?_))))
      dsimp only [one]
      refine ⟨?_, rfl⟩
      obtain ⟨n, hn⟩ : ∃ n, d.fuse = some n := by cases hf : d.fuse with | none => rw [hf] at g16; cases g16 | some n => exact ⟨n, rfl⟩
      have hfn := hfu n hn
      subst hfn
      unfold Dev.gone
      rw [show d.dead = false from g11, hn]
      by_cases h0 : n = 0
      · subst h0; rfl
      · rw [show ((n : Int) == 0) = false from beq_eq_false_iff_ne.2 (by omega), show (some n == some 0) = false from beq_eq_false_iff_ne.2 (by simpa using h0)]; rfl
    ·
      refine OT.pures hT 8 rfl (.nil (.seq (.ret (.of (rs := [.tmp 2]) [_] (([(b, blk [.slice a d.secs.length c, .int .i64 calls, .bool d.fuse.isSome, .int .i64 fu, .bool d.dead] 65 (0, 0))] ++ K) :: r) rfl (.tmp rfl .nil) sl ?_))))
      dsimp only [one]
      refine ⟨?_, rfl⟩
      have hn : d.fuse = none := by cases hf : d.fuse with | none => rfl | some n => rw [hf] at g16; cases g16
      unfold Dev.gone
      rw [show d.dead = false from g11, hn]; rfl

end Go.Proofs.Ytoalhcodigpgkaa.Sx
