/- The device, what it is told; pages. Printed by a program of ours off the loaded program and our notes; Lean checks it. -/
import Derived.Test.YtoalhcodigpgkaaPdA
import Derived.Test.YtoalhcodigpgkaaSxT
import Derived.Test.YtoalhcodigpgkaaCdA
import Derived.Test.YtoalhcodigpgkaaSxL
namespace Go.Proofs.Ytoalhcodigpgkaa.Sx
open Go Go.Sx Go.Pl
variable [Outer]

set_option maxHeartbeats 1000000 in
set_option maxRecDepth 100000 in
theorem dev_Write {p : Value} {d : Dev} {H : Chunk} {r : List Chunk} (hd : IsDev 89 65 p d H) {i : Int} {vb : Value} {bs : List UInt8} (hr : Row Go.Sx.encB 1 r vb bs) : Fun Try.prog 49 [p, .int .i64 i, vb] (H :: r) (fun v' hs' => ∃ H', hs' = H' :: r ∧ v' = .int .i64 (d.write i bs).2 ∧ IsDev 89 65 p (d.write i bs).1 H') := by
  refine Fun.enter 38 Try.func49 rfl Try.ntmps49 rfl ?_
  obtain ⟨ab, cb, hvb⟩ := hr.len
  subst hvb
  have hmost := hd.ok.most
  have hwok := Dev.write_ok hd.ok i bs
  refine TT.seq (.region (.pures hT 1 rfl (.nil (.seq (.seq (.seq (.region (.pures hT 1 rfl (.call Try.call40 rfl rfl rfl rfl (dev_Dead hd) ?_)))))))))
  rintro v_9 hs_9 ⟨rfl, rfl⟩
  refine OT.nil (.seq (.cond rfl (fun c9 => ?_) (fun c9 => ?_)))
  ·
    have hwr : d.write i bs = (d, 5) := by unfold Dev.write; rw [if_pos c9]
    rw [hwr]
    refine TT.seq (.region (.pures hT 1 rfl (.nil (.seq (.ret (.of (rs := [.tmp 6]) [_] (H :: r) rfl (.tmp rfl .nil) sl ?_))))))
    dsimp only [one]
    exact ⟨_, rfl, rfl, hd⟩
  ·
    have hng : ¬ d.gone = true := by rw [show d.gone = false from c9]; decide
    refine TT.skip (.seq (.seq (.seq (.region (.pures hT 2 rfl (.call Try.call63 rfl rfl rfl rfl (dev_at hd) ?_))))))
    rintro v_12 hs_12 ⟨rfl, rfl⟩
    refine OT.pures hT 1 rfl (.nil (.seq (.seq (.region (.pures hT 2 rfl (.nil (.seq (.cond rfl (fun c14 => ?_) (fun c14 => ?_)))))))))
    ·
      have hin : ¬ d.in i := by intro h; unfold Dev.at at c14; rw [if_pos h] at c14; cases c14
      have hat : d.at i = 3 := by unfold Dev.at; rw [if_neg hin]
      have hwr : d.write i bs = (d, 3) := by unfold Dev.write; rw [if_neg hng, if_pos hin]
      rw [hat, hwr]
      refine TT.seq (.region (.pures hT 2 rfl (.nil (.seq (.ret (.of (rs := [.tmp 6]) [_] (H :: r) rfl (.tmp rfl .nil) sl ?_))))))
      dsimp only [one]
      exact ⟨_, rfl, rfl, hd⟩
    ·
      have hin : d.in i := by refine Classical.byContradiction fun h => ?_; unfold Dev.at at c14; rw [if_neg h] at c14; cases c14
      have hsok := Dev.sec_ok hd.ok hin
      have hs64 := hsok.1
      have hin' : 0 ≤ i ∧ i < d.secs.length := hin
      refine TT.skip (.seq (.seq (.seq (.region (.pures hT 3 rfl (.nil (.seq (.cond rfl (fun c18 => ?_) (fun c18 => ?_)))))))))
      ·
        have c18 := of_decide_eq_true c18
        have hwr : d.write i bs = (d, 1) := by unfold Dev.write; rw [if_neg hng, if_neg (by simpa using hin), if_pos (by omega)]
        rw [hwr]
        refine TT.seq (.region (.pures hT 1 rfl (.nil (.seq (.ret (.of (rs := [.tmp 6]) [_] (H :: r) rfl (.tmp rfl .nil) sl ?_))))))
        dsimp only [one]
        exact ⟨_, rfl, rfl, hd⟩
      ·
        have c18 := of_decide_eq_false c18
        have hwr : d.write i bs = ({ d.burn with secs := d.secs.set i.toNat ((d.sec i).put bs) }, 0) := by unfold Dev.write; rw [if_neg hng, if_neg (by simpa using hin), if_neg (by omega)]
        rw [hwr] at hwok ⊢
        refine TT.skip (.seq (.seq (.region (.pures hT 1 rfl (.call Try.call64 rfl rfl rfl rfl (dev_burns hd c9) ?_)))))
        rintro v_20 hs_20 ⟨H1, rfl, rfl, hd1⟩
        obtain ⟨b, a, c, K, calls, fu, hpp, hO, hfu, hH⟩ := hd1.is
        subst hpp
        subst hH
        refine OT.split_chunk (.nil (.seq (.seq (.region (.pures hT 3 rfl (.load rfl rfl (Ld.slc hT rfl hz rfl) rfl ?_))))))
        refine OT.pures hT 1 rfl (.index_own hT rfl rfl rfl rfl hO (by omega) hin'.2 rfl (fun eb eo ec hv_26 => ?_))
        injection hv_26 with e1 _ e3
        subst e1
        subst e3
        refine OT.pures hT 1 rfl (.slice_arr 0 64 hT rfl rfl rfl rfl rfl (.inl ⟨rfl, rfl⟩) (.inl ⟨rfl, rfl⟩) (by omega) (by omega) (by omega) rfl (.pures hT 1 rfl (.copy_el i.toNat 0 hT rfl rfl rfl rfl pl hO (Dev.sec_at hin) (by omega) ro (by omega) (ones_bytes _) (by rw [List.take_of_length_le (by omega)]; exact splice_now hsok (by omega)) rfl (fun H_30 ho_30 => ?_))))
        refine OT.nil (.seq (.seq (.region (.pures hT 3 rfl (.load rfl rfl (Ld.slc hT rfl hz rfl) rfl ?_)))))
        refine OT.pures hT 1 rfl (.index_own hT rfl rfl rfl rfl ho_30 (by omega) (by rw [List.length_set]; exact hin'.2) rfl (fun eb2 eo2 ec2 hv_36 => ?_))
        injection hv_36 with e1 _ e3
        injection e1 with e1
        injection e1 with e1 e2
        subst e1
        subst e2
        subst e3
        refine OT.pures hT 1 rfl (.store_el i.toNat 128 hT rfl rfl rfl rfl pl ho_30 (List.getElem?_set_self (show i.toNat < d.secs.length by omega)) (by omega) rfl (by decide) rfl (splice_loose (s := ⟨bs ++ (d.sec i).now.drop bs.length, (d.sec i).lasts, (d.sec i).loose⟩) ⟨by rw [List.length_append, List.length_drop]; omega, hsok.2⟩ true) (fun H_w ho_w => ?_))
        refine OT.nil (.seq (.seq (.region (.pures hT 1 rfl (.nil (.seq (.ret (.of (rs := [.tmp 6]) [_] (([(b, blk [.slice (some ⟨eb, eo, none⟩) d.burn.secs.length c, .int .i64 calls, .bool d.burn.fuse.isSome, .int .i64 fu, .bool d.burn.dead] 65 (0, 0))] ++ H_w) :: r) rfl (.tmp rfl .nil) sl ?_))))))))
        dsimp only [one]
        rw [List.set_set] at ho_w
        exact ⟨_, rfl, rfl, IsDev.of hwok (List.length_set ..).symm ho_w hfu rfl rfl⟩

set_option maxHeartbeats 1000000 in
set_option maxRecDepth 100000 in
theorem dev_Flush {p : Value} {d : Dev} {H : Chunk} {r : List Chunk} (hd : IsDev 89 65 p d H) : Fun Try.prog 58 [p] (H :: r) (fun v' hs' => ∃ H', hs' = H' :: r ∧ v' = .int .i64 d.flush.2 ∧ IsDev 89 65 p d.flush.1 H') := by
  refine Fun.enter 39 Try.func58 rfl Try.ntmps58 rfl ?_
  have hmost := hd.ok.most
  have hpos := hd.ok.pos
  have hwok := Dev.flush_ok hd.ok
  refine TT.seq (.region (.pures hT 1 rfl (.nil (.seq (.seq (.seq (.region (.pures hT 1 rfl (.call Try.call40 rfl rfl rfl rfl (dev_Dead hd) ?_)))))))))
  rintro v_5 hs_5 ⟨rfl, rfl⟩
  refine OT.nil (.seq (.cond rfl (fun c5 => ?_) (fun c5 => ?_)))
  ·
    have hwr : d.flush = (d, 5) := by unfold Dev.flush; rw [if_pos c5]
    rw [hwr]
    refine TT.seq (.region (.pures hT 1 rfl (.nil (.seq (.ret (.of (rs := [.tmp 2]) [_] (H :: r) rfl (.tmp rfl .nil) sl ?_))))))
    dsimp only [one]
    exact ⟨_, rfl, rfl, hd⟩
  ·
    have hng : ¬ d.gone = true := by rw [show d.gone = false from c5]; decide
    have hwr : d.flush = ({ d.burn with secs := d.secs.map Sec.rest }, 0) := by unfold Dev.flush; rw [if_neg hng]
    rw [hwr] at hwok ⊢
    refine TT.skip (.seq (.seq (.region (.pures hT 1 rfl (.call Try.call64 rfl rfl rfl rfl (dev_burns hd c5) ?_)))))
    rintro v_7 hs_7 ⟨H1, rfl, rfl, hd1⟩
    obtain ⟨b, a, c, K, calls, fu, hpp, hO, hfu, hH⟩ := hd1.is
    subst hpp
    subst hH
    refine OT.split_chunk ?_
    obtain ⟨eb, eo, ec, _, _, hva, _⟩ := hO.over hpos
    injection hva with e1 _ e3
    subst e1
    subst e3
    refine OT.nil (.seq (.seq (.seq (.region (.pures hT 3 rfl (.load rfl rfl (Ld.slc hT rfl hz rfl) rfl ?_))))))
    refine OT.pures hT 2 rfl (.nil (.seq (.block (.loop (ι := Nat × Chunk) (fun j => (j.1) ≤ d.secs.length ∧ Own encSec 129 89 (.slice (some ⟨eb, eo, none⟩) d.secs.length c) (restTo d.secs (j.1)) (j.2)) (fun j => d.secs.length - (j.1)) (fun j => [(0, .pointer (some ⟨b, 0, none⟩)), (12, .int .i64 d.secs.length), (13, .int .i64 ((j.1) : Nat))]) (fun j => [(b, blk [.slice (some ⟨eb, eo, none⟩) d.secs.length c, .int .i64 calls, .bool d.burn.fuse.isSome, .int .i64 fu, .bool d.burn.dead] 65 (0, 0))] :: (j.2) :: r) (0, K) ?_ (SubR.cons rfl (SubR.cons rfl (SubR.cons rfl (SubR.nil _)))) sl ?_))))
    · dsimp only
      exact ⟨by omega, by rw [restTo_zero]; exact hO⟩
    rintro ⟨j, W⟩ hI
    dsimp only at hI
    obtain ⟨hj, hW⟩ := hI
    show TT _ _ _ [(0, .pointer (some ⟨b, 0, none⟩)), (12, .int .i64 d.secs.length), (13, .int .i64 (j : Nat))] ([(b, blk [.slice (some ⟨eb, eo, none⟩) d.secs.length c, .int .i64 calls, .bool d.burn.fuse.isSome, .int .i64 fu, .bool d.burn.dead] 65 (0, 0))] :: W :: r)
    refine TT.seq (.region (.pures hT 1 rfl (.nil (.seq (.seq (.cond rfl (fun c14 => ?_) (fun c14 => ?_)))))))
    ·
      have c14 := of_decide_eq_true c14
      obtain ⟨s, hs⟩ := nth (l := d.secs) (i := j) (by omega)
      have hsok := hd.ok.secs s (List.mem_of_getElem? hs)
      have hs64 := hsok.1
      have hat := restTo_at hs
      have hlen := restTo_length d.secs j
      refine TT.skip (.seq (.seq (.block (.seq (.region (.pures hT 2 rfl (.nil (.seq (.draw ([(b, blk [.slice (some ⟨eb, eo, none⟩) d.secs.length c, .int .i64 calls, .bool d.burn.fuse.isSome, .int .i64 fu, .bool d.burn.dead] 65 (0, 0))] :: r) mixed (.takes (fuel := 12) hT [0, 1, 2, 4, 5, 6, 7, 9, 10, 11, 12, 14] kr kr rfl (.take (fuel := 11) hT 3 rfl rfl kr kr kr rfl (.load rfl (Ld.slc hT rfl hz rfl)) rfl ?_)))))))))))
      refine AT.take (fuel := 10) hT 8 rfl rfl kr kr kr rfl (.load rfl (Ld.slc hT rfl hz rfl)) rfl ?_
      refine AT.take (fuel := 9) hT 13 rfl rfl kr kr kr rfl (.load rfl (Ld.slc hT rfl hz rfl)) rfl ?_
      refine AT.op (fuel := 8) 15 kr rfl sl (.index_own hT rfl rfl rfl rfl hW (by omega) (by omega) rfl (fun eb1 eo1 ec1 hv_31 => ?_))
      injection hv_31 with e1 _ e3
      injection e1 with e1
      injection e1 with e1 e2
      subst e1
      subst e2
      subst e3
      refine OT.nil (.any (.takes (fuel := 7) hT [16] kr kr rfl (.op (fuel := 6) 17 kr rfl sl (.load rfl rfl ((hW.el_at (i := ((j : Nat) : Int).toNat) (by rw [Int.toNat_natCast]; exact hat)).there.ld_part hT rfl 0 (sec_now hsok) (by decide)) rfl (.nil (.any (.op (fuel := 5) 18 kr rfl sl (.index_own hT rfl rfl rfl rfl hW (by omega) (by omega) rfl (fun eb2 eo2 ec2 hv_34 => ?_)))))))))
      injection hv_34 with e1 _ e3
      injection e1 with e1
      injection e1 with e1 e2
      subst e1
      subst e2
      subst e3
      refine OT.nil (.any (.takes (fuel := 4) hT [19] kr kr rfl (.op (fuel := 3) 20 kr rfl sl (.store_el j 64 hT rfl rfl rfl rfl pl hW hat (by omega) (by show (s.now.flatMap Go.Sx.encB).length = 64 * 1; rw [length_bytes, hs64]) (by decide) (by exact ones_bytes _) (by exact splice_lasts hsok hs64) (fun H_x ho_x => ?_)))))
      refine OT.nil (.any (.op (fuel := 2) 21 kr rfl sl (.index_own hT rfl rfl rfl rfl ho_x (by omega) (by rw [List.length_set]; omega) rfl (fun eb3 eo3 ec3 hv_36 => ?_))))
      injection hv_36 with e1 _ e3
      injection e1 with e1
      injection e1 with e1 e2
      subst e1
      subst e2
      subst e3
      refine OT.nil (.any (.takes (fuel := 1) hT [22] kr kr rfl (.op (fuel := 0) 23 kr rfl sl (.store_el j 128 hT rfl rfl rfl rfl pl ho_x (List.getElem?_set_self (by omega)) (by omega) rfl (by decide) rfl (splice_loose (s := ⟨s.now, s.now, s.loose⟩) ⟨hs64, hs64⟩ false) (fun H_y ho_y => ?_)))))
      refine OT.nil (.any (.done kr sl (.blk (.seq (.region (.pures hT 2 rfl (.nil ?_)))))))
      rw [List.set_set] at ho_y
      have ho_y := (restTo_set hs) ▸ ho_y
      refine KT.loop (j + 1, H_y) ?_ ?_ (SubR.cons rfl (SubR.cons rfl (SubR.cons' rfl (by (try dsimp only); exact (int_eq (by rw [wrap_i64 (by omega) (by omega)]; omega))) (SubR.nil _)))) sl
      · dsimp only
        exact ⟨by omega, ho_y⟩
      · dsimp only
        omega
    ·
      have c14 := of_decide_eq_false c14
      obtain rfl : j = d.secs.length := by omega
      rw [restTo_all] at hW
      refine TT.exit (.seq (.loop (.here (.seq (.seq (.region (.pures hT 1 rfl (.nil (.seq (.ret (.of (rs := [.tmp 2]) [_] (([(b, blk [.slice (some ⟨eb, eo, none⟩) d.secs.length c, .int .i64 calls, .bool d.burn.fuse.isSome, .int .i64 fu, .bool d.burn.dead] 65 (0, 0))] ++ W) :: r) rfl (.tmp rfl .nil) sl ?_)))))))))))
      dsimp only [one]
      exact ⟨_, rfl, rfl, IsDev.of hwok (List.length_map ..).symm hW hfu rfl rfl⟩

set_option maxHeartbeats 1000000 in
set_option maxRecDepth 100000 in
theorem dev_Fuse {p : Value} {d : Dev} {H : Chunk} {r : List Chunk} (hd : IsDev 89 65 p d H) {n : Int} (hn : n ≤ 9223372036854775807) : Fun Try.prog 22 [p, .int .i64 n] (H :: r) (fun v' hs' => ∃ H', hs' = H' :: r ∧ v' = .tuple ⟨[]⟩ ∧ IsDev 89 65 p (d.light n) H') := by
  refine Fun.enter 25 Try.func22 rfl Try.ntmps22 rfl ?_
  have hwok := Dev.light_ok hd.ok hn
  obtain ⟨b, a, c, K, calls, fu, hpp, hO, hfu, hH⟩ := hd.is
  have hpos := hd.ok.pos
  have hmost := hd.ok.most
  subst hpp
  subst hH
  refine TT.seq (.region (.pures hT 2 rfl (.nil (.seq (.cond_true rfl (.seq (.region (.pures hT 2 rfl (.call Try.call40 rfl rfl rfl rfl (dev_Dead hd) ?_)))))))))
  rintro v_8 hs_8 ⟨rfl, rfl⟩
  refine OT.split_chunk (.pures hT 1 rfl (.split 9 rfl (fun g9 => ?_) (fun g9 => ?_)))
  ·
    refine OT.pures hT 5 rfl (.store hT rfl rfl rfl rfl pl rfl (Nat.le_of_ble_eq_true rfl) rfl (.inl (Nat.le_refl _)) (cs' := [.slice a d.secs.length c, .int .i64 calls, .bool d.fuse.isSome, .int .i64 fu, .bool (d.gone || n == 0)]) (by rw [show d.gone = _ from g9]; rfl) ?_)
    refine OT.nil (.seq (.region (.pures hT 8 rfl (.store hT rfl rfl rfl rfl pl rfl (Nat.le_of_ble_eq_true rfl) rfl (.inl (Nat.le_refl _)) (cs' := [.slice a d.secs.length c, .int .i64 calls, .bool (decide (n ≥ 0)), .int .i64 fu, .bool (d.gone || n == 0)]) rfl ?_))))
    refine OT.pures hT 2 rfl (.store hT rfl rfl rfl rfl pl rfl (Nat.le_of_ble_eq_true rfl) rfl (.inl (Nat.le_refl _)) (cs' := [.slice a d.secs.length c, .int .i64 calls, .bool (decide (n ≥ 0)), .int .i64 (max n 0), .bool (d.gone || n == 0)]) rfl ?_)
    refine OT.nil (.of (rs := []) [] (([(b, blk [.slice a d.secs.length c, .int .i64 calls, .bool (decide (n ≥ 0)), .int .i64 (max n 0), .bool (d.gone || n == 0)] 65 (0, 0))] ++ K) :: r) rfl .nil sl ?_)
    dsimp only [one]
    refine ⟨_, rfl, rfl, IsDev.of hwok rfl hO (fun m h => ?_) ?_ rfl⟩
    · unfold Dev.light at h
      dsimp only at h
      split at h
      · have := Option.some.inj h; omega
      · cases h
    · unfold Dev.light
      dsimp only
      by_cases h : 0 ≤ n
      · rw [if_pos h, decide_eq_true h]; rfl
      · rw [if_neg h, decide_eq_false h]; rfl
  ·
    refine OT.pures hT 5 rfl (.store hT rfl rfl rfl rfl pl rfl (Nat.le_of_ble_eq_true rfl) rfl (.inl (Nat.le_refl _)) (cs' := [.slice a d.secs.length c, .int .i64 calls, .bool d.fuse.isSome, .int .i64 fu, .bool (d.gone || n == 0)]) (by rw [show d.gone = _ from g9]; rfl) ?_)
    refine OT.nil (.seq (.region (.pures hT 8 rfl (.store hT rfl rfl rfl rfl pl rfl (Nat.le_of_ble_eq_true rfl) rfl (.inl (Nat.le_refl _)) (cs' := [.slice a d.secs.length c, .int .i64 calls, .bool (decide (n ≥ 0)), .int .i64 fu, .bool (d.gone || n == 0)]) rfl ?_))))
    refine OT.pures hT 2 rfl (.store hT rfl rfl rfl rfl pl rfl (Nat.le_of_ble_eq_true rfl) rfl (.inl (Nat.le_refl _)) (cs' := [.slice a d.secs.length c, .int .i64 calls, .bool (decide (n ≥ 0)), .int .i64 (max n 0), .bool (d.gone || n == 0)]) rfl ?_)
    refine OT.nil (.of (rs := []) [] (([(b, blk [.slice a d.secs.length c, .int .i64 calls, .bool (decide (n ≥ 0)), .int .i64 (max n 0), .bool (d.gone || n == 0)] 65 (0, 0))] ++ K) :: r) rfl .nil sl ?_)
    dsimp only [one]
    refine ⟨_, rfl, rfl, IsDev.of hwok rfl hO (fun m h => ?_) ?_ rfl⟩
    · unfold Dev.light at h
      dsimp only at h
      split at h
      · have := Option.some.inj h; omega
      · cases h
    · unfold Dev.light
      dsimp only
      by_cases h : 0 ≤ n
      · rw [if_pos h, decide_eq_true h]; rfl
      · rw [if_neg h, decide_eq_false h]; rfl

end Go.Proofs.Ytoalhcodigpgkaa.Sx
