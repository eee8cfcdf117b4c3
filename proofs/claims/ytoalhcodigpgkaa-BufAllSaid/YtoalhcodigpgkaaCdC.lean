/- A device behind a crash; pages. Printed by a program of ours off the loaded program and our notes; Lean checks it. -/
import Derived.Test.YtoalhcodigpgkaaPdA
import Derived.Test.YtoalhcodigpgkaaSxT
import Derived.Test.YtoalhcodigpgkaaCdB
import Derived.Test.YtoalhcodigpgkaaSxL
namespace Go.Proofs.Ytoalhcodigpgkaa.Sx
open Go Go.Sx Go.Pl
variable [Outer]

set_option maxHeartbeats 1000000 in
set_option maxRecDepth 100000 in
theorem dev_Crash {p : Value} {d : Dev} {H : Chunk} {r : List Chunk} (hd : IsDev 89 65 p d H) {vk : Value} {ks : List Bool} (hk : Row Go.Sx.encBool 1 r vk ks) : Fun Try.prog 21 [p, vk] (H :: r) (fun v' hs' => ∃ H', hs' = H' :: H :: r ∧ IsDev 89 65 v' (d.crash ks) H') := by
  refine Fun.enter 57 Try.func21 rfl Try.ntmps21 rfl ?_
  obtain ⟨ak, ck, hvk⟩ := hk.len
  subst hvk
  have hwok := Dev.crash_ok hd.ok ks
  obtain ⟨b, a, c, K, calls, fu, hpp, hO, hfu, hH⟩ := hd.is
  have hpos := hd.ok.pos
  have hmost := hd.ok.most
  subst hpp
  subst hH
  refine TT.split (.seq (.region (.pures hT 1 rfl (.nil (.seq (.seq (.seq (.region (.pures hT 2 rfl (.nil (.seq (.cond_false rfl (.skip (.seq (.seq (.region (.pures hT 3 rfl (.load rfl rfl (Ld.slc hT rfl hz rfl) rfl ?_))))))))))))))))))
  refine OT.pures hT 1 rfl (.call Try.call9 rfl rfl rfl rfl (dev_New) ?_)
  rintro v_17 hs_17 ⟨H1, rfl, hd1⟩
  obtain ⟨b2, a2, c2, K2, calls2, fu2, hpp, hO2, hfu2, hH⟩ := hd1.is
  subst hpp
  subst hH
  refine OT.split_chunk ?_
  have hnl : (Dev.new d.secs.length).secs = List.replicate d.secs.length sec0 := by unfold Dev.new; rw [show (min (max (d.secs.length : Int) 1) 2048).toNat = d.secs.length by omega]
  have hnl' : (Dev.new d.secs.length).secs.length = d.secs.length := by rw [hnl, List.length_replicate]
  rw [hnl'] at hO2 ⊢
  rw [hnl] at hO2
  obtain ⟨eb, eo, ec, _, _, hva, _⟩ := hO2.over (by rw [List.length_replicate]; omega)
  injection hva with e1 _ e3
  subst e1
  subst e3
  refine OT.pures hT 1 rfl (.nil (.seq (.seq (.region (.pures hT 1 rfl (.nil (.seq (.seq (.seq (.region (.pures hT 3 rfl (.load rfl rfl (Ld.slc hT rfl hz rfl) rfl ?_))))))))))))
  refine OT.pures hT 2 rfl (.nil (.seq (.block (.loop (ι := Nat × Chunk) (fun j => (j.1) ≤ d.secs.length ∧ Own encSec 129 89 (.slice (some ⟨eb, eo, none⟩) d.secs.length c2) (crashTo ks d.secs (j.1)) (j.2)) (fun j => d.secs.length - (j.1)) (fun j => [(0, .pointer (some ⟨b, 0, none⟩)), (1, .slice ak ks.length ck), (5, .pointer (some ⟨b2, 0, none⟩)), (6, .int .i64 (looseN (d.secs.take (j.1)) : Nat)), (21, .slice a d.secs.length c), (22, .int .i64 d.secs.length), (23, .int .i64 ((j.1) : Nat))]) (fun j => [(b2, blk [.slice (some ⟨eb, eo, none⟩) d.secs.length c2, .int .i64 calls2, .bool false, .int .i64 fu2, .bool false] 65 (0, 0))] :: (j.2) :: [(b, blk [.slice a d.secs.length c, .int .i64 calls, .bool d.fuse.isSome, .int .i64 fu, .bool d.dead] 65 (0, 0))] :: K :: r) (0, K2) ?_ (SubR.cons rfl (SubR.cons rfl (SubR.cons rfl (SubR.cons' rfl (by (try dsimp only); exact (rfl)) (SubR.cons rfl (SubR.cons rfl (SubR.cons rfl (SubR.nil _)))))))) sl ?_))))
  · dsimp only
    exact ⟨by omega, by rw [crashTo_zero]; exact hO2⟩
  rintro ⟨i, W⟩ hI
  dsimp only at hI
  obtain ⟨hi, hW⟩ := hI
  show TT _ _ _ [(0, .pointer (some ⟨b, 0, none⟩)), (1, .slice ak ks.length ck), (5, .pointer (some ⟨b2, 0, none⟩)), (6, .int .i64 (looseN (d.secs.take i) : Nat)), (21, .slice a d.secs.length c), (22, .int .i64 d.secs.length), (23, .int .i64 (i : Nat))] ([(b2, blk [.slice (some ⟨eb, eo, none⟩) d.secs.length c2, .int .i64 calls2, .bool false, .int .i64 fu2, .bool false] 65 (0, 0))] :: W :: [(b, blk [.slice a d.secs.length c, .int .i64 calls, .bool d.fuse.isSome, .int .i64 fu, .bool d.dead] 65 (0, 0))] :: K :: r)
  refine TT.seq (.region (.pures hT 1 rfl (.nil (.seq (.seq (.cond rfl (fun c24 => ?_) (fun c24 => ?_)))))))
  ·
    have c24 := of_decide_eq_true c24
    obtain ⟨s, hs⟩ := nth (l := d.secs) (i := i) (by omega)
    have hsok := hd.ok.secs s (List.mem_of_getElem? hs)
    have hs64 := hsok.1
    have hl64 := hsok.2
    have hat := crashTo_at ks (l := d.secs) (i := i) (by omega)
    have hlen := crashTo_length ks (l := d.secs) hi
    have hnx := looseN_snoc hs
    have hlo := looseN_le (d.secs.take (i + 1))
    have hlo2 := List.length_take_le (i + 1) d.secs
    refine TT.skip (.seq (.seq (.block (.seq (.region (.pures hT 1 rfl (.index hT rfl rfl rfl rfl ro (by omega) hs rfl (fun ad_26 hel_26 => ?_))))))))
    refine OT.load rfl rfl (hel_26.ld_struct hT rfl) rfl (.alloc Try.zeroValue89 rfl rfl (fun b_8 => ?_))
    refine OT.pures hT 1 rfl (.store_all hT rfl rfl rfl rfl pl (by exact length_sec hsok) rfl (by exact ones_sec s) (.inl (Nat.le_refl _)) ?_)
    refine OT.nil (.seq (.seq (.region (.pures hT 1 rfl (.load rfl rfl (Ld.arr (b := b_8) (o := 0 + 64) hT rfl hz (sec_lasts hsok) (by rw [length_bytes, hl64])) rfl ?_)))))
    refine OT.alloc Try.zeroValue87 rfl rfl (fun b_9 => ?_)
    refine OT.store_all hT rfl rfl rfl rfl pl (by show (s.lasts.flatMap Go.Sx.encB).length = 64 * 1; rw [length_bytes, hl64]) rfl (by exact ones_bytes _) (.inl (Nat.le_refl _)) ?_
    refine OT.nil (.seq (.cut (ι := (List UInt8) × Nat) (fun j => (j.1).length = 64 ∧ crashSecs ks [s] (looseN (d.secs.take i)) = [⟨(j.1), (j.1), false⟩] ∧ (j.2) = looseN (d.secs.take (i + 1))) (fun j => [(0, .pointer (some ⟨b, 0, none⟩)), (1, .slice ak ks.length ck), (5, .pointer (some ⟨b2, 0, none⟩)), (6, .int .i64 ((j.2) : Nat)), (7, .int .i64 (i : Nat)), (9, .pointer (some ⟨b_9, 0, none⟩)), (21, .slice a d.secs.length c), (22, .int .i64 d.secs.length), (23, .int .i64 (i : Nat))]) (fun j => [(b_9, blk ((j.1).flatMap Go.Sx.encB) 87 (0, 0))] :: [(b2, blk [.slice (some ⟨eb, eo, none⟩) d.secs.length c2, .int .i64 calls2, .bool false, .int .i64 fu2, .bool false] 65 (0, 0))] :: W :: [(b, blk [.slice a d.secs.length c, .int .i64 calls, .bool d.fuse.isSome, .int .i64 fu, .bool d.dead] 65 (0, 0))] :: K :: r) ?_ ?_))
    ·
      refine TT.seq (.region (.pures hT 1 rfl (.load rfl rfl (Ld.one hT rfl hz (sec_loose hsok)) rfl ?_)))
      refine OT.nil (.seq (.cond rfl (fun c31 => ?_) (fun c31 => ?_)))
      ·
        rw [if_pos c31] at hnx
        refine TT.seq (.seq (.region (.pures hT 5 rfl (.split 36 rfl (fun g36 => ?_) (fun g36 => ?_)))))
        ·
          have g36 := of_decide_eq_true g36
          refine OT.pures hT 2 rfl ?_
          obtain ⟨kx, hkx⟩ := nth (l := ks) (i := looseN (d.secs.take i)) (by omega)
          refine OT.index hT rfl rfl rfl rfl ro (by omega) hkx rfl (fun ad_39 hel_39 => ?_)
          refine OT.load rfl rfl (hel_39.ld_one hT rfl rfl) rfl (.pures hT 1 rfl (.nil (.seq (.cond rfl (fun c41 => ?_) (fun c41 => ?_)))))
          ·
            have hkeep : (if ks.getD (looseN (d.secs.take i)) false = true then s.now else s.lasts) = s.now := by rw [List.getD_eq_getElem?_getD, hkx]; exact if_pos c41
            refine TT.region (.pures hT 1 rfl (.load rfl rfl (Ld.arr (b := b_8) (o := 0 + 0) hT rfl hz (sec_now hsok) (by rw [length_bytes, hs64])) rfl ?_))
            refine OT.store_all hT rfl rfl rfl rfl pl (by show (s.now.flatMap Go.Sx.encB).length = 64 * 1; rw [length_bytes, hs64]) (by show (s.lasts.flatMap Go.Sx.encB).length = 64 * 1; rw [length_bytes, hl64]) (by exact ones_bytes _) (.inl (Nat.le_refl _)) ?_
            refine OT.nil (.seq (.region (.pures hT 3 rfl (.nil (.cut (s.now, looseN (d.secs.take i) + 1) ?_ (SubR.cons rfl (SubR.cons rfl (SubR.cons rfl (SubR.cons' rfl (by (try dsimp only); exact (int_eq (by rw [wrap_i64 (by omega) (by omega)]; omega))) (SubR.cons rfl (SubR.cons rfl (SubR.cons rfl (SubR.cons rfl (SubR.cons rfl (SubR.nil _)))))))))) sl)))))
            · dsimp only
              exact ⟨hs64, by unfold crashSecs; rw [if_pos c31]; dsimp only; rw [hkeep]; rfl, hnx.symm⟩
          ·
            have hkeep : (if ks.getD (looseN (d.secs.take i)) false = true then s.now else s.lasts) = s.lasts := by rw [List.getD_eq_getElem?_getD, hkx]; exact if_neg (by rw [show kx = false from c41]; decide)
            refine TT.skip (.seq (.region (.pures hT 3 rfl (.nil (.cut (s.lasts, looseN (d.secs.take i) + 1) ?_ (SubR.cons rfl (SubR.cons rfl (SubR.cons rfl (SubR.cons' rfl (by (try dsimp only); exact (int_eq (by rw [wrap_i64 (by omega) (by omega)]; omega))) (SubR.cons rfl (SubR.cons rfl (SubR.cons rfl (SubR.cons rfl (SubR.cons rfl (SubR.nil _)))))))))) sl)))))
            · dsimp only
              exact ⟨hl64, by unfold crashSecs; rw [if_pos c31]; dsimp only; rw [hkeep]; rfl, hnx.symm⟩
        ·
          have g36 := of_decide_eq_false g36
          have hkeep : (if ks.getD (looseN (d.secs.take i)) false = true then s.now else s.lasts) = s.lasts := by rw [List.getD_eq_getElem?_getD, List.getElem?_eq_none (by omega)]; exact if_neg (by decide)
          refine OT.pures hT 5 rfl (.nil (.seq (.cond_false rfl (.skip (.seq (.region (.pures hT 3 rfl (.nil (.cut (s.lasts, looseN (d.secs.take i) + 1) ?_ (SubR.cons rfl (SubR.cons rfl (SubR.cons rfl (SubR.cons' rfl (by (try dsimp only); exact (int_eq (by rw [wrap_i64 (by omega) (by omega)]; omega))) (SubR.cons rfl (SubR.cons rfl (SubR.cons rfl (SubR.cons rfl (SubR.cons rfl (SubR.nil _)))))))))) sl)))))))))
          · dsimp only
            exact ⟨hl64, by unfold crashSecs; rw [if_pos c31]; dsimp only; rw [hkeep]; rfl, hnx.symm⟩
      ·
        rw [if_neg (by rw [c31]; decide)] at hnx
        refine TT.skip (.cut (s.lasts, looseN (d.secs.take i)) ?_ (SubR.cons rfl (SubR.cons rfl (SubR.cons rfl (SubR.cons rfl (SubR.cons rfl (SubR.cons rfl (SubR.cons rfl (SubR.cons rfl (SubR.cons rfl (SubR.nil _)))))))))) sl)
        · dsimp only
          exact ⟨hl64, by unfold crashSecs; rw [if_neg (by rw [c31]; decide)]; rfl, hnx.symm⟩
    ·
      rintro ⟨x, j2⟩ hI
      dsimp only at hI
      obtain ⟨hx, hcr, hj2⟩ := hI
      show TT _ _ _ [(0, .pointer (some ⟨b, 0, none⟩)), (1, .slice ak ks.length ck), (5, .pointer (some ⟨b2, 0, none⟩)), (6, .int .i64 (j2 : Nat)), (7, .int .i64 (i : Nat)), (9, .pointer (some ⟨b_9, 0, none⟩)), (21, .slice a d.secs.length c), (22, .int .i64 d.secs.length), (23, .int .i64 (i : Nat))] ([(b_9, blk (x.flatMap Go.Sx.encB) 87 (0, 0))] :: [(b2, blk [.slice (some ⟨eb, eo, none⟩) d.secs.length c2, .int .i64 calls2, .bool false, .int .i64 fu2, .bool false] 65 (0, 0))] :: W :: [(b, blk [.slice a d.secs.length c, .int .i64 calls, .bool d.fuse.isSome, .int .i64 fu, .bool d.dead] 65 (0, 0))] :: K :: r)
      refine TT.draw ([(b_9, blk (x.flatMap Go.Sx.encB) 87 (0, 0))] :: [(b2, blk [.slice (some ⟨eb, eo, none⟩) d.secs.length c2, .int .i64 calls2, .bool false, .int .i64 fu2, .bool false] 65 (0, 0))] :: [(b, blk [.slice a d.secs.length c, .int .i64 calls, .bool d.fuse.isSome, .int .i64 fu, .bool d.dead] 65 (0, 0))] :: K :: r) mixed (.takes (fuel := 6) hT [0, 1, 2, 4] kr kr rfl (.take (fuel := 5) hT 3 rfl rfl kr kr kr rfl (.load rfl (Ld.slc hT rfl hz rfl)) rfl ?_))
      refine AT.take (fuel := 4) hT 5 rfl rfl kr kr kr rfl (.load rfl (Ld.arr_all hT rfl hz (by rw [length_bytes, hx]))) rfl ?_
      refine AT.take (fuel := 3) hT 6 rfl rfl kr kr kr rfl (.load rfl (Ld.arr_all hT rfl hz (by rw [length_bytes, hx]))) rfl ?_
      refine AT.op (fuel := 2) 7 kr rfl sl (.build (cs := encSec ⟨x, x, false⟩) hT rfl Try.zeroValue89 rfl rfl ((show fillL _ Try.zeroCells89.toList _ = _ from (show Try.zeroCells89.toList = encSec sec0 by kernel_rfl) ▸ fill_sec hx)) rfl (.nil (.any (.op (fuel := 1) 8 kr rfl sl (.index_own hT rfl rfl rfl rfl hW (by omega) (by omega) rfl (fun eb1 eo1 ec1 hv_54 => ?_))))))
      injection hv_54 with e1 _ e3
      injection e1 with e1
      injection e1 with e1 e2
      subst e1
      subst e2
      subst e3
      refine OT.nil (.any (.op (fuel := 0) 9 kr rfl sl (.store_el i 0 hT rfl rfl rfl rfl pl hW hat (by omega) (by exact length_sec ⟨hx, hx⟩) (by decide) (by exact ones_sec _) (by exact splice_all (length_sec sec0_ok) (length_sec ⟨hx, hx⟩)) (fun H_y ho_y => ?_))))
      refine OT.nil (.any (.done kr sl (.blk (.seq (.region (.pures hT 2 rfl (.nil ?_)))))))
      have ho_y := (crashTo_set ks hs hcr) ▸ ho_y
      subst hj2
      refine KT.loop (i + 1, H_y) ?_ ?_ (SubR.cons rfl (SubR.cons rfl (SubR.cons rfl (SubR.cons rfl (SubR.cons rfl (SubR.cons rfl (SubR.cons' rfl (by (try dsimp only); exact (int_eq (by rw [wrap_i64 (by omega) (by omega)]; omega))) (SubR.nil _)))))))) sl
      · dsimp only
        exact ⟨by omega, ho_y⟩
      · dsimp only
        omega
  ·
    have c24 := of_decide_eq_false c24
    obtain rfl : i = d.secs.length := by omega
    rw [crashTo_all] at hW
    refine TT.exit (.seq (.loop (.here (.seq (.seq (.region (.pures hT 2 rfl (.nil (.seq (.ret (.of (rs := [.tmp 4]) [_] (([(b2, blk [.slice (some ⟨eb, eo, none⟩) d.secs.length c2, .int .i64 calls2, .bool false, .int .i64 fu2, .bool false] 65 (0, 0))] ++ W) :: ([(b, blk [.slice a d.secs.length c, .int .i64 calls, .bool d.fuse.isSome, .int .i64 fu, .bool d.dead] 65 (0, 0))] ++ K) :: r) rfl (.tmp rfl .nil) sl ?_)))))))))))
    dsimp only [one]
    exact ⟨_, rfl, IsDev.of hwok (crash_length ..).symm hW (fun m h => by unfold Dev.crash at h; cases h) rfl rfl⟩

end Go.Proofs.Ytoalhcodigpgkaa.Sx
