/- A text on two sectors: written, saved, told. Printed by a program of ours off the loaded program and our notes; Lean checks it. -/
import Derived.Test.YtoalhcodigpgkaaPdB
import Derived.Test.YtoalhcodigpgkaaSxT
import Derived.Test.YtoalhcodigpgkaaCdE
import Derived.Test.YtoalhcodigpgkaaSxL
namespace Go.Proofs.Ytoalhcodigpgkaa.Sx
open Go Go.Sx Go.Pl
variable [Outer]

set_option maxHeartbeats 2000000 in
set_option maxRecDepth 100000 in
theorem super_write {ps pd : Value} {at_ : Int} {s : Sup} {d : Dev} {HS HD : Chunk} {r : List Chunk} (hS : IsSup 5 98 ps pd at_ s HS) (hd : IsDev 89 65 pd d HD) (hat0 : 0 ≤ at_) (hat1 : at_ ≤ 1099511627776) {slot : Int} {n : Nat} {vb : Value} {bs : List UInt8} (hsl : 0 ≤ slot ∧ slot ≤ 1) (hn : n ≤ 4611686018427387905) (hr : Row Go.Sx.encB 1 r vb bs) (hl : bs.length ≤ 40) : Fun Try.prog 50 [ps, .int .i64 slot, .int .i64 (n : Nat), vb] (HS :: HD :: r) (fun v' hs' => ∃ HS' HD', hs' = HS' :: HD' :: r ∧ v' = .int .i64 (supWrite s d at_ slot n bs).2.2 ∧ IsSup 5 98 ps pd at_ (supWrite s d at_ slot n bs).1 HS' ∧ IsDev 89 65 pd (supWrite s d at_ slot n bs).2.1 HD') := by
  refine Fun.enter 70 Try.func50 rfl Try.ntmps50 rfl ?_
  obtain ⟨ab, cb, hvb⟩ := hr.len
  subst hvb
  have hbl := supBody_length (n := n) (b := bs) (by omega)
  have hsl64 := supSec_length (n := n) (b := bs) (by omega)
  have hcr := crcSum_range (supBody n bs)
  obtain ⟨b, v, K, hpp, hTx, hone, hHS⟩ := hS.is
  subst hpp
  subst hHS
  refine TT.split (.seq (.region (.pures hT 1 rfl (.nil (.seq (.seq (.region ?_)))))))
  refine OT.make (enc := Go.Sx.encB) (z0 := (0 : UInt8)) (n := 64) el31 Try.zeroValue5 rfl rfl rfl rfl rfl (by omega) rfl (fun v_12 H_12 ho_12 => ?_)
  obtain ⟨eb, eo, ec, _, _, hva, _, _, _, _, hec, _⟩ := ho_12.over (by simp)
  rw [List.length_replicate] at hva hec
  subst hva
  refine OT.pures hT 1 rfl (.nil (.seq (.seq (.region (.pures hT 1 rfl (.slice_own 4 12 hT rfl rfl rfl rfl rfl (.inr ⟨_, rfl⟩) (.inr ⟨_, rfl⟩) (by omega) (by omega) (by omega) rfl (.pures hT 2 rfl (.reg 16 rfl (v := .int .u64 (n : Nat)) (int_eq (wrap_u64 (by omega) (by omega))) (.call Try.call65 rfl rfl rfl rfl (Fun.pull pl (super_put (q := 4) (k := 8) ho_12 (by simp) (by omega) (by omega))) ?_)))))))))
  rintro v_17 hs_17 ⟨H1, rfl, rfl, ho1⟩
  have hl1 : (over (List.replicate 64 (0 : UInt8)) 4 (be 8 n)).length = 64 := by rw [length_over (by rw [be_length]; simp)]; simp
  refine OT.nil (.seq (.seq (.region (.pures hT 4 rfl (.reg 21 rfl (v := .int .u8 ((UInt8.ofNat bs.length).toNat : Int)) (int_eq (byte_of _)) (.index_raw hT rfl rfl rfl rfl (by omega) (by omega) rfl ?_))))))
  obtain ⟨z, hzz⟩ := nth (l := over (List.replicate 64 (0 : UInt8)) 4 (be 8 n)) (i := 12) (by omega)
  refine OT.store_el 12 0 hT rfl rfl rfl rfl pl ho1 hzz (by rfl) rfl (by decide) rfl (z' := UInt8.ofNat bs.length) (by rfl) (fun H_y ho_y => ?_)
  refine OT.nil (.seq (.seq (.region (.pures hT 1 rfl ?_))))
  rw [set_over (by omega)] at ho_y
  have hl2 : (over (over (List.replicate 64 (0 : UInt8)) 4 (be 8 n)) 12 [UInt8.ofNat bs.length]).length = 64 := by rw [length_over (by rw [hl1]; simp)]; exact hl1
  refine OT.slice_own 13 64 hT rfl rfl rfl rfl rfl (.inr ⟨_, rfl⟩) (.inl ⟨rfl, rfl⟩) (by omega) (by omega) (by omega) rfl (.pures hT 1 rfl (.copy_own 13 hT rfl rfl rfl rfl pl ho_y hr.there.there.there.there (by omega) (by omega) (ones_bytes _) rfl (fun H_26 ho_26 => ?_)))
  rw [List.take_of_length_le (by omega), sup_over (by omega)] at ho_26
  have hl3 : (noughts 4 ++ supBody n bs).length = 64 := by rw [List.length_append, noughts_length, hbl]
  refine OT.nil (.seq (.seq (.draw ([(b, blk [pd, .int .i64 at_, .int .i64 s.slot, .int .i64 (s.turn : Nat), v] 98 (0, 0))] :: K :: HD :: r) mixed (.takes (fuel := 5) hT [0, 2] kr kr rfl (.take (fuel := 4) hT 1 rfl rfl kr kr kr rfl (Fl.slice 0 4 hT rfl rfl rfl rfl (.inl ⟨rfl, rfl⟩) (.inr ⟨_, rfl⟩) (by omega) (by omega) (by omega)) rfl (.take (fuel := 3) hT 3 rfl rfl kr kr kr rfl (Fl.slice 4 64 hT rfl rfl rfl rfl (.inr ⟨_, rfl⟩) (.inl ⟨rfl, rfl⟩) (by omega) (by omega) (by omega)) rfl (.op (fuel := 2) 4 kr rfl sl (.call Try.call62 rfl rfl rfl rfl (crc_Sum (bs := supBody n bs) (by have h := ho_26.sub_row (hs := [(b, blk [pd, .int .i64 at_, .int .i64 s.slot, .int .i64 (s.turn : Nat), v] 98 (0, 0))] :: K :: HD :: r) (L := 4) (M := 64) (by omega) (by omega) (by omega); rw [List.take_of_length_le (by omega), List.drop_append_of_le_length (by rw [noughts_length]; omega), List.drop_eq_nil_of_le (by rw [noughts_length]; omega), List.nil_append] at h; exact h) (by omega)) ?_))))))))
  rintro v_31 hs_31 ⟨rfl, rfl⟩
  refine OT.nil (.any (.takes (fuel := 1) hT [5] kr kr rfl (.op (fuel := 0) 6 kr rfl sl (.reg 32 rfl (v := .int .u64 ((crcSum (supBody n bs)).toNat : Nat)) (int_eq (by rw [wrap_u64 (by omega) (by omega)]; omega)) (.call Try.call65 rfl rfl rfl rfl (Fun.pull pl (super_put (q := 0) (k := 4) ho_26 (by omega) (by omega) (by omega))) ?_)))))
  rintro v_33 hs_33 ⟨H2, rfl, rfl, ho2⟩
  rw [sup_over4] at ho2
  refine OT.nil (.any (.done kr sl (.seq (.seq (.seq (.draw ([(b, blk [pd, .int .i64 at_, .int .i64 s.slot, .int .i64 (s.turn : Nat), v] 98 (0, 0))] :: r) mixed (.takes (fuel := 5) hT [0, 1, 2, 4, 5, 6, 8, 10] kr kr rfl (.take (fuel := 4) hT 3 rfl rfl kr kr kr rfl (.load rfl (Ld.one hT rfl hz rfl)) rfl ?_))))))))
  refine AT.take (fuel := 3) hT 7 rfl rfl kr kr kr rfl (.load rfl (Ld.one hT rfl hz rfl)) rfl ?_
  refine AT.takes (fuel := 2) hT [9] kr kr rfl (.op (fuel := 1) 11 kr rfl sl (.reg 43 rfl (v := .int .i64 (at_ + slot)) (int_eq (wrap_i64 (by omega) (by omega))) (.call Try.call49 rfl rfl rfl rfl (Fun.pull pl (dev_Write hd ho2.row)) ?_)))
  rintro v_45 hs_45 ⟨HD1, rfl, rfl, hd1⟩
  refine OT.nil (.any (.takes (fuel := 0) hT [12] kr kr rfl (.done kr sl (.seq (.seq (.region (.pures hT 2 rfl (.nil (.seq (.cond rfl (fun c47 => ?_) (fun c47 => ?_)))))))))))
  ·
    have hw : (supWrite s d at_ slot n bs) = (s, (d.write (at_ + slot) (supSec n bs)).1, (d.write (at_ + slot) (supSec n bs)).2) := by unfold supWrite; rw [if_pos (by simpa using c47)]
    rw [hw]
    refine TT.seq (.region (.pures hT 2 rfl (.nil (.seq (.ret (.of (rs := [.tmp 8]) [_] (([(b, blk [pd, .int .i64 at_, .int .i64 s.slot, .int .i64 (s.turn : Nat), v] 98 (0, 0))] ++ K) :: HD1 :: r) rfl (.tmp rfl .nil) sl ?_))))))
    dsimp only [one]
    exact ⟨_, _, rfl, rfl, hS, hd1⟩
  ·
    have c47 : (d.write (at_ + slot) (supSec n bs)).2 = 0 := by simpa using c47
    refine TT.skip (.seq (.seq (.seq (.region (.pures hT 3 rfl (.load rfl rfl (Ld.one hT rfl hz rfl) rfl ?_))))))
    refine OT.call Try.call58 rfl rfl rfl rfl (Fun.pull pl (dev_Flush hd1)) ?_
    rintro v_53 hs_53 ⟨HD2, rfl, rfl, hd2⟩
    refine OT.pures hT 1 rfl (.nil (.seq (.seq (.region (.pures hT 2 rfl (.nil (.seq (.cond rfl (fun c55 => ?_) (fun c55 => ?_)))))))))
    ·
      have hw : (supWrite s d at_ slot n bs) = (s, (d.write (at_ + slot) (supSec n bs)).1.flush.1, (d.write (at_ + slot) (supSec n bs)).1.flush.2) := by unfold supWrite; rw [if_neg (by omega), if_pos (by simpa using c55)]
      rw [hw]
      refine TT.seq (.region (.pures hT 2 rfl (.nil (.seq (.ret (.of (rs := [.tmp 8]) [_] (([(b, blk [pd, .int .i64 at_, .int .i64 s.slot, .int .i64 (s.turn : Nat), v] 98 (0, 0))] ++ K) :: HD2 :: r) rfl (.tmp rfl .nil) sl ?_))))))
      dsimp only [one]
      exact ⟨_, _, rfl, rfl, hS, hd2⟩
    ·
      have c55 : (d.write (at_ + slot) (supSec n bs)).1.flush.2 = 0 := by simpa using c55
      have hw : (supWrite s d at_ slot n bs) = (⟨slot, n, bs⟩, (d.write (at_ + slot) (supSec n bs)).1.flush.1, 0) := by unfold supWrite; rw [if_neg (by omega), if_neg (by omega)]
      rw [hw]
      refine TT.skip (.seq (.seq (.region (.pures hT 6 rfl (.call Try.call32 rfl rfl rfl rfl (bytes_Clone (hr.there.there.there.there) (by omega)) ?_)))))
      rintro v_63 hs_63 ⟨HB, rfl, hoB⟩
      obtain ⟨a63, c63, hv63⟩ := (hoB.row (hs := r)).len
      subst hv63
      refine OT.pures hT 2 rfl (.store hT rfl rfl rfl rfl pl rfl (Nat.le_of_ble_eq_true rfl) rfl (.inl (Nat.le_refl _)) (cs' := [pd, .int .i64 at_, .int .i64 slot, .int .i64 (s.turn : Nat), v]) rfl ?_)
      refine OT.pures hT 2 rfl (.store hT rfl rfl rfl rfl pl rfl (Nat.le_of_ble_eq_true rfl) rfl (.inl (Nat.le_refl _)) (cs' := [pd, .int .i64 at_, .int .i64 slot, .int .i64 (n : Nat), v]) rfl ?_)
      refine OT.pures hT 2 rfl (.store hT rfl rfl rfl rfl pl rfl (Nat.le_of_ble_eq_true rfl) rfl (.inl (Nat.le_refl _)) (cs' := [pd, .int .i64 at_, .int .i64 slot, .int .i64 (n : Nat), .slice a63 bs.length c63]) rfl ?_)
      refine OT.nil (.seq (.seq (.region (.pures hT 1 rfl (.nil (.seq (.ret (.of (rs := [.tmp 8]) [_] (([(b, blk [pd, .int .i64 at_, .int .i64 slot, .int .i64 (n : Nat), .slice a63 bs.length c63] 98 (0, 0))] ++ HB) :: HD2 :: r) rfl (.tmp rfl .nil) sl ?_))))))))
      dsimp only [one]
      exact ⟨_, _, rfl, rfl, ⟨hsl, (by show bs.length ≤ 60; omega), ⟨b, _, HB, rfl, hoB, rfl, rfl⟩⟩, hd2⟩

set_option maxHeartbeats 1000000 in
set_option maxRecDepth 100000 in
theorem super_Save {ps pd : Value} {at_ : Int} {s : Sup} {d : Dev} {HS HD : Chunk} {r : List Chunk} (hS : IsSup 5 98 ps pd at_ s HS) (hd : IsDev 89 65 pd d HD) (hat0 : 0 ≤ at_) (hat1 : at_ ≤ 1099511627776) {vb : Value} {bs : List UInt8} (hn : s.turn ≤ 4611686018427387904) (hr : Row Go.Sx.encB 1 r vb bs) : Fun Try.prog 79 [ps, vb] (HS :: HD :: r) (fun v' hs' => ∃ HS' HD', hs' = HS' :: HD' :: r ∧ v' = .int .i64 (s.save d at_ bs).2.2 ∧ IsSup 5 98 ps pd at_ (s.save d at_ bs).1 HS' ∧ IsDev 89 65 pd (s.save d at_ bs).2.1 HD') := by
  refine Fun.enter 25 Try.func79 rfl Try.ntmps79 rfl ?_
  obtain ⟨ab, cb, hvb⟩ := hr.len
  subst hvb
  have hslot := hS.slot
  obtain ⟨b, v, K, hpp, hTx, hone, hHS⟩ := hS.is
  subst hpp
  subst hHS
  refine TT.split (.seq (.region (.pures hT 1 rfl (.nil (.seq (.seq (.block (.seq (.region (.pures hT 3 rfl (.nil (.seq (.cond_false rfl (.seq (.region (.pures hT 4 rfl (.nil (.seq (.cond rfl (fun c8 => ?_) (fun c8 => ?_))))))))))))))))))))
  ·
    have c8 := of_decide_eq_true c8
    have hw : (s.save d at_ bs) = (s, d, 1) := by unfold Sup.save; rw [if_pos (by omega)]
    rw [hw]
    refine TT.seq (.region (.pures hT 1 rfl (.nil (.seq (.ret (.of (rs := [.tmp 4]) [_] (([(b, blk [pd, .int .i64 at_, .int .i64 s.slot, .int .i64 (s.turn : Nat), v] 98 (0, 0))] ++ K) :: HD :: r) rfl (.tmp rfl .nil) sl ?_))))))
    dsimp only [one]
    exact ⟨_, _, rfl, rfl, hS, hd⟩
  ·
    have c8 := of_decide_eq_false c8
    have hw : (s.save d at_ bs) = supWrite s d at_ (1 - s.slot) (s.turn + 1) bs := by unfold Sup.save; rw [if_neg (by omega)]
    rw [hw]
    refine TT.skip (.blk (.seq (.seq (.draw (r) mixed (.takes (fuel := 6) hT [0, 1, 2, 3, 6, 7, 8, 11] kr kr rfl (.all (fuel := 5) [4, 9] kr (by decide) sl ?_))))))
    intro i hi
    simp only [List.mem_cons, List.not_mem_nil, or_false] at hi
    rcases hi with rfl | rfl
    ·
      refine ⟨_, rfl, ?_⟩
      refine OT.load rfl rfl (Ld.one hT rfl hz rfl) rfl ?_
      refine OT.nil (.any (.takes (fuel := 4) hT [5] kr kr rfl (.op (fuel := 3) 9 kr rfl sl (.load rfl rfl (Ld.one hT rfl hz rfl) rfl ?_))))
      refine OT.nil (.any (.takes (fuel := 2) hT [10] kr kr rfl (.op (fuel := 1) 12 kr rfl sl (.reg 17 rfl (v := .int .i64 (1 - s.slot)) (int_eq (wrap_i64 (by omega) (by omega))) (.reg 22 rfl (v := .int .i64 ((s.turn + 1 : Nat) : Int)) (int_eq (by rw [wrap_i64 (by omega) (by omega)]; omega)) (.call Try.call50 rfl rfl rfl rfl (Fun.join (super_write hS hd hat0 hat1 (by omega) (by omega) hr (by omega))) ?_))))))
      rintro v_24 hs_24 ⟨HS1, HD1, rfl, rfl, hS1, hd1⟩
      refine OT.nil (.any (.takes (fuel := 0) hT [13] kr kr rfl (.done kr sl (.seq (.ret (.of (rs := [.tmp 4]) [_] (HS1 :: HD1 :: r) rfl (.tmp rfl .nil) sl ?_))))))
      dsimp only [one]
      exact ⟨_, _, rfl, rfl, hS1, hd1⟩
    ·
      refine ⟨_, rfl, ?_⟩
      refine OT.load rfl rfl (Ld.one hT rfl hz rfl) rfl ?_
      refine OT.nil (.any (.takes (fuel := 4) hT [10] kr kr rfl (.op (fuel := 3) 4 kr rfl sl (.load rfl rfl (Ld.one hT rfl hz rfl) rfl ?_))))
      refine OT.nil (.any (.takes (fuel := 2) hT [5] kr kr rfl (.op (fuel := 1) 12 kr rfl sl (.reg 17 rfl (v := .int .i64 (1 - s.slot)) (int_eq (wrap_i64 (by omega) (by omega))) (.reg 22 rfl (v := .int .i64 ((s.turn + 1 : Nat) : Int)) (int_eq (by rw [wrap_i64 (by omega) (by omega)]; omega)) (.call Try.call50 rfl rfl rfl rfl (Fun.join (super_write hS hd hat0 hat1 (by omega) (by omega) hr (by omega))) ?_))))))
      rintro v_24 hs_24 ⟨HS1, HD1, rfl, rfl, hS1, hd1⟩
      refine OT.nil (.any (.takes (fuel := 0) hT [13] kr kr rfl (.done kr sl (.seq (.ret (.of (rs := [.tmp 4]) [_] (HS1 :: HD1 :: r) rfl (.tmp rfl .nil) sl ?_))))))
      dsimp only [one]
      exact ⟨_, _, rfl, rfl, hS1, hd1⟩

set_option maxHeartbeats 1000000 in
set_option maxRecDepth 100000 in
theorem super_Text {ps pd : Value} {at_ : Int} {s : Sup} {HS : Chunk} {r : List Chunk} (hS : IsSup 5 98 ps pd at_ s HS) : Fun Try.prog 43 [ps] (HS :: r) (fun v' hs' => ∃ H', hs' = H' :: HS :: r ∧ Own Go.Sx.encB 1 5 v' s.text H') := by
  refine Fun.enter 10 Try.func43 rfl Try.ntmps43 rfl ?_
  obtain ⟨b, v, K, hpp, hTx, hone, hHS⟩ := hS.is
  subst hpp
  subst hHS
  refine TT.split ?_
  have htl := hS.text
  obtain ⟨av, cv, hv⟩ := (hTx.row (hs := r)).len
  subst hv
  refine TT.seq (.region (.pures hT 1 rfl (.nil (.seq (.seq (.seq (.region (.pures hT 2 rfl (.nil (.seq (.cond_false rfl (.skip (.seq (.seq (.region (.pures hT 3 rfl (.load rfl rfl (Ld.slc hT rfl hz rfl) rfl ?_)))))))))))))))))
  refine OT.call Try.call32 rfl rfl rfl rfl (bytes_Clone (hTx.row.there) (by omega)) ?_
  rintro v_9 hs_9 ⟨HB, rfl, hoB⟩
  refine OT.pures hT 1 rfl (.nil (.seq (.ret (.of (rs := [.tmp 2]) [_] (HB :: ([(b, blk [pd, .int .i64 at_, .int .i64 s.slot, .int .i64 (s.turn : Nat), .slice av s.text.length cv] 98 (0, 0))] ++ K) :: r) rfl (.tmp rfl .nil) sl ?_))))
  dsimp only [one]
  exact ⟨_, rfl, hoB⟩

end Go.Proofs.Ytoalhcodigpgkaa.Sx
