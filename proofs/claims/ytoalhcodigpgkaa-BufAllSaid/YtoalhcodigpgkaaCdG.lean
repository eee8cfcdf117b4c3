/- A text on two sectors: made, opened. Printed by a program of ours off the loaded program and our notes; Lean checks it. -/
import Derived.Test.YtoalhcodigpgkaaPdB
import Derived.Test.YtoalhcodigpgkaaSxT
import Derived.Test.YtoalhcodigpgkaaCdF
import Derived.Test.YtoalhcodigpgkaaSxL
namespace Go.Proofs.Ytoalhcodigpgkaa.Sx
open Go Go.Sx Go.Pl
variable [Outer]

set_option maxHeartbeats 1000000 in
set_option maxRecDepth 100000 in
theorem super_Make {p : Value} {d : Dev} {H : Chunk} {r : List Chunk} (hd : IsDev 89 65 p d H) {at_ : Int} (hat0 : 0 ≤ at_) (hat1 : at_ ≤ 1099511627776) {vb : Value} {bs : List UInt8} (hr : Row Go.Sx.encB 1 r vb bs) : Fun Try.prog 27 [p, .int .i64 at_, vb] (H :: r) (fun v' hs' => ∃ ps HS' HD', hs' = HS' :: HD' :: r ∧ v' = .tuple ⟨[ps, .int .i64 (supMake d at_ bs).2.2]⟩ ∧ optSup 5 98 p at_ (supMake d at_ bs).1 ps HS' ∧ IsDev 89 65 p (supMake d at_ bs).2.1 HD') := by
  refine Fun.enter 45 Try.func27 rfl Try.ntmps27 rfl ?_
  obtain ⟨ab, cb, hvb⟩ := hr.len
  subst hvb
  obtain ⟨bp, hpd⟩ := hd.ptr
  subst hpd
  have hmost := hd.ok.most
  have hpos := hd.ok.pos
  refine TT.seq (.region (.pures hT 2 rfl (.nil (.seq (.seq (.block (.seq (.region (.pures hT 4 rfl (.nil (.seq (.cond rfl (fun c12 => ?_) (fun c12 => ?_)))))))))))))
  ·
    have c12 := of_decide_eq_true c12
    have hm : (supMake d at_ bs) = (none, d, 1) := by unfold supMake; rw [if_pos (by omega)]
    rw [hm]
    refine TT.seq (.region (.pures hT 2 rfl (.nil (.seq (.ret (.of (rs := [.tmp 6, .tmp 7]) [_, _] ([] :: H :: r) rfl (.tmp rfl (.tmp rfl .nil)) sl ?_))))))
    dsimp only [one]
    exact ⟨_, _, _, rfl, rfl, ⟨rfl, rfl⟩, hd⟩
  ·
    have c12 := of_decide_eq_false c12
    refine TT.seq (.region (.pures hT 2 rfl (.call Try.call48 rfl rfl rfl rfl (super_there hd (by omega)) ?_)))
    rintro v_19 hs_19 ⟨rfl, rfl⟩
    refine OT.pures hT 2 rfl (.nil (.seq (.cond rfl (fun c16 => ?_) (fun c16 => ?_))))
    ·
      have c16 : ¬ (0 ≤ at_ ∧ at_ < (d.secs.length : Int) - 1) := of_decide_eq_false (by rw [Bool.not_eq_true'] at c16; exact c16)
      have hm : (supMake d at_ bs) = (none, d, 3) := by unfold supMake; rw [if_neg (by omega), if_pos c16]
      rw [hm]
      refine TT.seq (.region (.pures hT 2 rfl (.nil (.seq (.ret (.of (rs := [.tmp 6, .tmp 7]) [_, _] ([] :: H :: r) rfl (.tmp rfl (.tmp rfl .nil)) sl ?_))))))
      dsimp only [one]
      exact ⟨_, _, _, rfl, rfl, ⟨rfl, rfl⟩, hd⟩
    ·
      have c16 : 0 ≤ at_ ∧ at_ < (d.secs.length : Int) - 1 := by simpa using c16
      refine TT.skip (.blk (.seq (.seq (.seq (.region (.pures hT 1 rfl (.nil (.seq (.block (.loop (ι := Nat × Dev × Chunk) (fun j => (j.1) ≤ 2 ∧ IsDev 89 65 (.pointer (some ⟨bp, 0, none⟩)) (j.2.1) (j.2.2) ∧ d.writes at_ [noughts 64, noughts 64] = (j.2.1).writes (at_ + ((j.1) : Nat)) ([noughts 64, noughts 64].drop (j.1))) (fun j => 2 - (j.1)) (fun j => [(0, .pointer (some ⟨bp, 0, none⟩)), (1, .int .i64 at_), (2, .slice ab bs.length cb), (21, .int .i64 ((j.1) : Nat))]) (fun j => (j.2.2) :: r) (0, d, H) ?_ (SubR.cons rfl (SubR.cons rfl (SubR.cons rfl (SubR.cons rfl (SubR.nil _))))) sl ?_))))))))))
      · dsimp only
        exact ⟨by omega, hd, by simp⟩
      rintro ⟨k, d2, W⟩ hI
      dsimp only at hI
      obtain ⟨hk, hW, heq⟩ := hI
      show TT _ _ _ [(0, .pointer (some ⟨bp, 0, none⟩)), (1, .int .i64 at_), (2, .slice ab bs.length cb), (21, .int .i64 (k : Nat))] (W :: r)
      refine TT.seq (.region (.pures hT 1 rfl (.nil (.seq (.seq (.cond rfl (fun c22 => ?_) (fun c22 => ?_)))))))
      ·
        have c22 := of_decide_eq_true c22
        have hdr : [noughts 64, noughts 64].drop k = noughts 64 :: [noughts 64, noughts 64].drop (k + 1) := by
          match k, (show k < 2 by omega) with
          | 0, _ => rfl
          | 1, _ => rfl
        rw [hdr] at heq
        conv at heq => rhs; rw [Dev.writes]
        refine TT.skip (.seq (.seq (.block (.seq (.region (.pures hT 2 rfl (.nil (.seq (.seq (.region (.pures hT 4 rfl ?_)))))))))))
        refine OT.make (enc := Go.Sx.encB) (z0 := (0 : UInt8)) (n := 64) el31 Try.zeroValue5 rfl rfl rfl rfl rfl (by omega) rfl (fun v_28 H_28 ho_28 => ?_)
        refine OT.reg 27 rfl (v := .int .i64 (at_ + (k : Nat))) (int_eq (wrap_i64 (by omega) (by omega))) (.call Try.call49 rfl rfl rfl rfl (Fun.pull pl (dev_Write hW ho_28.row)) ?_)
        rintro v_29 hs_29 ⟨W2, rfl, rfl, hW2⟩
        refine OT.pures hT 1 rfl (.nil (.seq (.seq (.region (.pures hT 2 rfl (.nil (.seq (.cond rfl (fun c31 => ?_) (fun c31 => ?_)))))))))
        ·
          have c31 : (d2.write (at_ + (k : Nat)) (noughts 64)).2 ≠ 0 := by simpa [noughts] using c31
          rw [if_pos c31] at heq
          have hm : (supMake d at_ bs) = (none, (d.writes at_ [noughts 64, noughts 64]).1, (d.writes at_ [noughts 64, noughts 64]).2) := by unfold supMake; rw [if_neg (by omega), if_neg (by simpa using c16), if_pos (by rw [heq]; exact c31)]
          rw [hm, heq]
          refine TT.seq (.region (.pures hT 3 rfl (.nil (.seq (.ret (.of (rs := [.tmp 6, .tmp 7]) [_, _] ([] :: W2 :: r) rfl (.tmp rfl (.tmp rfl .nil)) sl ?_))))))
          dsimp only [one]
          exact ⟨_, _, _, rfl, rfl, ⟨rfl, rfl⟩, hW2⟩
        ·
          have c31 : (d2.write (at_ + (k : Nat)) (noughts 64)).2 = 0 := by simpa [noughts] using c31
          rw [if_neg (by omega)] at heq
          refine TT.skip (.blk (.seq (.region (.pures hT 2 rfl (.nil (.loop (k + 1, (d2.write (at_ + (k : Nat)) (noughts 64)).1, W2) ?_ ?_ (SubR.cons rfl (SubR.cons rfl (SubR.cons rfl (SubR.cons' rfl (by (try dsimp only); exact (int_eq (by rw [wrap_i64 (by omega) (by omega)]; omega))) (SubR.nil _))))) sl))))))
          · dsimp only
            exact ⟨by omega, hW2, by rw [heq]; congr 1; omega⟩
          · dsimp only
            omega
      ·
        have c22 := of_decide_eq_false c22
        obtain rfl : k = 2 := by omega
        replace heq : d.writes at_ [noughts 64, noughts 64] = (d2, 0) := heq
        refine TT.exit (.seq (.loop (.here (.seq (.seq (.region (.pures hT 2 rfl (.build hT rfl Try.zeroValue98 rfl rfl rfl rfl (.box rfl rfl rfl (fun b_37 => ?_))))))))))
        refine OT.pures hT 1 rfl (.nil (.seq (.seq (.seq (.region (.pures hT 2 rfl (.call Try.call50 rfl rfl rfl rfl (super_write (s := ⟨0, 0, []⟩) (n := 1) (HS := [(b_37, blk [.pointer (some ⟨bp, 0, none⟩), .int .i64 at_, .int .i64 0, .int .i64 0, .slice none 0 0] 98 (0, 0))]) ⟨by dsimp only; omega, by simp, ⟨b_37, .slice none 0 0, [], rfl, Own.nil, rfl, rfl⟩⟩ hW hat0 hat1 (by omega) (by omega) hr (by omega)) ?_)))))))
        rintro v_40 hs_40 ⟨HS1, HD1, rfl, rfl, hS1, hd1⟩
        refine OT.pures hT 1 rfl (.nil (.seq (.seq (.region (.pures hT 2 rfl (.nil (.seq (.cond rfl (fun c42 => ?_) (fun c42 => ?_)))))))))
        ·
          have c42 : (supWrite ⟨0, 0, []⟩ d2 at_ 0 1 bs).2.2 ≠ 0 := by simpa using c42
          have hm : (supMake d at_ bs) = (none, (supWrite ⟨0, 0, []⟩ d2 at_ 0 1 bs).2.1, (supWrite ⟨0, 0, []⟩ d2 at_ 0 1 bs).2.2) := by unfold supMake; rw [if_neg (by omega), if_neg (by simpa using c16), heq]; dsimp only; rw [if_neg (by simp), if_pos c42]
          rw [hm]
          refine TT.seq (.region (.pures hT 3 rfl (.nil (.seq (.ret (.of (rs := [.tmp 6, .tmp 7]) [_, _] ([] :: HD1 :: r) rfl (.tmp rfl (.tmp rfl .nil)) sl ?_))))))
          dsimp only [one]
          exact ⟨_, _, _, rfl, rfl, ⟨rfl, rfl⟩, hd1⟩
        ·
          have c42 : (supWrite ⟨0, 0, []⟩ d2 at_ 0 1 bs).2.2 = 0 := by simpa using c42
          have hm : (supMake d at_ bs) = (some (supWrite ⟨0, 0, []⟩ d2 at_ 0 1 bs).1, (supWrite ⟨0, 0, []⟩ d2 at_ 0 1 bs).2.1, 0) := by unfold supMake; rw [if_neg (by omega), if_neg (by simpa using c16), heq]; dsimp only; rw [if_neg (by simp), if_neg (by omega)]
          rw [hm]
          refine TT.skip (.seq (.seq (.region (.pures hT 3 rfl (.nil (.seq (.ret (.of (rs := [.tmp 6, .tmp 7]) [_, _] (HS1 :: HD1 :: r) rfl (.tmp rfl (.tmp rfl .nil)) sl ?_))))))))
          dsimp only [one]
          exact ⟨_, _, _, rfl, rfl, hS1, hd1⟩

set_option maxHeartbeats 2000000 in
set_option maxRecDepth 100000 in
theorem super_Open {p : Value} {d : Dev} {H : Chunk} {r : List Chunk} (hd : IsDev 89 65 p d H) {at_ : Int} (hat0 : 0 ≤ at_) (hat1 : at_ ≤ 1099511627776) : Fun Try.prog 41 [p, .int .i64 at_] (H :: r) (fun v' hs' => ∃ ps HS', hs' = HS' :: H :: r ∧ v' = .tuple ⟨[ps, .int .i64 (supOpen d at_).2]⟩ ∧ optSup 5 98 p at_ (supOpen d at_).1 ps HS') := by
  refine Fun.enter 84 Try.func41 rfl Try.ntmps41 rfl ?_
  obtain ⟨bp, hpd⟩ := hd.ptr
  subst hpd
  have hmost := hd.ok.most
  have hpos := hd.ok.pos
  refine TT.seq (.region (.pures hT 2 rfl (.nil (.seq (.seq (.seq (.region (.pures hT 2 rfl (.call Try.call48 rfl rfl rfl rfl (super_there hd (by omega)) ?_)))))))))
  rintro v_13 hs_13 ⟨rfl, rfl⟩
  refine OT.pures hT 1 rfl (.nil (.seq (.cond rfl (fun c14 => ?_) (fun c14 => ?_))))
  ·
    have c14 : ¬ (0 ≤ at_ ∧ at_ < (d.secs.length : Int) - 1) := of_decide_eq_false (by rw [Bool.not_eq_true'] at c14; exact c14)
    have hm : (supOpen d at_) = (none, 3) := by unfold supOpen; rw [if_pos c14]
    rw [hm]
    refine TT.seq (.region (.pures hT 2 rfl (.nil (.seq (.ret (.of (rs := [.tmp 4, .tmp 5]) [_, _] ([] :: H :: r) rfl (.tmp rfl (.tmp rfl .nil)) sl ?_))))))
    dsimp only [one]
    exact ⟨_, _, rfl, rfl, ⟨rfl, rfl⟩⟩
  ·
    have c14 : 0 ≤ at_ ∧ at_ < (d.secs.length : Int) - 1 := by simpa using c14
    refine TT.skip (.seq (.seq (.region (.pures hT 2 rfl (.build hT rfl Try.zeroValue98 rfl rfl rfl rfl (.box rfl rfl rfl (fun b_18 => ?_)))))))
    refine OT.pures hT 1 rfl (.nil (.seq (.seq (.seq (.region (.pures hT 1 rfl (.nil (.seq (.block (.chunk0 (.loop (ι := Nat × Value × Chunk) (fun j => (j.1) ≤ 2 ∧ oneC (j.2.1) = true ∧ Own Go.Sx.encB 1 5 (j.2.1) (supTo d at_ (j.1)).text (j.2.2)) (fun j => 2 - (j.1)) (fun j => [(0, .pointer (some ⟨bp, 0, none⟩)), (1, .int .i64 at_), (6, .pointer (some ⟨b_18, 0, none⟩)), (19, .int .i64 ((j.1) : Nat))]) (fun j => [(b_18, blk [.pointer (some ⟨bp, 0, none⟩), .int .i64 at_, .int .i64 (supTo d at_ (j.1)).slot, .int .i64 ((supTo d at_ (j.1)).turn : Nat), (j.2.1)] 98 (0, 0))] :: (j.2.2) :: H :: r) (0, .slice none 0 0, []) ?_ (SubR.cons rfl (SubR.cons rfl (SubR.cons rfl (SubR.cons rfl (SubR.nil _))))) sl ?_)))))))))))
    · dsimp only
      exact ⟨by omega, rfl, Own.nil⟩
    rintro ⟨k, v, K⟩ hI
    dsimp only at hI
    obtain ⟨hk, hone, hO⟩ := hI
    show TT _ _ _ [(0, .pointer (some ⟨bp, 0, none⟩)), (1, .int .i64 at_), (6, .pointer (some ⟨b_18, 0, none⟩)), (19, .int .i64 (k : Nat))] ([(b_18, blk [.pointer (some ⟨bp, 0, none⟩), .int .i64 at_, .int .i64 (supTo d at_ k).slot, .int .i64 ((supTo d at_ k).turn : Nat), v] 98 (0, 0))] :: K :: H :: r)
    refine TT.seq (.region (.pures hT 1 rfl (.nil (.seq (.seq (.cond rfl (fun c20 => ?_) (fun c20 => ?_)))))))
    ·
      have c20 := of_decide_eq_true c20
      have hin : d.in (at_ + (k : Nat)) := by unfold Dev.in; omega
      have hrd : d.read (at_ + (k : Nat)) = ((d.sec (at_ + (k : Nat))).now, 0) := by unfold Dev.read; rw [if_pos hin]
      have hx := (Dev.sec_ok hd.ok hin).1
      have hok := supTo_ok d at_ hk
      refine TT.skip (.seq (.seq (.block (.seq (.region (.pures hT 2 rfl (.nil (.seq (.seq (.region (.pures hT 4 rfl (.reg 26 rfl (v := .int .i64 (at_ + (k : Nat))) (int_eq (wrap_i64 (by omega) (by omega))) (.call Try.call47 rfl rfl rfl rfl (Fun.pull pl (dev_Read hd)) ?_)))))))))))))
      rintro v_27 hs_27 ⟨w1, H1, rfl, rfl, ho1⟩
      rw [hrd] at ho1 ⊢
      dsimp only at ho1 ⊢
      obtain ⟨eb, eo, ec, _, _, hva, _, _, _, _, hec, _⟩ := ho1.over (by omega)
      rw [hx] at hva hec
      subst hva
      refine OT.pures hT 5 rfl (.nil (.seq (.seq (.seq (.region (.pures hT 2 rfl (.nil (.seq (.cond rfl (fun c31 => ?_) (fun c31 => ?_))))))))))
      ·
        exact absurd c31 (by decide)
      ·
        refine TT.skip (.seq (.seq (.region (.pures hT 1 rfl (.slice_own 4 12 hT rfl rfl rfl rfl rfl (.inr ⟨_, rfl⟩) (.inr ⟨_, rfl⟩) (by omega) (by omega) (by omega) rfl (.call Try.call61 rfl rfl rfl rfl (super_get (bs := (((d.sec (at_ + (k : Nat))).now).take 12).drop 4) (by have h := ho1.sub_row (hs := H :: [(b_18, blk [.pointer (some ⟨bp, 0, none⟩), .int .i64 at_, .int .i64 (supTo d at_ k).slot, .int .i64 ((supTo d at_ k).turn : Nat), v] 98 (0, 0))] :: K :: r) (L := 4) (M := 12) (by omega) (by omega) (by omega); exact h) (by rw [List.length_drop, List.length_take]; omega)) ?_))))))
        rintro v_35 hs_35 ⟨rfl, rfl⟩
        refine OT.pures hT 2 rfl (.nil (.seq (.seq (.draw (H1 :: H :: [(b_18, blk [.pointer (some ⟨bp, 0, none⟩), .int .i64 at_, .int .i64 (supTo d at_ k).slot, .int .i64 ((supTo d at_ k).turn : Nat), v] 98 (0, 0))] :: K :: r) mixed (.takes (fuel := 20) hT [0, 4] kr kr rfl (.take (fuel := 19) hT 1 rfl rfl kr kr kr rfl (Fl.slice 4 64 hT rfl rfl rfl rfl (.inr ⟨_, rfl⟩) (.inl ⟨rfl, rfl⟩) (by omega) (by omega) (by omega)) rfl (.take (fuel := 18) hT 5 rfl rfl kr kr kr rfl (Fl.slice 0 4 hT rfl rfl rfl rfl (.inl ⟨rfl, rfl⟩) (.inr ⟨_, rfl⟩) (by omega) (by omega) (by omega)) rfl (.op (fuel := 17) 2 kr rfl sl (.call Try.call62 rfl rfl rfl rfl (crc_Sum (bs := ((d.sec (at_ + (k : Nat))).now).drop 4) (by have h := ho1.sub_row (hs := H :: [(b_18, blk [.pointer (some ⟨bp, 0, none⟩), .int .i64 at_, .int .i64 (supTo d at_ k).slot, .int .i64 ((supTo d at_ k).turn : Nat), v] 98 (0, 0))] :: K :: r) (L := 4) (M := 64) (by omega) (by omega) (by omega); rw [List.take_of_length_le (by omega)] at h; exact h) (by rw [List.length_drop]; omega)) ?_)))))))))
        rintro v_39 hs_39 ⟨rfl, rfl⟩
        have hcr := crcSum_range (((d.sec (at_ + (k : Nat))).now).drop 4)
        refine OT.nil (.any (.takes (fuel := 16) hT [3] kr kr rfl (.op (fuel := 15) 6 kr rfl sl (.call Try.call61 rfl rfl rfl rfl (super_get (bs := ((d.sec (at_ + (k : Nat))).now).take 4) (by have h := ho1.sub_row (hs := H :: [(b_18, blk [.pointer (some ⟨bp, 0, none⟩), .int .i64 at_, .int .i64 (supTo d at_ k).slot, .int .i64 ((supTo d at_ k).turn : Nat), v] 98 (0, 0))] :: K :: r) (L := 0) (M := 4) (by omega) (by omega) (by omega); rw [List.drop_zero] at h; exact h) (by rw [List.length_take]; omega)) ?_))))
        rintro v_43 hs_43 ⟨rfl, rfl⟩
        refine OT.nil (.any (.takes (fuel := 13) hT [7, 8] kr kr rfl (.split 45 rfl (fun g45 => ?_) (fun g45 => ?_))))
        ·
          have g45 : crcSum (((d.sec (at_ + (k : Nat))).now).drop 4) = (fromBe (((d.sec (at_ + (k : Nat))).now).take 4) : Nat) := by have g := eq_of_beq g45; rw [wrap_u64 (by omega) (by omega)] at g; exact g
          refine AT.takes (fuel := 9) hT [9, 10, 11, 12] kr kr rfl (.take (fuel := 8) hT 13 rfl rfl kr kr kr rfl (.load rfl (Ld.one hT rfl hz rfl)) rfl ?_)
          refine AT.takes (fuel := 5) hT [14, 15, 16] kr kr rfl (.split 53 rfl (fun g53 => ?_) (fun g53 => ?_))
          ·
            have g53 : secTurn (d.sec (at_ + (k : Nat))).now > ((supTo d at_ k).turn : Int) := of_decide_eq_true g53
            have hx12 : ((d.sec (at_ + (k : Nat))).now)[12]? = some (((d.sec (at_ + (k : Nat))).now).getD 12 0) := by rw [List.getD_eq_getElem?_getD, List.getElem?_eq_getElem (by omega)]; rfl
            refine AT.takes (fuel := 4) hT [17] kr kr rfl (.index (fuel := 3) hT 18 rfl kr kr kr rfl rfl rfl rfl ho1.row (by omega) hx12 rfl (fun ad_55 hel_55 => ?_))
            refine AT.take (fuel := 2) hT 19 rfl rfl kr kr kr rfl (.load rfl (hel_55.ld_one hT rfl rfl)) rfl (.takes (fuel := 0) hT [20, 21] kr kr rfl (.done kr sl (.seq (.cond rfl (fun c58 => ?_) (fun c58 => ?_)))))
            ·
              have c58 := of_decide_eq_true c58
              have hst : supTo d at_ (k + 1) = ⟨k, (secTurn (d.sec (at_ + (k : Nat))).now).toNat, secText (d.sec (at_ + (k : Nat))).now⟩ := by show supStep _ _ _ = _; unfold supStep; rw [if_pos ⟨g45, g53, by omega⟩]
              refine TT.region (.pures hT 7 rfl (.index hT rfl rfl rfl rfl ho1.row (by omega) hx12 rfl (fun ad_66 hel_66 => ?_)))
              refine OT.load rfl rfl (hel_66.ld_one hT rfl rfl) rfl (.pures hT 1 rfl (.reg 68 rfl (v := .int .u8 ((13 + (((d.sec (at_ + (k : Nat))).now).getD 12 0).toNat : Nat) : Int)) (int_eq (by rw [IntKind.wrap_u8]; omega)) (.slice_own 13 (13 + (((d.sec (at_ + (k : Nat))).now).getD 12 0).toNat) hT rfl rfl rfl rfl rfl (.inr ⟨_, rfl⟩) (.inr ⟨_, rfl⟩) (by omega) (by omega) (by omega) rfl (.call Try.call32 rfl rfl rfl rfl (bytes_Clone (xs := secText (d.sec (at_ + (k : Nat))).now) (by have h := ho1.sub_row (hs := H :: [(b_18, blk [.pointer (some ⟨bp, 0, none⟩), .int .i64 at_, .int .i64 (supTo d at_ k).slot, .int .i64 ((supTo d at_ k).turn : Nat), v] 98 (0, 0))] :: K :: r) (L := 13) (M := 13 + (((d.sec (at_ + (k : Nat))).now).getD 12 0).toNat) (by omega) (by omega) (by omega); exact h) (by have := secText_length (x := (d.sec (at_ + (k : Nat))).now) (by omega); omega)) ?_))))
              rintro v_70 hs_70 ⟨HB, rfl, hoB⟩
              obtain ⟨a70, c70, hv70⟩ := (hoB.row (hs := r)).len
              subst hv70
              refine OT.reg 63 rfl (v := .int .i64 ((secTurn (d.sec (at_ + (k : Nat))).now).toNat : Nat)) (int_eq (by show secTurn _ = _; omega)) ?_
              refine OT.pures hT 2 rfl (.store hT rfl rfl rfl rfl pl rfl (Nat.le_of_ble_eq_true rfl) rfl (.inl (Nat.le_refl _)) (cs' := [.pointer (some ⟨bp, 0, none⟩), .int .i64 at_, .int .i64 (k : Nat), .int .i64 ((supTo d at_ k).turn : Nat), v]) rfl ?_)
              refine OT.pures hT 2 rfl (.store hT rfl rfl rfl rfl pl rfl (Nat.le_of_ble_eq_true rfl) rfl (.inl (Nat.le_refl _)) (cs' := [.pointer (some ⟨bp, 0, none⟩), .int .i64 at_, .int .i64 (k : Nat), .int .i64 ((secTurn (d.sec (at_ + (k : Nat))).now).toNat : Nat), v]) rfl ?_)
              refine OT.pures hT 2 rfl (.store hT rfl rfl rfl rfl pl rfl (Nat.le_of_ble_eq_true rfl) rfl (.inl (Nat.le_refl _)) (cs' := [.pointer (some ⟨bp, 0, none⟩), .int .i64 at_, .int .i64 (k : Nat), .int .i64 ((secTurn (d.sec (at_ + (k : Nat))).now).toNat : Nat), .slice a70 (secText (d.sec (at_ + (k : Nat))).now).length c70]) rfl ?_)
              refine OT.nil (.blk (.seq (.region (.pures hT 2 rfl (.nil (.loop (k + 1, .slice a70 (secText (d.sec (at_ + (k : Nat))).now).length c70, HB) ?_ ?_ (SubR.cons rfl (SubR.cons rfl (SubR.cons rfl (SubR.cons' rfl (by (try dsimp only); exact (int_eq (by rw [wrap_i64 (by omega) (by omega)]; omega))) (SubR.nil _))))) (by dsimp only; rw [hst]; exact sl)))))))
              · dsimp only
                exact ⟨by omega, rfl, by rw [hst]; exact hoB⟩
              · dsimp only
                omega
            ·
              have c58 := of_decide_eq_false c58
              have hst : supTo d at_ (k + 1) = supTo d at_ k := by show supStep _ _ _ = _; unfold supStep; rw [if_neg (by intro h; exact c58 (by have := h.2.2; omega))]
              refine TT.skip (.blk (.seq (.region (.pures hT 2 rfl (.nil (.loop (k + 1, v, K) ?_ ?_ (SubR.cons rfl (SubR.cons rfl (SubR.cons rfl (SubR.cons' rfl (by (try dsimp only); exact (int_eq (by rw [wrap_i64 (by omega) (by omega)]; omega))) (SubR.nil _))))) (by dsimp only; rw [hst]; exact sl)))))))
              · dsimp only
                exact ⟨by omega, hone, by rw [hst]; exact hO⟩
              · dsimp only
                omega
          ·
            have g53 : ¬ secTurn (d.sec (at_ + (k : Nat))).now > ((supTo d at_ k).turn : Int) := of_decide_eq_false g53
            have hst : supTo d at_ (k + 1) = supTo d at_ k := by show supStep _ _ _ = _; unfold supStep; rw [if_neg (by intro h; exact g53 h.2.1)]
            refine AT.takes (fuel := 0) hT [17, 18, 19, 20, 21] kr kr rfl (.done kr sl (.seq (.cond_false rfl (.skip (.blk (.seq (.region (.pures hT 2 rfl (.nil (.loop (k + 1, v, K) ?_ ?_ (SubR.cons rfl (SubR.cons rfl (SubR.cons rfl (SubR.cons' rfl (by (try dsimp only); exact (int_eq (by rw [wrap_i64 (by omega) (by omega)]; omega))) (SubR.nil _))))) (by dsimp only; rw [hst]; exact sl)))))))))))
            · dsimp only
              exact ⟨by omega, hone, by rw [hst]; exact hO⟩
            · dsimp only
              omega
        ·
          have g45 : ¬ crcSum (((d.sec (at_ + (k : Nat))).now).drop 4) = (fromBe (((d.sec (at_ + (k : Nat))).now).take 4) : Nat) := by intro h; have g := ne_of_beq_false g45; rw [wrap_u64 (by omega) (by omega)] at g; exact g h
          have hst : supTo d at_ (k + 1) = supTo d at_ k := by show supStep _ _ _ = _; unfold supStep; rw [if_neg (by intro h; exact g45 h.1)]
          refine AT.takes (fuel := 0) hT [9, 10, 11, 12, 13, 14, 15, 16, 17, 18, 19, 20, 21] kr kr rfl (.done kr sl (.seq (.cond_false rfl (.skip (.blk (.seq (.region (.pures hT 2 rfl (.nil (.loop (k + 1, v, K) ?_ ?_ (SubR.cons rfl (SubR.cons rfl (SubR.cons rfl (SubR.cons' rfl (by (try dsimp only); exact (int_eq (by rw [wrap_i64 (by omega) (by omega)]; omega))) (SubR.nil _))))) (by dsimp only; rw [hst]; exact sl)))))))))))
          · dsimp only
            exact ⟨by omega, hone, by rw [hst]; exact hO⟩
          · dsimp only
            omega
    ·
      have c20 := of_decide_eq_false c20
      obtain rfl : k = 2 := by omega
      have hok := supTo_ok d at_ hk
      refine TT.exit (.seq (.loop (.here (.seq (.seq (.seq (.region (.pures hT 3 rfl (.load rfl rfl (Ld.one hT rfl hz rfl) rfl ?_)))))))))
      refine OT.pures hT 1 rfl (.nil (.seq (.cond rfl (fun c82 => ?_) (fun c82 => ?_))))
      ·
        have c82 : (supTo d at_ 2).turn = 0 := by have := eq_of_beq c82; omega
        have hm : (supOpen d at_) = (none, 8) := by unfold supOpen; rw [if_neg (by simpa using c14), if_pos c82]
        rw [hm]
        refine TT.seq (.region (.pures hT 2 rfl (.nil (.seq (.ret (.of (rs := [.tmp 4, .tmp 5]) [_, _] ([] :: H :: r) rfl (.tmp rfl (.tmp rfl .nil)) sl ?_))))))
        dsimp only [one]
        exact ⟨_, _, rfl, rfl, ⟨rfl, rfl⟩⟩
      ·
        have c82 : ¬ (supTo d at_ 2).turn = 0 := by have := ne_of_beq_false c82; omega
        have hm : (supOpen d at_) = (some (supTo d at_ 2), 0) := by unfold supOpen; rw [if_neg (by simpa using c14), if_neg c82]
        rw [hm]
        refine TT.skip (.seq (.seq (.region (.pures hT 3 rfl (.nil (.seq (.ret (.of (rs := [.tmp 4, .tmp 5]) [_, _] (([(b_18, blk [.pointer (some ⟨bp, 0, none⟩), .int .i64 at_, .int .i64 (supTo d at_ 2).slot, .int .i64 ((supTo d at_ 2).turn : Nat), v] 98 (0, 0))] ++ K) :: H :: r) rfl (.tmp rfl (.tmp rfl .nil)) sl ?_))))))))
        dsimp only [one]
        exact ⟨_, _, rfl, rfl, ⟨hok.1, by have := hok.2.1; omega, ⟨b_18, v, K, rfl, hO, hone, rfl⟩⟩⟩

end Go.Proofs.Ytoalhcodigpgkaa.Sx
