/- The pool: room is made. Printed by a program of ours off the loaded program and our notes; Lean checks it. -/
import Derived.Test.YtoalhcodigpgkaaPdD
import Derived.Test.YtoalhcodigpgkaaSxT
import Derived.Test.YtoalhcodigpgkaaCdL
import Derived.Test.YtoalhcodigpgkaaSxL
namespace Go.Proofs.Ytoalhcodigpgkaa.Sx
open Go Go.Sx Go.Pl
variable [Outer]

set_option maxHeartbeats 4000000 in
set_option maxRecDepth 100000 in
theorem buf_room {b : Nat} {pd pw v : Value} {ts : List Tr} {Kl : Chunk} {r : List Chunk} (hP : PoolAt 5 79 76 v ts Kl) {l : Log} {d : Dev} {HL HD : Chunk} (hl : IsLog 5 2 98 72 pw pd l HL) (hd : IsDev 89 65 pd d HD) {n : Nat} (hn : 1 ≤ n) (hturn : l.sup.turn + ts.length ≤ 4611686018427387904) : Fun Try.prog 33 [.pointer (some ⟨b, 0, none⟩), .int .i64 (n : Nat)] ([(b, blk [pd, pw, v] 75 (0, 0))] :: Kl :: chunk ts :: HL :: HD :: r) (fun v' hs' => ∃ v2 K2 us HL' HD', hs' = [(b, blk [pd, pw, v2] 75 (0, 0))] :: K2 :: chunk us :: HL' :: HD' :: r ∧ PoolAt 5 79 76 v2 us K2 ∧ (ptrs us).getLast? = (ptrs ts).getLast? ∧ frs us = (room n (frs ts) l d).1 ∧ v' = .int .i64 (room n (frs ts) l d).2.2.2 ∧ IsLog 5 2 98 72 pw pd (room n (frs ts) l d).2.1 HL' ∧ IsDev 89 65 pd (room n (frs ts) l d).2.2.1 HD') := by
  refine Fun.enter 51 Try.func33 rfl Try.ntmps33 rfl ?_
  refine TT.seq (.region (.pures hT 1 rfl (.nil (.seq (.seq (.block (.loop (ι := (List Tr) × Value × Chunk × Log × Dev × Chunk × Chunk) (fun j => PoolAt 5 79 76 (j.2.1) (j.1) (j.2.2.1) ∧ IsLog 5 2 98 72 pw pd (j.2.2.2.1) (j.2.2.2.2.2.1) ∧ IsDev 89 65 pd (j.2.2.2.2.1) (j.2.2.2.2.2.2) ∧ (ptrs (j.1)).getLast? = (ptrs ts).getLast? ∧ (j.2.2.2.1).sup.turn + (j.1).length ≤ 4611686018427387904 ∧ poolRoom n (ts.length - n) (frs ts) l d = poolRoom n ((j.1).length - n) (frs (j.1)) (j.2.2.2.1) (j.2.2.2.2.1)) (fun j => (j.1).length - n) (fun j => [(0, .pointer (some ⟨b, 0, none⟩)), (1, .int .i64 (n : Nat))]) (fun j => [(b, blk [pd, pw, (j.2.1)] 75 (0, 0))] :: (j.2.2.1) :: chunk (j.1) :: (j.2.2.2.2.2.1) :: (j.2.2.2.2.2.2) :: r) (ts, v, Kl, l, d, HL, HD) ?_ (SubR.cons rfl (SubR.cons rfl (SubR.nil _))) sl ?_)))))))
  · dsimp only
    exact ⟨hP, hl, hd, rfl, hturn, rfl⟩
  rintro ⟨us, v2, K2, lx, dx, HLx, HDx⟩ hI
  dsimp only at hI
  obtain ⟨hPx, hlx, hdx, hlast, htx, heq⟩ := hI
  show TT _ _ _ [(0, .pointer (some ⟨b, 0, none⟩)), (1, .int .i64 (n : Nat))] ([(b, blk [pd, pw, v2] 75 (0, 0))] :: K2 :: chunk us :: HLx :: HDx :: r)
  have hown := hPx.own
  obtain ⟨a2, c2, hv2⟩ := (hown.row (hs := r)).len
  subst hv2
  have hpl := ptrs_length us
  have hfl := frs_length us
  have hfew := hPx.few
  refine TT.seq (.seq (.region (.pures hT 3 rfl (.load rfl rfl (Ld.slc hT rfl hz rfl) rfl ?_))))
  refine OT.pures hT 3 rfl (.nil (.seq (.cond rfl (fun c13 => ?_) (fun c13 => ?_))))
  ·
    have c13 := of_decide_eq_true c13
    obtain ⟨m, hm⟩ : ∃ m, us.length - n = m + 1 := ⟨us.length - n - 1, by omega⟩
    rw [hm] at heq
    refine TT.skip (.seq (.block (.seq (.draw ([(b, blk [pd, pw, .slice a2 (ptrs us).length c2] 75 (0, 0))] :: K2 :: chunk us :: HLx :: HDx :: r) mixed (.takes (fuel := 7) hT [0, 1, 2, 4, 5, 6] kr kr rfl (.take (fuel := 6) hT 3 rfl rfl kr kr kr rfl (.load rfl (Ld.slc hT rfl hz rfl)) rfl ?_))))))
    refine AT.take (fuel := 5) hT 7 rfl rfl kr kr kr rfl (.load rfl (Ld.slc hT rfl hz rfl)) rfl ?_
    refine AT.takes (fuel := 3) hT [8, 9] kr kr rfl (.op (fuel := 2) 10 kr rfl sl (.reg 23 rfl (v := .int .i64 ((us.length - 1 : Nat) : Int)) (int_eq (by rw [wrap_i64 (by omega) (by omega)]; omega)) (.slice 0 (us.length - 1) hT rfl rfl rfl rfl rfl (hown.row.there) (.inl ⟨rfl, rfl⟩) (.inr ⟨_, rfl⟩) (by omega) (by omega) rfl (fun v_24 hv_24 => ?_))))
    refine OT.nil (.any (.op (fuel := 1) 11 kr rfl sl ?_))
    rw [List.drop_zero, ← ptrs_take] at hv_24
    refine OT.call Try.call36 rfl rfl rfl rfl (sl_IndexFr (q := (fun t : Tr => isClean t.2.1)) (N := 54) (caps := []) hv_24 (by rw [List.length_take]; omega) Try.call54 (fun t ht => by obtain ⟨bf, vb, Kb, h1, h2, h3, h4, h5⟩ := chunk_has hPx.all (List.mem_of_mem_take ht); rw [h1]; exact buf_room1 (.there (.there (.here h5))))) ?_
    rintro v_25 hs_25 ⟨rfl, rfl⟩
    have hfi : firstAt (fun t : Tr => isClean t.2.1) 0 (us.take (us.length - 1)) = firstAt isClean 0 ((frs us).take ((frs us).length - 1)) := by rw [hfl, ← frs_take]; exact (firstAt_map _ _ _ _).symm
    refine OT.nil (.any (.takes (fuel := 0) hT [12] kr kr rfl (.done kr sl (.seq (.cut (ι := Nat × (List Tr) × Log × Dev × Chunk × Chunk) (fun j => (j.1) + 1 < us.length ∧ ptrs (j.2.1) = ptrs us ∧ AllFr 5 79 (j.2.1) ∧ roomStep (frs us) lx dx = (Go.Pl.cut (frs (j.2.1)) (j.1), (j.2.2.1), (j.2.2.2.1), 0) ∧ IsLog 5 2 98 72 pw pd (j.2.2.1) (j.2.2.2.2.1) ∧ IsDev 89 65 pd (j.2.2.2.1) (j.2.2.2.2.2) ∧ (j.2.2.1).sup.turn ≤ lx.sup.turn + 1) (fun j => [(0, .pointer (some ⟨b, 0, none⟩)), (1, .int .i64 (n : Nat)), (5, .int .i64 ((j.1) : Nat))]) (fun j => [(b, blk [pd, pw, .slice a2 (ptrs us).length c2] 75 (0, 0))] :: K2 :: chunk (j.2.1) :: (j.2.2.2.2.1) :: (j.2.2.2.2.2) :: r) ?_ ?_)))))
    ·
      refine TT.seq (.region (.pures hT 2 rfl (.nil (.seq (.cond rfl (fun c27 => ?_) (fun c27 => ?_))))))
      ·
        have c27 := of_decide_eq_true c27
        obtain ⟨t, ht⟩ := nth (l := us) (i := 0) (by omega)
        have hpt := ptrs_at ht
        obtain ⟨bf, vb, Kb, hq1, hq2, hq3, hq4, hq5⟩ := chunk_has hPx.all (List.mem_of_getElem? ht)
        have hct := poolClean_turn (frs us) [0] lx dx
        refine TT.seq (.seq (.region (.pures hT 4 rfl (.load rfl rfl (Ld.slc hT rfl hz rfl) rfl ?_))))
        refine OT.index hT rfl rfl rfl rfl (hown.row.there) (by omega) hpt rfl (fun ad_33 hel_33 => ?_)
        refine OT.load rfl rfl (hel_33.ld_one hT rfl rfl) rfl ?_
        refine OT.buildSlice (enc := encV) (xs := [t.1]) (xos := [.tmp 34]) el73 rfl rfl rfl rfl (by rw [hq1]; rfl) (by rw [hq1]; simp [Value.cells]) (fun _ _ => rfl) rfl (by decide) rfl (fun v_35 H_35 ho_35 => ?_)
        refine OT.call Try.call38 rfl rfl rfl rfl (Fun.weaken (hs' := [(b, blk [pd, pw, (.slice a2 (ptrs us).length c2)] 75 (0, 0))] :: K2 :: chunk us :: HLx :: HDx :: H_35 :: r) sl (buf_clean (r := H_35 :: r) hPx hlx hdx (by omega) (ks := [0]) (by intro k hk; rw [List.mem_singleton] at hk; omega) (by simp) (by have h := ho_35.row (hs := r); have e : [t.1] = ([0].map fun k => (ptrs us).getD k (.pointer none)) := (by simp [List.getD_eq_getElem?_getD, hpt]); rw [← e]; exact h))) ?_
        rintro v_36 hs_36 ⟨us2, HL2, HD2, rfl, hpu, hau, hfu, rfl, hl2, hd2⟩
        refine OT.pures hT 1 rfl (.nil (.seq (.seq (.region (.pures hT 2 rfl (.nil (.seq (.cond rfl (fun c38 => ?_) (fun c38 => ?_)))))))))
        ·
          have c38 : (poolClean (frs us) [0] lx dx).2.2.2 ≠ 0 := by simpa using c38
          have hst : roomStep (frs us) lx dx = poolClean (frs us) [0] lx dx := by unfold roomStep; rw [← hfi, if_pos c27, if_pos c38]
          rw [poolRoom_fail (by rw [hst]; exact c38), hst] at heq
          replace heq : room n (frs ts) l d = poolClean (frs us) [0] lx dx := by unfold room; rw [frs_length]; exact heq
          rw [heq]
          refine TT.seq (.region (.pures hT 2 rfl (.nil (.seq (.ret (.of (rs := [.tmp 4]) [_] ([(b, blk [pd, pw, .slice a2 (ptrs us).length c2] 75 (0, 0))] :: K2 :: chunk us2 :: HL2 :: HD2 :: r) rfl (.tmp rfl .nil) sl ?_))))))
          dsimp only [one]
          have hul : us2.length = us.length := by rw [← ptrs_length us2, hpu, ptrs_length]
          exact ⟨_, _, _, _, _, rfl, ⟨hau, by rw [hpu]; exact hown, rfl, by omega⟩, by rw [hpu]; exact hlast, hfu, rfl, hl2, hd2⟩
        ·
          have c38 : (poolClean (frs us) [0] lx dx).2.2.2 = 0 := by simpa using c38
          have hst : roomStep (frs us) lx dx = (Go.Pl.cut (frs us2) 0, (poolClean (frs us) [0] lx dx).2.1, (poolClean (frs us) [0] lx dx).2.2.1, 0) := by unfold roomStep; rw [← hfi, if_pos c27, if_neg (by omega), hfu]
          refine TT.skip (.seq (.region (.pures hT 1 rfl (.nil (.cut (0, us2, (poolClean (frs us) [0] lx dx).2.1, (poolClean (frs us) [0] lx dx).2.2.1, HL2, HD2) ?_ (SubR.cons rfl (SubR.cons rfl (SubR.cons rfl (SubR.nil _)))) sl)))))
          · dsimp only
            exact ⟨by omega, hpu, hau, hst, hl2, hd2, hct⟩
      ·
        have c27 := of_decide_eq_false c27
        obtain ⟨k, hk, hkl⟩ := firstAt_some c27
        rw [List.length_take] at hkl
        have hst : roomStep (frs us) lx dx = (Go.Pl.cut (frs us) k, lx, dx, 0) := by unfold roomStep; rw [← hfi, if_neg c27, hk, Int.toNat_natCast]
        refine TT.skip (.cut (k, us, lx, dx, HLx, HDx) ?_ (SubR.cons rfl (SubR.cons rfl (SubR.cons' rfl (by (try dsimp only); exact (int_eq hk)) (SubR.nil _)))) sl)
        · dsimp only
          exact ⟨by omega, rfl, hPx.all, hst, hlx, hdx, by omega⟩
    ·
      rintro ⟨k, us2, ly, dy, HL2, HD2⟩ hI
      dsimp only at hI
      obtain ⟨hk1, hpu, hau, hst, hl2, hd2, ht2⟩ := hI
      show TT _ _ _ [(0, .pointer (some ⟨b, 0, none⟩)), (1, .int .i64 (n : Nat)), (5, .int .i64 (k : Nat))] ([(b, blk [pd, pw, .slice a2 (ptrs us).length c2] 75 (0, 0))] :: K2 :: chunk us2 :: HL2 :: HD2 :: r)
      have hul : us2.length = us.length := by rw [← ptrs_length us2, hpu, ptrs_length]
      obtain ⟨t, ht⟩ := nth (l := us2) (i := k) (by omega)
      obtain ⟨bf, vb, Kb, hq1, hq2, hq3, hq4, hq5⟩ := chunk_has hau (List.mem_of_getElem? ht)
      refine TT.region (.pures hT 4 rfl (.load rfl rfl (Ld.slc hT rfl hz rfl) rfl ?_))
      refine OT.pures hT 3 rfl (.reg 47 rfl (v := .int .i64 ((k + 1 : Nat) : Int)) (int_eq (by rw [wrap_i64 (by omega) (by omega)]; omega)) (.call Try.call53 rfl rfl rfl rfl (Fun.pull pl (sl_DeleteFr hown (ones_ptrs hPx.all) (by omega) (by omega) (by omega))) ?_))
      rintro v_48 hs_48 ⟨H1, rfl, ho1⟩
      have how : Own encV 1 76 v_48 (ptrs (Go.Pl.cut us2 k)) H1 := by rw [ptrs_cut, hpu]; exact ho1
      obtain ⟨a48, c48, hv48⟩ := (how.row (hs := r)).len
      subst hv48
      refine OT.pures hT 2 rfl (.store hT rfl rfl rfl rfl pl rfl (Nat.le_of_ble_eq_true rfl) rfl (.inl (Nat.le_refl _)) (cs' := [pd, pw, .slice a48 (ptrs (Go.Pl.cut us2 k)).length c48]) rfl ?_)
      refine OT.nil (.blk (.swap (chunk_get_perm ht hq4) pl ?_))
      refine KT.split ?_
      have hcl : (Go.Pl.cut us2 k).length = us.length - 1 := by rw [cut_length (by omega), hul]
      have hcl2 : (ptrs us).getLast? = (ptrs (Go.Pl.cut us2 k)).getLast? := by rw [show ptrs (Go.Pl.cut us2 k) = Go.Pl.cut (ptrs us) k by rw [← hpu]; unfold ptrs; rw [cut_map], cut_last (by omega)]
      refine KT.loop (Go.Pl.cut us2 k, .slice a48 (ptrs (Go.Pl.cut us2 k)).length c48, H1, ly, dy, HL2, HD2) ?_ ?_ (SubR.cons rfl (SubR.cons rfl (SubR.nil _))) sl
      · dsimp only
        exact ⟨⟨hau.cut k, how, rfl, by omega⟩, hl2, hd2, hcl2.symm.trans hlast, by omega, by rw [heq, poolRoom_step hst, hcl, ← frs_cut]; congr 1; omega⟩
      · dsimp only
        omega
  ·
    have c13 := of_decide_eq_false c13
    rw [show us.length - n = 0 by omega] at heq
    replace heq : room n (frs ts) l d = (frs us, lx, dx, 0) := by unfold room; rw [frs_length]; exact heq
    rw [heq]
    refine TT.exit (.seq (.loop (.here (.seq (.seq (.region (.pures hT 1 rfl (.nil (.seq (.ret (.of (rs := [.tmp 4]) [_] ([(b, blk [pd, pw, .slice a2 (ptrs us).length c2] 75 (0, 0))] :: K2 :: chunk us :: HLx :: HDx :: r) rfl (.tmp rfl .nil) sl ?_)))))))))))
    dsimp only [one]
    exact ⟨_, _, _, _, _, rfl, hPx, hlast, rfl, rfl, hlx, hdx⟩

end Go.Proofs.Ytoalhcodigpgkaa.Sx
