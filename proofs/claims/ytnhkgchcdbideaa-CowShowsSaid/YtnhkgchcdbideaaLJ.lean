/- Several texts in one. CowBack: gone back to, all pages are as the snapshot shows them. Printed by a program of ours off the loaded program and our notes; Lean checks it. CowRoom: when the side pages are at their end just the snapshots that lack the page are Invalid. Printed by a program of ours off the loaded program and our notes; Lean checks it. CowShows: what a snapshot shows stays, whatever pages are changed. Printed by a program of ours off the loaded program and our notes; Lean checks it. -/
import Derived.Test.YtnhkgchcdbideaaLI
import Derived.Test.YtnhkgchcdbideaaLD
import Derived.Test.YtnhkgchcdbideaaLB

section
namespace Go.Proofs.Ytnhkgchcdbideaa.Sx
open Go Go.Sx Go.Pl
variable [Outer]

set_option maxHeartbeats 8000000 in
set_option maxRecDepth 100000 in
theorem law_CowBack {v : Value} {nos : List Int} {which : Int} {hs : List Chunk} (hv : Row Go.Sx.encI 1 hs v nos) (hvl : nos.length ≤ 9223372036854775807) (hrn : ∀ z ∈ nos, -9223372036854775808 ≤ z ∧ z ≤ 9223372036854775807) (hr : -9223372036854775808 ≤ which ∧ which ≤ 9223372036854775807) (hbegun : ∀ hs, Fun Try.prog 10 [] hs fun v' hs' => v' = .bool true ∧ hs = hs') : Fun Try.prog 5 [v, .int .i64 which] hs (fun v' hs' => v' = .bool true ∧ hs = hs') := by
  refine Fun.enter 210 Try.func5 rfl Try.ntmps5 rfl ?_
  obtain ⟨an, cn, hvn⟩ := hv.len
  subst hvn
  refine TT.seq (.region (.pures hT 1 rfl (.nil (.seq (.seq (.region (.call Try.call10 rfl rfl rfl rfl (hbegun _) ?_)))))))
  rintro v_27 hs_27 ⟨rfl, rfl⟩
  refine OT.pures hT 1 rfl (.nil (.seq (.seq (.seq (.region (.pures hT 2 rfl (.nil (.seq (.cond_false rfl (.skip (.seq (.seq (.region (.build (cs := bkCells (List.replicate 96 (.slice none 0 0))) hT rfl Try.zeroValue28 rfl rfl kr rfl (.box rfl rfl rfl (fun b_31 => ?_))))))))))))))))
  refine OT.pures hT 1 rfl (.nil (.seq (.seq (.draw (hs) mixed (.takes (fuel := 4) hT [0, 3, 4] kr kr rfl (.op (fuel := 3) 1 kr rfl sl ?_))))))
  have hB0 : BkAt 28 b_31 (fun _ => noughts 256) [(b_31, blk (bkCells (List.replicate 96 (.slice none 0 0))) 28 (0, 0))] := BkAt.one (Slots.zero [[]])
  show OT _ _ _ _ _ ([(b_31, blk (bkCells (List.replicate 96 (.slice none 0 0))) 28 (0, 0))] :: hs)
  generalize ([(b_31, blk (bkCells (List.replicate 96 (.slice none 0 0))) 28 (0, 0))] : Chunk) = HB at hB0 ⊢
  refine OT.buildSlice (enc := Go.Sx.encB) (xs := ([252, 255, 255, 255] : List UInt8)) (xos := [.const (.int .u8 (252)), .const (.int .u8 (255)), .const (.int .u8 (255)), .const (.int .u8 (255))]) el22 rfl rfl rfl rfl rfl (by simp [Value.cells]) (fun _ _ => rfl) rfl (by decide) rfl (fun v_33 H_33 ho_33 => ?_)
  refine OT.nil (.any (.op (fuel := 2) 2 kr rfl sl (.call Try.call21 rfl rfl rfl rfl (law9_Of ro (by simp)) ?_)))
  rintro v_34 hs_34 ⟨K34, rfl, ho34⟩
  refine OT.nil (.any (.index_at (fuel := 1) hT 5 rfl kr kr kr rfl rfl rfl rfl (by omega) (by decide) rfl (.op (fuel := 0) 6 kr rfl sl (.bk_store (no := 1) hT rfl rfl rfl rfl pl hB0 pl ho34 pAll_len rfl (by decide) (fun H_x hb_x ht_x => ?_)))))
  refine OT.nil (.any (.done kr sl (.seq (.seq (.region (.pures hT 5 rfl (.nil (.seq (.seq (.region ?_))))))))))
  obtain ⟨q, hq3, hq⟩ := mod_is 3 (by decide) (by decide) hr
  refine OT.reg 1 rfl (v := .int .i64 (q : Nat)) (int_eq hq) (.alloc Try.zeroValue62 rfl rfl (fun b_7 => ?_))
  refine OT.nil (.seq (.seq (.region (.alloc Try.zeroValue61 rfl rfl (fun b_8 => ?_)))))
  refine OT.nil (.seq (.seq (.region ?_)))
  show OT _ _ _ _ _ ([(b_8, blk ((List.replicate 32 (0 : UInt8)).flatMap Go.Sx.encB) 61 (0, 0))] :: [(b_7, blk ((List.replicate 96 (0 : UInt8)).flatMap Go.Sx.encB) 62 (0, 0))] :: H_x :: _ :: hs)
  refine OT.index_at hT rfl rfl rfl rfl (by omega) (by decide) rfl (.store hT rfl rfl rfl rfl pl rfl (by show _ ≤ ((List.replicate 32 (0 : UInt8)).flatMap Go.Sx.encB).length; rw [bytes_len, List.length_replicate]; decide) rfl (.inl (Nat.le_refl _)) (bytes_set (i := 1) (by rw [List.length_replicate]; decide) 252 rfl) ?_)
  refine OT.nil (.seq (.seq (.seq (.region (.pures hT 1 rfl (.nil (.seq (.block (.loop (ι := Nat × Pages × (List Snap) × (List Pages) × (List UInt8) × (List UInt8) × (List Int) × Chunk) (fun j => (j.1) ≤ 3 ∧ (j.2.2.2.2.2.2.1).length ≤ 4 * (j.1) ∧ WB (j.2.2.2.1) (j.2.2.2.2.1) ∧ (∀ w ∈ (j.2.2.2.1), w 1 = pAll) ∧ BkAt 28 b_31 (j.2.1) (j.2.2.2.2.2.2.2) ∧ Keeps (j.2.1) ((j.1) : Nat) (j.2.2.1) (j.2.2.2.1) ∧ Named (j.2.2.1) ∧ Kept (j.2.2.2.2.2.2.1) (j.2.2.1) ∧ (j.2.2.1).length = (j.1) ∧ (j.2.1) 1 = pAll ∧ NB (j.2.1) (j.2.2.2.2.2.1)) (fun j => 3 - (j.1)) (fun j => [(0, .slice an nos.length cn), (1, .int .i64 (q : Nat)), (6, .pointer (some ⟨b_31, 0, none⟩)), (7, .pointer (some ⟨b_7, 0, none⟩)), (8, .pointer (some ⟨b_8, 0, none⟩)), (9, .int .i64 ((j.1) : Nat))]) (fun j => [(b_8, blk ((j.2.2.2.2.2.1).flatMap Go.Sx.encB) 61 (0, 0))] :: [(b_7, blk ((j.2.2.2.2.1).flatMap Go.Sx.encB) 62 (0, 0))] :: (j.2.2.2.2.2.2.2) :: hs) (0, upd (fun _ => noughts 256) ((1 : Nat) : Int) pAll, [], [], List.replicate 96 0, (List.replicate 32 (0 : UInt8)).set 1 252, [], H_x) ?_ (SubR.cons rfl (SubR.cons rfl (SubR.cons rfl (SubR.cons rfl (SubR.cons rfl (SubR.cons rfl (SubR.nil _))))))) sl ?_)))))))))
  · dsimp only
    exact ⟨by omega, Nat.le_refl _, ⟨List.length_replicate, fun k w h => by cases h⟩, (fun w h => by cases h), hb_x, Keeps.none hb_x.long rfl, (fun k s h => by cases h), (fun s h => by cases h), rfl, if_pos rfl, pAll_nb⟩
  rintro ⟨i, Q, xs, ws, wb, nb, D, H1⟩ hI
  dsimp only at hI
  obtain ⟨hi, hdl, hwb, hw1, hB, hK, hN, hD, hxl, hq1, hnb⟩ := hI
  show TT _ _ _ [(0, .slice an nos.length cn), (1, .int .i64 (q : Nat)), (6, .pointer (some ⟨b_31, 0, none⟩)), (7, .pointer (some ⟨b_7, 0, none⟩)), (8, .pointer (some ⟨b_8, 0, none⟩)), (9, .int .i64 (i : Nat))] ([(b_8, blk (nb.flatMap Go.Sx.encB) 61 (0, 0))] :: [(b_7, blk (wb.flatMap Go.Sx.encB) 62 (0, 0))] :: H1 :: hs)
  refine TT.seq (.seq (.region (.pures hT 2 rfl (.nil (.seq (.cond rfl (fun c44 => ?_) (fun c44 => ?_)))))))
  ·
    have c44 := of_decide_eq_true c44
    obtain ⟨hadd, hgo, hN1⟩ := hN.add hK.st.good (by rw [hxl]) (by omega)
    rw [hxl] at hadd hgo hN1
    have hK1 := hK.snap hgo
    have hwsl : ws.length = i := hK.len.trans hxl
    have hwb2 : WB (ws ++ [Q]) (over wb (i * 32) nb) := by have := hwb.snoc hnb (by omega); rwa [hwsl] at this
    have hw12 : (∀ w ∈ ws ++ [Q], w 1 = pAll) := fun w hw => by
      rcases List.mem_append.1 hw with hw | hw
      · exact hw1 w hw
      · rw [List.mem_singleton] at hw; subst hw; exact hq1
    refine TT.skip (.seq (.seq (.block (.seq (.region (.pures hT 1 rfl (.load rfl rfl (Ld.arr_all hT rfl hz (by show (nb.flatMap Go.Sx.encB).length = 32 * 1; rw [bytes_len, hnb.1])) rfl ?_)))))))
    refine OT.index_at hT rfl rfl rfl rfl (by omega) (by omega) rfl (.store hT rfl rfl rfl rfl pl (by show (nb.flatMap Go.Sx.encB).length = 32 * 1; rw [bytes_len, hnb.1]) (by show _ ≤ (wb.flatMap Go.Sx.encB).length; rw [bytes_len, hwb.1]; show _ + 32 * 1 ≤ 96; omega) (by exact ones_bytes nb) (.inl (Nat.le_refl _)) ((congrArg (fun o => splice (wb.flatMap Go.Sx.encB) o (nb.flatMap Go.Sx.encB)) (show 0 + ((i : Nat) : Int).toNat * 32 = i * 32 * 1 by omega)).trans (over_flat (xs := wb) (sz := 1) (fun _ _ => rfl) (j := i * 32) (ys := nb) (fun _ _ => rfl)).symm) ?_)
    refine OT.nil (.seq (.seq (.seq (.region (.pures hT 4 rfl (.reg 53 rfl (v := .int .u8 ((b8 (97 + ((i : Nat) : Int))).toNat : Int)) (int_eq (by rw [wrap_i64 (by omega) (by omega)]; exact b8_wrap _)) ?_))))))
    refine OT.buildSlice (enc := Go.Sx.encB) (xs := [b8 (97 + ((i : Nat) : Int))]) (xos := [.tmp 53]) el22 rfl rfl rfl rfl rfl (by simp [Value.cells]) (fun _ _ => rfl) rfl (by decide) rfl (fun v_54 H_54 ho_54 => ?_)
    refine OT.conv_bs (fun _ => rfl) hT rfl rfl rfl rfl rfl ro rfl ?_
    refine OT.call Try.call19 rfl rfl rfl rfl (Fun.pull pl (law21_snap (nm := nmK i) hB hK.st hadd (may_iff.2 hgo))) ?_
    rintro v_56 hs_56 ⟨H3, rfl, rfl, hB3⟩
    refine OT.pures hT 1 rfl (.nil (.seq (.cond_false rfl (.skip (.seq (.seq (.region (.pures hT 1 rfl (.nil (.seq (.block (.loop (ι := Nat × Pages × (List Snap) × (List UInt8) × (List Int) × Chunk) (fun j => (j.1) ≤ 4 ∧ (j.2.2.2.2.1).length ≤ 4 * i + (j.1) ∧ BkAt 28 b_31 (j.2.1) (j.2.2.2.2.2) ∧ Keeps (j.2.1) ((i + 1) : Nat) (j.2.2.1) (ws ++ [Q]) ∧ Named (j.2.2.1) ∧ Kept (j.2.2.2.2.1) (j.2.2.1) ∧ (j.2.2.1).length = (i + 1) ∧ (j.2.1) 1 = pAll ∧ NB (j.2.1) (j.2.2.2.1)) (fun j => 4 - (j.1)) (fun j => [(0, .slice an nos.length cn), (1, .int .i64 (q : Nat)), (6, .pointer (some ⟨b_31, 0, none⟩)), (7, .pointer (some ⟨b_7, 0, none⟩)), (8, .pointer (some ⟨b_8, 0, none⟩)), (9, .int .i64 (i : Nat)), (10, .int .i64 ((j.1) : Nat))]) (fun j => [(b_8, blk ((j.2.2.2.1).flatMap Go.Sx.encB) 61 (0, 0))] :: [(b_7, blk ((over wb (i * 32) nb).flatMap Go.Sx.encB) 62 (0, 0))] :: (j.2.2.2.2.2) :: hs) (0, upd Q ((0 : Nat) : Int) (encode ((i : Nat) + 1) (xs ++ [newSnap (nmK i) ((i : Nat) + 1)])).1, xs ++ [newSnap (nmK i) ((i : Nat) + 1)], nb, D, H3) ?_ (SubR.cons rfl (SubR.cons rfl (SubR.cons rfl (SubR.cons rfl (SubR.cons rfl (SubR.cons rfl (SubR.cons rfl (SubR.nil _)))))))) sl ?_))))))))))))
    · dsimp only
      exact ⟨by omega, by omega, hB3, hK1, hN1, hD.snap _ _, by rw [List.length_append, hxl]; rfl, by unfold upd; rw [if_neg (by decide)]; exact hq1, hnb.upd0 _⟩
    rintro ⟨k, Q2, xs2, nb2, D2, H2⟩ hI
    dsimp only at hI
    obtain ⟨hk, hdl2, hB2, hK2, hN2, hD2, hxl2, hq12, hnb2⟩ := hI
    show TT _ _ _ [(0, .slice an nos.length cn), (1, .int .i64 (q : Nat)), (6, .pointer (some ⟨b_31, 0, none⟩)), (7, .pointer (some ⟨b_7, 0, none⟩)), (8, .pointer (some ⟨b_8, 0, none⟩)), (9, .int .i64 (i : Nat)), (10, .int .i64 (k : Nat))] ([(b_8, blk (nb2.flatMap Go.Sx.encB) 61 (0, 0))] :: [(b_7, blk ((over wb (i * 32) nb).flatMap Go.Sx.encB) 62 (0, 0))] :: H2 :: hs)
    refine TT.seq (.seq (.region (.pures hT 2 rfl (.nil (.seq (.cond rfl (fun c59 => ?_) (fun c59 => ?_)))))))
    ·
      have c59 := of_decide_eq_true c59
      refine TT.skip (.seq (.seq (.block (.seq (.region (.pures hT 3 rfl (.nil (.seq (.cut (ι := Nat) (fun j => 2 ≤ (j) ∧ (j) < 32) (fun j => [(0, .slice an nos.length cn), (1, .int .i64 (q : Nat)), (6, .pointer (some ⟨b_31, 0, none⟩)), (7, .pointer (some ⟨b_7, 0, none⟩)), (8, .pointer (some ⟨b_8, 0, none⟩)), (9, .int .i64 (i : Nat)), (10, .int .i64 (k : Nat)), (11, .int .i64 ((j) : Nat))]) (fun j => [(b_8, blk (nb2.flatMap Go.Sx.encB) 61 (0, 0))] :: [(b_7, blk ((over wb (i * 32) nb).flatMap Go.Sx.encB) 62 (0, 0))] :: H2 :: hs) ?_ ?_)))))))))
      ·
        refine TT.seq (.region (.pures hT 7 rfl (.nil (.seq (.cond rfl (fun c70 => ?_) (fun c70 => ?_))))))
        ·
          have c70 := of_decide_eq_true c70
          rw [wrap_i64 (n := 4 * ((i : Nat) : Int)) (by omega) (by omega), wrap_i64 (by omega) (by omega)] at c70
          obtain ⟨z, hz0⟩ := nth (l := nos) (i := 4 * i + k) (by omega)
          obtain ⟨e, he30, he⟩ := mod_is 30 (by decide) (by decide) (hrn z (List.mem_of_getElem? hz0))
          refine TT.region (.pures hT 5 rfl (.reg 75 rfl (v := .int .i64 ((4 * i + k : Nat) : Int)) (int_eq (by rw [wrap_i64 (n := 4 * ((i : Nat) : Int)) (by omega) (by omega), wrap_i64 (by omega) (by omega)]; omega)) (.index hT rfl rfl rfl rfl hv.there.there.there (by omega) (by rw [Int.toNat_natCast]; exact hz0) rfl (fun ad_76 hel_76 => ?_))))
          refine OT.load rfl rfl (hel_76.ld_one hT rfl rfl) rfl (.pures hT 5 rfl (.nil (.cut (2 + e) ?_ (SubR.cons rfl (SubR.cons rfl (SubR.cons rfl (SubR.cons rfl (SubR.cons rfl (SubR.cons rfl (SubR.cons rfl (SubR.cons' rfl (by (try dsimp only); exact (int_eq (by rw [show (IntKind.i64.wrap (z.tmod 30 + 30)).tmod 30 = (e : Int) from he, wrap_i64 (by omega) (by omega)]; omega))) (SubR.nil _))))))))) sl)))
          · exact ⟨by omega, by omega⟩
        ·
          have c70 := of_decide_eq_false c70
          refine TT.skip (.cut (2 + k) ?_ (SubR.cons rfl (SubR.cons rfl (SubR.cons rfl (SubR.cons rfl (SubR.cons rfl (SubR.cons rfl (SubR.cons rfl (SubR.cons' rfl (by (try dsimp only); exact (int_eq (by rw [wrap_i64 (by omega) (by omega)]; omega))) (SubR.nil _))))))))) sl)
          · exact ⟨by omega, by omega⟩
      ·
        rintro m ⟨hm2, hm3⟩
        show TT _ _ _ [(0, .slice an nos.length cn), (1, .int .i64 (q : Nat)), (6, .pointer (some ⟨b_31, 0, none⟩)), (7, .pointer (some ⟨b_7, 0, none⟩)), (8, .pointer (some ⟨b_8, 0, none⟩)), (9, .int .i64 (i : Nat)), (10, .int .i64 (k : Nat)), (11, .int .i64 (m : Nat))] ([(b_8, blk (nb2.flatMap Go.Sx.encB) 61 (0, 0))] :: [(b_7, blk ((over wb (i * 32) nb).flatMap Go.Sx.encB) 62 (0, 0))] :: H2 :: hs)
        refine TT.seq (.region (.pures hT 7 rfl ?_))
        obtain ⟨y, hy⟩ := u8_is (IntKind.i64.wrap (IntKind.i64.wrap (IntKind.i64.wrap (20 * ((i : Nat) : Int)) + ((k : Nat) : Int)) + 1))
        refine OT.reg 88 rfl (v := .int .u8 (y.toNat : Int)) (int_eq hy) (.index_at hT rfl rfl rfl rfl (by omega) (by omega) rfl (.store hT rfl rfl rfl rfl pl rfl (by show _ ≤ (nb2.flatMap Go.Sx.encB).length; rw [bytes_len, hnb2.1]; show _ + 1 ≤ 32; omega) rfl (.inl (Nat.le_refl _)) (bytes_set (i := m) (by rw [hnb2.1]; omega) y (by omega)) ?_))
        refine OT.nil (.seq (.seq (.region (.pures hT 3 rfl (.index_at hT rfl rfl rfl rfl (by omega) (by omega) rfl (.load rfl rfl (Ld.one hT rfl hz (bytes_at (List.getElem?_set_self (show m < nb2.length by rw [hnb2.1]; omega)) (by omega))) rfl ?_))))))
        refine OT.call Try.call20 rfl rfl rfl rfl (Fun.pull pl (law21_lay hB2 hK2.st (no := (m : Nat)) (by omega) (by omega) (x := y))) ?_
        rintro v_95 hs_95 ⟨H4, rfl, rfl, hB4, _⟩
        have hd := one_data (b := pageOf [y]) (show 1 ≤ (m : Int) by omega) (show (m : Int) < 32 by omega) (pageOf_length (by simp))
        have hK4 := hK2.step hd
        have hlk := (expandS_good (Q := Q2) (but := 0) hK2.st.good hK2.st.h32 (nosOf_nodup (chgOf [((m : Int), pageOf [y])]))).2
        have hN4 := hN2.likes hlk
        have hD4 := (hD2.more (D' := (m : Int) :: D2) (fun x h => List.mem_cons_of_mem _ h)).step (Q := Q2) (but := 0) (nos := nosOf (chgOf [((m : Int), pageOf [y])])) (by rw [hxl2, List.length_cons]; have : (i + 1) * (D2.length + 1) ≤ 3 * 12 := Nat.mul_le_mul (by omega) (by omega); omega) (fun no h => by
          rw [nos_one (by omega) (by omega)] at h; subst h; exact ⟨by omega, by simp⟩)
        have hxl4 : (expandS Q2 0 (nosOf (chgOf [((m : Int), pageOf [y])])) xs2).length = i + 1 := hlk.1.symm.trans hxl2
        have hq14 : (lay Q2 (expandC Q2 ((i + 1 : Nat) : Int) xs2 [((m : Int), pageOf [y])])) 1 = pAll := by
          rw [expandC_data hK2.st _ (by omega) (by omega)]
          show upd Q2 (m : Int) (pageOf [y]) 1 = _
          unfold upd; rw [if_neg (by omega)]; exact hq12
        have hnb4 : NB (lay Q2 (expandC Q2 ((i + 1 : Nat) : Int) xs2 [((m : Int), pageOf [y])])) (nb2.set m y) := hnb2.put hm3 fun no h1 h2 => expandC_data hK2.st _ (by omega) (by omega)
        refine OT.pures hT 1 rfl (.nil (.seq (.cond_false rfl (.skip (.blk (.seq (.region (.pures hT 3 rfl (.nil (.loop (k + 1, lay Q2 (expandC Q2 ((i + 1 : Nat) : Int) xs2 [((m : Int), pageOf [y])]), expandS Q2 0 (nosOf (chgOf [((m : Int), pageOf [y])])) xs2, nb2.set m y, (m : Int) :: D2, H4) ?_ ?_ (SubR.cons rfl (SubR.cons rfl (SubR.cons rfl (SubR.cons rfl (SubR.cons rfl (SubR.cons rfl (SubR.cons' rfl (by (try dsimp only); exact (int_eq (by rw [wrap_i64 (by omega) (by omega)]; omega))) (SubR.nil _)))))))) sl))))))))))
        · dsimp only
          exact ⟨by omega, by rw [List.length_cons]; omega, hB4, hK4, hN4, hD4, hxl4, hq14, hnb4⟩
        · dsimp only
          omega
    ·
      have c59 := of_decide_eq_false c59
      obtain rfl : k = 4 := by omega
      refine TT.exit (.seq (.loop (.here (.blk (.seq (.region (.pures hT 3 rfl (.nil (.loop (i + 1, Q2, xs2, ws ++ [Q], over wb (i * 32) nb, nb2, D2, H2) ?_ ?_ (SubR.cons rfl (SubR.cons rfl (SubR.cons rfl (SubR.cons rfl (SubR.cons rfl (SubR.cons' rfl (by (try dsimp only); exact (int_eq (by rw [wrap_i64 (by omega) (by omega)]; omega))) (SubR.nil _))))))) sl)))))))))
      · dsimp only
        exact ⟨by omega, by omega, hwb2, hw12, hB2, hK2, hN2, hD2, hxl2, hq12, hnb2⟩
      · dsimp only
        omega
  ·
    have c44 := of_decide_eq_false c44
    obtain rfl : i = 3 := by omega
    refine TT.exit (.seq (.loop (.here (.seq (.seq (.region (.pures hT 1 rfl (.mkiface Try.underlying25 rfl rfl rfl rfl (.pures hT 3 rfl ?_)))))))))
    obtain ⟨s, hsq⟩ := nth (l := xs) (i := q) (by omega)
    obtain ⟨w0, hw0⟩ := nth (l := ws) (i := q) (by rw [hK.len]; omega)
    have hfq : findAt (named (nmK q)) 0 xs = q := hN.find hK.st.good (by omega)
    have hall : ∀ w ∈ ws, ∀ no, 2 ≤ no → no < 32 → hasB (w 1) no = true := fun w hw => by rw [hw1 w hw]; exact pAll_has
    obtain ⟨hst2, hlk2, hsh2, hpg2⟩ := back_st hK hD (by rw [hxl]; omega) hsq hall
    have hx2l : (expandS Q s.id (nosOf (backTo Q s 32)) (xs.take (q + 1))).length = q + 1 := by rw [← hlk2.1, List.length_take]; omega
    have hN2 : Named (expandS Q s.id (nosOf (backTo Q s 32)) (xs.take (q + 1))) := (hN.take (q + 1)).likes hlk2
    have hmx := imgsOf_may (after_len (but := s.id) (m := q + 1) hK.st (backTo_data hK.st.long (hK.st.good.sides s (List.mem_of_getElem? hsq))))
    refine OT.reg 102 rfl (v := .int .u8 ((b8 (97 + ((q : Nat) : Int))).toNat : Int)) (int_eq (by rw [wrap_i64 (by omega) (by omega)]; exact b8_wrap _)) ?_
    refine OT.buildSlice (enc := Go.Sx.encB) (xs := [b8 (97 + ((q : Nat) : Int))]) (xos := [.tmp 102]) el22 rfl rfl rfl rfl rfl (by simp [Value.cells]) (fun _ _ => rfl) rfl (by decide) rfl (fun v_103 H_103 ho_103 => ?_)
    refine OT.conv_bs (fun _ => rfl) hT rfl rfl rfl rfl rfl ro rfl ?_
    refine OT.call Try.call22 rfl rfl rfl rfl (Fun.pull pl (cow_Revert (nm := nmK q) book_Pgs hB hK.st.long hK.st.cat hK.st.good)) ?_
    rintro v_105 hs_105 (⟨v, ts2, HI, H2, rfl, rfl, hoI, hI2, i0, s0, hf0, hs0, hi0, hti⟩ | ⟨e, HR, rfl, he, hE, rfl⟩)
    ·
      obtain rfl : q = i0 := by omega
      rw [hsq] at hs0; cases hs0
      have hti : imgs ts2 = imgsOf (expandM Q ((3 : Nat) : Int) xs (expandS Q s.id (nosOf (backTo Q s 32)) (xs.take (q + 1))) (backTo Q s 32)) 96 := hti
      refine OT.pures hT 5 rfl (.nil (.seq (.seq (.seq (.region (.pures hT 2 rfl (.nil (.seq (.cond_false rfl (.skip (.seq (.seq (.region (.pures hT 2 rfl (.call Try.call15 rfl rfl rfl rfl (book_Lay hI2 (own_at hoI hti hmx (imgsOf_len _ 96)) (by rw [hti]; exact hmx)) ?_)))))))))))))))
      rintro v_112 hs_112 ⟨H3, rfl, rfl, hB3⟩
      rw [hti] at hB3
      have hB3 : BkAt 28 b_31 (after Q ((3 : Nat) : Int) s.id xs (q + 1) (backTo Q s 32)) H3 := hB3
      generalize (after Q ((3 : Nat) : Int) s.id xs (q + 1) (backTo Q s 32)) = QA at hB3 hst2 hsh2 hpg2
      generalize expandS Q s.id (nosOf (backTo Q s 32)) (xs.take (q + 1)) = XA at hst2 hlk2 hsh2 hx2l hN2
      refine OT.nil (.seq (.seq (.region (.pures hT 4 rfl ?_))))
      obtain ⟨tq, htq⟩ := nth (l := XA) (i := q) (by omega)
      obtain ⟨hti0, htsh⟩ := hsh2 q tq w0 htq hw0
      have h35q := hst2.h35 tq (List.mem_of_getElem? htq)
      have hsdq := hst2.good.sides tq (List.mem_of_getElem? htq)
      have hshq : shownOf XA (nmK q) = some tq := by rw [shown_named hN2 hst2.good htq, if_neg (by rw [hti0]; simp)]
      obtain ⟨_, hwbq⟩ := hwb.2 q w0 hw0
      refine OT.reg 117 rfl (v := .int .u8 ((b8 (97 + ((q : Nat) : Int))).toNat : Int)) (int_eq (by rw [wrap_i64 (by omega) (by omega)]; exact b8_wrap _)) ?_
      refine OT.buildSlice (enc := Go.Sx.encB) (xs := [b8 (97 + ((q : Nat) : Int))]) (xos := [.tmp 117]) el22 rfl rfl rfl rfl rfl (by simp [Value.cells]) (fun _ _ => rfl) rfl (by decide) rfl (fun v_118 H_118 ho_118 => ?_)
      refine OT.conv_bs (fun _ => rfl) hT rfl rfl rfl rfl rfl ro rfl ?_
      refine OT.call Try.call16 rfl rfl rfl rfl (Fun.pull pl (law21_show (nm := nmK q) hB3 hst2)) ?_
      rintro v_120 hs_120 ⟨rfl, cs, rfl, hcl, hco, hcs⟩
      obtain rfl := hcs _ hshq
      rw [hshq]
      refine OT.pures hT 3 rfl (.alloc Try.zeroValue47 rfl rfl (fun b_14 => ?_))
      refine OT.store_all hT rfl rfl rfl rfl pl (by exact hcl) rfl hco (.inl (Nat.le_refl _)) ?_
      refine OT.pures hT 1 rfl (.nil (.seq (.seq (.seq (.region (.pures hT 2 rfl (.nil (.seq (.cond_false rfl (.skip (.seq (.seq (.seq (.region (.pures hT 1 rfl (.nil (.seq (.block (.loop (ι := Nat) (fun j => 1 ≤ (j) ∧ (j) ≤ 32) (fun j => 32 - (j)) (fun j => [(1, .int .i64 (q : Nat)), (6, .pointer (some ⟨b_31, 0, none⟩)), (7, .pointer (some ⟨b_7, 0, none⟩)), (14, .pointer (some ⟨b_14, 0, none⟩)), (16, .int .i64 ((j) : Nat))]) (fun j => [(b_14, blk (.pointer (some ⟨b_31, 0, none⟩) :: encSnap tq) 47 (0, 0))] :: H3 :: [(b_7, blk (wb.flatMap Go.Sx.encB) 62 (0, 0))] :: hs) (1) ?_ (SubR.cons rfl (SubR.cons rfl (SubR.cons rfl (SubR.cons rfl (SubR.cons rfl (SubR.nil _)))))) sl ?_)))))))))))))))))))
      · omega
      rintro no ⟨hno, hno2⟩
      show TT _ _ _ [(1, .int .i64 (q : Nat)), (6, .pointer (some ⟨b_31, 0, none⟩)), (7, .pointer (some ⟨b_7, 0, none⟩)), (14, .pointer (some ⟨b_14, 0, none⟩)), (16, .int .i64 (no : Nat))] ([(b_14, blk (.pointer (some ⟨b_31, 0, none⟩) :: encSnap tq) 47 (0, 0))] :: H3 :: [(b_7, blk (wb.flatMap Go.Sx.encB) 62 (0, 0))] :: hs)
      refine TT.seq (.seq (.region (.pures hT 2 rfl (.nil (.seq (.cond rfl (fun c126 => ?_) (fun c126 => ?_)))))))
      ·
        have c126 := of_decide_eq_true c126
        obtain ⟨x, hx, hwx⟩ := hwbq no hno (by omega)
        have hpn := hpg2 w0 hw0 (no : Nat) (by omega) (by omega)
        have hvn := htsh (no : Nat) (by omega) (by omega)
        refine TT.skip (.seq (.seq (.block (.seq (.region (.pures hT 2 rfl (.call Try.call23 rfl rfl rfl rfl (Fun.pull pl (book_Page hB3)) ?_)))))))
        rintro v_132 hs_132 ⟨KY, wY, rfl, rfl, hoY⟩
        rw [pg0 (by unfold mayPage; omega), hpn] at hoY ⊢
        dsimp only at hoY
        refine OT.pures hT 5 rfl (.nil (.seq (.seq (.region (.load rfl rfl (Ld.struct_all hT rfl hz (by exact hcl)) rfl ?_)))))
        refine OT.pures hT 1 rfl (.call Try.call18 rfl rfl rfl rfl (Fun.pull pl (shown_Page hB3 h35q hsdq)) ?_)
        rintro v_138 hs_138 ⟨KP, wP, rfl, rfl, hoP⟩
        rw [viewPg_ok hsdq (by omega) (by omega), hvn] at hoP ⊢
        dsimp only at hoP
        refine OT.pures hT 5 rfl (.nil (.seq (.seq (.draw ((KP :: KY :: [(b_7, blk (wb.flatMap Go.Sx.encB) 62 (0, 0))] :: hs)) mixed (.takes (fuel := 21) hT [0, 1, 2] kr kr rfl (.takes (fuel := 17) hT [3, 4, 5, 6] kr kr rfl (.takes (fuel := 14) hT [7, 10, 11] kr kr rfl (.index (fuel := 13) hT 8 rfl kr kr kr rfl rfl rfl rfl hoY.row.there (by decide) (by exact hwx) rfl (fun ad_149 hel_149 => ?_)))))))))
        refine AT.take (fuel := 12) hT 9 rfl rfl kr kr kr rfl (.load rfl (hel_149.ld_one hT rfl rfl)) rfl (.index_at (fuel := 11) hT 12 rfl kr kr kr rfl rfl rfl rfl (by omega) (by omega) rfl (.index_at (fuel := 10) hT 13 rfl kr kr kr rfl rfl rfl rfl (by omega) (by omega) rfl (.take (fuel := 9) hT 14 rfl rfl kr kr kr rfl (.load rfl (Ld.one hT rfl hz (bytes_at hx (by omega)))) rfl ?_)))
        refine AT.takes (fuel := 6) hT [15, 16, 17] kr kr rfl (.split 158 rfl (fun g158 => ?_) (fun g158 => ?_))
        ·
          exact absurd g158 (by simp)
        ·
          refine AT.takes (fuel := 4) hT [18, 20] kr kr rfl (.conv (fuel := 3) 19 rfl kr kr kr hT rfl rfl rfl rfl rfl hoY.row.there rfl (.conv (fuel := 2) 21 rfl kr kr kr hT rfl rfl rfl rfl rfl hoP.row rfl (.takes (fuel := 0) hT [22, 23] kr kr rfl (.done kr sl (.seq (.cond rfl (fun c164 => ?_) (fun c164 => ?_)))))))
          ·
            exact absurd c164 (by simp)
          ·
            refine TT.skip (.blk (.seq (.region (.pures hT 3 rfl (.nil (.loop (no + 1) ?_ ?_ (SubR.cons rfl (SubR.cons rfl (SubR.cons rfl (SubR.cons rfl (SubR.cons' rfl (by (try dsimp only); exact (int_eq (by rw [wrap_i64 (by omega) (by omega)]; omega))) (SubR.nil _)))))) sl))))))
            · omega
            · omega
      ·
        have c126 := of_decide_eq_false c126
        refine TT.exit (.seq (.loop (.here (.seq (.seq (.seq (.region (.pures hT 1 rfl (.nil (.seq (.block (.loop (ι := Nat) (fun j => (j) ≤ 3) (fun j => 3 - (j)) (fun j => [(1, .int .i64 (q : Nat)), (6, .pointer (some ⟨b_31, 0, none⟩)), (7, .pointer (some ⟨b_7, 0, none⟩)), (21, .int .i64 ((j) : Nat))]) (fun j => H3 :: [(b_7, blk (wb.flatMap Go.Sx.encB) 62 (0, 0))] :: hs) (0) ?_ (SubR.cons rfl (SubR.cons rfl (SubR.cons rfl (SubR.cons rfl (SubR.nil _))))) sl ?_))))))))))))
        · omega
        rintro i hi3
        show TT _ _ _ [(1, .int .i64 (q : Nat)), (6, .pointer (some ⟨b_31, 0, none⟩)), (7, .pointer (some ⟨b_7, 0, none⟩)), (21, .int .i64 (i : Nat))] (H3 :: [(b_7, blk (wb.flatMap Go.Sx.encB) 62 (0, 0))] :: hs)
        refine TT.seq (.seq (.region (.pures hT 2 rfl (.nil (.seq (.cond rfl (fun c166 => ?_) (fun c166 => ?_)))))))
        ·
          have c166 := of_decide_eq_true c166
          refine TT.skip (.seq (.seq (.block (.seq (.region (.pures hT 4 rfl (.reg 173 rfl (v := .int .u8 ((b8 (97 + ((i : Nat) : Int))).toNat : Int)) (int_eq (by rw [wrap_i64 (by omega) (by omega)]; exact b8_wrap _)) ?_)))))))
          refine OT.buildSlice (enc := Go.Sx.encB) (xs := [b8 (97 + ((i : Nat) : Int))]) (xos := [.tmp 173]) el22 rfl rfl rfl rfl rfl (by simp [Value.cells]) (fun _ _ => rfl) rfl (by decide) rfl (fun v_174 H_174 ho_174 => ?_)
          refine OT.conv_bs (fun _ => rfl) hT rfl rfl rfl rfl rfl ro rfl ?_
          refine OT.call Try.call16 rfl rfl rfl rfl (Fun.pull pl (law21_show (nm := nmK i) hB3 hst2)) ?_
          rintro v_176 hs_176 ⟨rfl, cs2, rfl, hcl2, hco2, hcs2⟩
          have hin : (shownOf XA (nmK i)).isSome = decide ((i : Int) ≤ (q : Int)) := by
            by_cases hiq : i ≤ q
            · obtain ⟨t, ht⟩ := nth (l := XA) (i := i) (by omega)
              obtain ⟨w, hw⟩ := nth (l := ws) (i := i) (by rw [hK.len]; omega)
              rw [shown_named hN2 hst2.good ht, if_neg (by rw [(hsh2 i t w ht hw).1]; simp), decide_eq_true (by omega)]; rfl
            · rw [shown_gone hN2 hst2.good (by omega) (by omega), decide_eq_false (by omega)]; rfl
          rw [hin]
          refine OT.pures hT 3 rfl (.alloc Try.zeroValue47 rfl rfl (fun b_22 => ?_))
          refine OT.store_all hT rfl rfl rfl rfl pl (by exact hcl2) rfl hco2 (.inl (Nat.le_refl _)) ?_
          refine OT.pures hT 1 rfl (.nil (.seq (.seq (.seq (.region (.pures hT 5 rfl (.nil (.seq (.cond rfl (fun c183 => ?_) (fun c183 => ?_))))))))))
          ·
            exact absurd c183 (by simp)
          ·
            refine TT.skip (.seq (.seq (.region (.pures hT 1 rfl (.nil (.seq (.block (.loop (ι := Nat) (fun j => 1 ≤ (j) ∧ (j) ≤ 32) (fun j => 32 - (j)) (fun j => [(1, .int .i64 (q : Nat)), (6, .pointer (some ⟨b_31, 0, none⟩)), (7, .pointer (some ⟨b_7, 0, none⟩)), (21, .int .i64 (i : Nat)), (22, .pointer (some ⟨b_22, 0, none⟩)), (23, .bool (decide ((i : Int) ≤ (q : Int)))), (24, .int .i64 ((j) : Nat))]) (fun j => [(b_22, blk cs2 47 (0, 0))] :: H3 :: [(b_7, blk (wb.flatMap Go.Sx.encB) 62 (0, 0))] :: hs) (1) ?_ (SubR.cons rfl (SubR.cons rfl (SubR.cons rfl (SubR.cons rfl (SubR.cons rfl (SubR.cons rfl (SubR.cons rfl (SubR.nil _)))))))) sl ?_))))))))
            · omega
            rintro no ⟨hno, hno2⟩
            show TT _ _ _ [(1, .int .i64 (q : Nat)), (6, .pointer (some ⟨b_31, 0, none⟩)), (7, .pointer (some ⟨b_7, 0, none⟩)), (21, .int .i64 (i : Nat)), (22, .pointer (some ⟨b_22, 0, none⟩)), (23, .bool (decide ((i : Int) ≤ (q : Int)))), (24, .int .i64 (no : Nat))] ([(b_22, blk cs2 47 (0, 0))] :: H3 :: [(b_7, blk (wb.flatMap Go.Sx.encB) 62 (0, 0))] :: hs)
            refine TT.seq (.seq (.region (.pures hT 3 rfl (.split 186 rfl (fun g186 => ?_) (fun g186 => ?_)))))
            ·
              have g186 := of_decide_eq_true g186
              refine OT.pures hT 2 rfl (.nil (.seq (.cond rfl (fun c188 => ?_) (fun c188 => ?_))))
              ·
                have c188 : (i : Int) ≤ (q : Int) := of_decide_eq_true c188
                obtain ⟨t, ht⟩ := nth (l := XA) (i := i) (by omega)
                obtain ⟨w, hw⟩ := nth (l := ws) (i := i) (by rw [hK.len]; omega)
                obtain ⟨hti2, htsh2⟩ := hsh2 i t w ht hw
                have h35t := hst2.h35 t (List.mem_of_getElem? ht)
                have hsdt := hst2.good.sides t (List.mem_of_getElem? ht)
                obtain rfl := hcs2 t (by rw [shown_named hN2 hst2.good ht, if_neg (by rw [hti2]; simp)])
                obtain ⟨x, hx, hwx⟩ := (hwb.2 i w hw).2 no hno (by omega)
                have hvn := htsh2 (no : Nat) (by omega) (by omega)
                refine TT.skip (.seq (.seq (.block (.seq (.region (.load rfl rfl (Ld.struct_all hT rfl hz (by exact hcl2)) rfl ?_))))))
                refine OT.pures hT 1 rfl (.call Try.call18 rfl rfl rfl rfl (Fun.pull pl (shown_Page hB3 h35t hsdt)) ?_)
                rintro v_194 hs_194 ⟨KP, wP, rfl, rfl, hoP⟩
                rw [viewPg_ok hsdt (by omega) (by omega), hvn] at hoP ⊢
                dsimp only at hoP
                refine OT.pures hT 5 rfl (.nil (.seq (.seq (.draw ((KP :: [(b_7, blk (wb.flatMap Go.Sx.encB) 62 (0, 0))] :: hs)) mixed (.takes (fuel := 10) hT [0, 1, 2] kr kr rfl (.takes (fuel := 7) hT [3, 6, 7] kr kr rfl (.index (fuel := 6) hT 4 rfl kr kr kr rfl rfl rfl rfl hoP.row (by decide) (by exact hwx) rfl (fun ad_201 hel_201 => ?_))))))))
                refine AT.take (fuel := 5) hT 5 rfl rfl kr kr kr rfl (.load rfl (hel_201.ld_one hT rfl rfl)) rfl (.index_at (fuel := 4) hT 8 rfl kr kr kr rfl rfl rfl rfl (by omega) (by omega) rfl (.index_at (fuel := 3) hT 9 rfl kr kr kr rfl rfl rfl rfl (by omega) (by omega) rfl (.take (fuel := 2) hT 10 rfl rfl kr kr kr rfl (.load rfl (Ld.one hT rfl hz (bytes_at hx (by omega)))) rfl ?_)))
                refine AT.takes (fuel := 0) hT [11, 12] kr kr rfl (.done kr sl (.seq (.cond rfl (fun c209 => ?_) (fun c209 => ?_))))
                ·
                  exact absurd c209 (by simp)
                ·
                  refine TT.skip (.blk (.seq (.region (.pures hT 3 rfl (.nil (.loop (no + 1) ?_ ?_ (SubR.cons rfl (SubR.cons rfl (SubR.cons rfl (SubR.cons rfl (SubR.cons rfl (SubR.cons rfl (SubR.cons' rfl (by (try dsimp only); exact (int_eq (by rw [wrap_i64 (by omega) (by omega)]; omega))) (SubR.nil _)))))))) sl))))))
                  · omega
                  · omega
              ·
                refine TT.exit (.seq (.loop (.here (.blk (.seq (.region (.pures hT 3 rfl (.nil (.loop (i + 1) ?_ ?_ (SubR.cons rfl (SubR.cons rfl (SubR.cons rfl (SubR.cons' rfl (by (try dsimp only); exact (int_eq (by rw [wrap_i64 (by omega) (by omega)]; omega))) (SubR.nil _))))) sl)))))))))
                · omega
                · omega
            ·
              have g186 := of_decide_eq_false g186
              refine OT.pures hT 2 rfl (.nil (.seq (.cond_false rfl (.exit (.seq (.loop (.here (.blk (.seq (.region (.pures hT 3 rfl (.nil (.loop (i + 1) ?_ ?_ (SubR.cons rfl (SubR.cons rfl (SubR.cons rfl (SubR.cons' rfl (by (try dsimp only); exact (int_eq (by rw [wrap_i64 (by omega) (by omega)]; omega))) (SubR.nil _))))) sl)))))))))))))
              · omega
              · omega
        ·
          have c166 := of_decide_eq_false c166
          refine TT.exit (.seq (.loop (.here (.seq (.seq (.region (.pures hT 1 rfl (.nil (.seq (.ret (.of (rs := [.tmp 4]) [_] hs rfl (.tmp rfl .nil) sl ?_)))))))))))
          dsimp only [one]
          exact ⟨rfl, rfl⟩
    ·
      rcases hE with h | ⟨_, h, _⟩ | ⟨_, _, i0, s0, h1, h2, h3⟩
      · exact h.elim
      · omega
      · obtain rfl : q = i0 := by omega
        rw [hsq] at h2; cases h2; rw [(hD s (List.mem_of_getElem? hsq)).1] at h3; cases h3

end Go.Proofs.Ytnhkgchcdbideaa.Sx
end

section
namespace Go.Proofs.Ytnhkgchcdbideaa.Sx
open Go Go.Sx Go.Pl
variable [Outer]

set_option maxHeartbeats 8000000 in
set_option maxRecDepth 100000 in
theorem law_CowRoom {full : Int} (hr : -9223372036854775808 ≤ full ∧ full ≤ 9223372036854775807) {hs : List Chunk} (hbegun : ∀ hs, Fun Try.prog 10 [] hs fun v' hs' => v' = .bool true ∧ hs = hs') : Fun Try.prog 8 [.int .i64 full] hs (fun v' hs' => v' = .bool true ∧ hs = hs') := by
  refine Fun.enter 137 Try.func8 rfl Try.ntmps8 rfl ?_
  refine TT.seq (.region (.pures hT 1 rfl (.nil (.seq (.seq (.region (.call Try.call10 rfl rfl rfl rfl (hbegun _) ?_)))))))
  rintro v_19 hs_19 ⟨rfl, rfl⟩
  refine OT.pures hT 1 rfl (.nil (.seq (.seq (.seq (.region (.pures hT 2 rfl (.nil (.seq (.cond_false rfl (.skip (.seq (.seq (.seq (.region (.pures hT 3 rfl (.split 24 rfl (fun g24 => ?_) (fun g24 => ?_)))))))))))))))))
  ·
    have g24 := of_decide_eq_true g24
    refine OT.pures hT 3 rfl (.nil (.seq (.cond_true rfl (.seq (.region (.pures hT 1 rfl (.nil (.seq (.ret (.of (rs := [.tmp 2]) [_] hs rfl (.tmp rfl .nil) sl ?_))))))))))
    dsimp only [one]
    exact ⟨rfl, rfl⟩
  ·
    have g24 := of_decide_eq_false g24
    refine OT.pures hT 3 rfl (.nil (.seq (.cond rfl (fun c27 => ?_) (fun c27 => ?_))))
    ·
      have c27 := of_decide_eq_true c27
      refine TT.seq (.region (.pures hT 1 rfl (.nil (.seq (.ret (.of (rs := [.tmp 2]) [_] hs rfl (.tmp rfl .nil) sl ?_))))))
      dsimp only [one]
      exact ⟨rfl, rfl⟩
    ·
      have c27 := of_decide_eq_false c27
      refine TT.skip (.seq (.seq (.region (.build (cs := bkCells (List.replicate 96 (.slice none 0 0))) hT rfl Try.zeroValue28 rfl rfl kr rfl (.box rfl rfl rfl (fun b_29 => ?_))))))
      refine OT.pures hT 1 rfl (.nil (.seq (.seq (.draw (hs) mixed (.takes (fuel := 4) hT [0, 3, 4] kr kr rfl (.op (fuel := 3) 1 kr rfl sl ?_))))))
      have hB0 : BkAt 28 b_29 (fun _ => noughts 256) [(b_29, blk (bkCells (List.replicate 96 (.slice none 0 0))) 28 (0, 0))] := BkAt.one (Slots.zero [[]])
      show OT _ _ _ _ _ ([(b_29, blk (bkCells (List.replicate 96 (.slice none 0 0))) 28 (0, 0))] :: hs)
      generalize ([(b_29, blk (bkCells (List.replicate 96 (.slice none 0 0))) 28 (0, 0))] : Chunk) = HB at hB0 ⊢
      refine OT.buildSlice (enc := Go.Sx.encB) (xs := ([252, 255, 255, 255] : List UInt8)) (xos := [.const (.int .u8 (252)), .const (.int .u8 (255)), .const (.int .u8 (255)), .const (.int .u8 (255))]) el22 rfl rfl rfl rfl rfl (by simp [Value.cells]) (fun _ _ => rfl) rfl (by decide) rfl (fun v_31 H_31 ho_31 => ?_)
      refine OT.nil (.any (.op (fuel := 2) 2 kr rfl sl (.call Try.call21 rfl rfl rfl rfl (law9_Of ro (by simp)) ?_)))
      rintro v_32 hs_32 ⟨K32, rfl, ho32⟩
      refine OT.nil (.any (.index_at (fuel := 1) hT 5 rfl kr kr kr rfl rfl rfl rfl (by omega) (by decide) rfl (.op (fuel := 0) 6 kr rfl sl (.bk_store (no := 1) hT rfl rfl rfl rfl pl hB0 pl ho32 pAll_len rfl (by decide) (fun H_x hb_x ht_x => ?_)))))
      refine OT.nil (.any (.done kr sl (.seq (.seq (.region (.alloc Try.zeroValue31 rfl rfl (fun b_5 => ?_)))))))
      refine OT.nil (.seq (.seq (.seq (.region (.pures hT 1 rfl (.nil (.seq (.block (.chunk0 (.loop (ι := Nat × Value × Chunk) (fun j => (j.1) ≤ 3 ∧ Own encSnap 35 45 (j.2.1) (snapsN (j.1)) (j.2.2)) (fun j => 3 - (j.1)) (fun j => [(0, .int .i64 full), (4, .pointer (some ⟨b_29, 0, none⟩)), (5, .pointer (some ⟨b_5, 0, none⟩)), (6, .int .i64 ((j.1) : Nat))]) (fun j => [(b_5, blk [.int .i64 (((j.1) : Nat) : Int), (j.2.1)] 31 (0, 0))] :: (j.2.2) :: H_x :: hs) (0, .slice none 0 0, []) ?_ (SubR.cons rfl (SubR.cons rfl (SubR.cons rfl (SubR.cons rfl (SubR.nil _))))) sl ?_))))))))))
      · dsimp only
        exact ⟨by omega, Own.nil⟩
      rintro ⟨i, v, HS⟩ hI
      dsimp only at hI
      obtain ⟨hi, hoS⟩ := hI
      show TT _ _ _ [(0, .int .i64 full), (4, .pointer (some ⟨b_29, 0, none⟩)), (5, .pointer (some ⟨b_5, 0, none⟩)), (6, .int .i64 (i : Nat))] ([(b_5, blk [.int .i64 ((i : Nat) : Int), v] 31 (0, 0))] :: HS :: H_x :: hs)
      obtain ⟨aS, cS, hvS⟩ := (hoS.row (hs := [])).len
      subst hvS
      refine TT.seq (.seq (.region (.pures hT 2 rfl (.nil (.seq (.cond rfl (fun c37 => ?_) (fun c37 => ?_)))))))
      ·
        have c37 := of_decide_eq_true c37
        refine TT.skip (.seq (.seq (.block (.region (.load rfl rfl (Ld.struct_all hT rfl hz rfl) rfl ?_)))))
        refine OT.pures hT 3 rfl (.reg 44 rfl (v := .int .u8 ((b8 (97 + ((i : Nat) : Int))).toNat : Int)) (int_eq (by rw [wrap_i64 (by omega) (by omega)]; exact b8_wrap _)) ?_)
        refine OT.buildSlice (enc := Go.Sx.encB) (xs := [b8 (97 + ((i : Nat) : Int))]) (xos := [.tmp 44]) el22 rfl rfl rfl rfl rfl (by simp [Value.cells]) (fun _ _ => rfl) rfl (by decide) rfl (fun v_45 H_45 ho_45 => ?_)
        refine OT.conv_bs (fun _ => rfl) hT rfl rfl rfl rfl rfl ro rfl ?_
        refine OT.call Try.call11 rfl rfl rfl rfl (cat_Add (next := (i : Nat)) (nm := nmK i) ro (by rw [snapsN_len]; omega) (by omega)) ?_
        rintro v_47 hs_47 ⟨w2, HS2, rfl, rfl, hoS2⟩
        rw [snapsN_add (by omega)] at hoS2 ⊢
        dsimp only at hoS2
        obtain ⟨a2, c2, hvw2⟩ := (hoS2.row (hs := [])).len
        subst hvw2
        refine OT.pures hT 3 rfl (.store_all hT rfl rfl rfl rfl pl rfl rfl rfl (.inl (Nat.le_refl _)) ?_)
        refine OT.nil (.blk (.seq (.region (.pures hT 3 rfl (.nil (.loop (i + 1, _, HS2) ?_ ?_ (SubR.cons rfl (SubR.cons rfl (SubR.cons rfl (SubR.cons' rfl (by (try dsimp only); exact (int_eq (by rw [wrap_i64 (by omega) (by omega)]; omega))) (SubR.nil _))))) sl))))))
        · dsimp only
          exact ⟨by omega, hoS2⟩
        · dsimp only
          omega
      ·
        have c37 := of_decide_eq_false c37
        obtain rfl : i = 3 := by omega
        refine TT.exit (.seq (.loop (.here (.seq (.seq (.draw (([(b_5, blk [.int .i64 ((3 : Nat) : Int), .slice aS (snapsN 3).length cS] 31 (0, 0))] :: HS :: hs)) mixed (.takes (fuel := 7) hT [0, 6, 7] kr kr rfl (.take (fuel := 6) hT 1 rfl rfl kr kr kr rfl (.load rfl (Ld.struct_all hT rfl hz rfl)) rfl ?_))))))))
        refine AT.op (fuel := 5) 2 kr rfl sl (.call Try.call12 rfl rfl rfl rfl (cat_Encode ro (by rw [snapsN_len]; omega)) ?_)
        rintro v_53 hs_53 ⟨wE, HE, rfl, rfl, hoE⟩
        refine OT.nil (.any (.takes (fuel := 2) hT [3, 4, 5] kr kr rfl (.index_at (fuel := 1) hT 8 rfl kr kr kr rfl rfl rfl rfl (by omega) (by decide) rfl (.op (fuel := 0) 9 kr rfl sl (.bk_store (no := 0) hT rfl rfl rfl rfl pl hb_x pl hoE (encode_256 snapsN_35 (may_iff.2 (snapsN_good 3 (by decide)).1)) rfl (by decide) (fun H_y hb_y ht_y => ?_))))))
        refine OT.nil (.any (.done kr sl (.seq (.seq (.seq (.region (.pures hT 1 rfl (.nil (.seq (.block ?_))))))))))
        have hK0 := snapsN_keeps hb_x.long (i := 3) (by decide)
        have hw1 : ∀ w ∈ List.replicate 3 (upd (fun _ => noughts 256) ((1 : Nat) : Int) pAll), w 1 = pAll := fun w hw => by rw [List.eq_of_mem_replicate hw]; exact if_pos rfl
        refine TT.loop (ι := Nat × Pages × (List Snap) × Chunk) (fun j => 1 ≤ (j.1) ∧ ((j.1) : Int) ≤ full + 1 ∧ BkAt 28 b_29 (j.2.1) (j.2.2.2) ∧ Keeps (j.2.1) ((3 : Nat) : Int) (j.2.2.1) (List.replicate 3 (upd (fun _ => noughts 256) ((1 : Nat) : Int) pAll)) ∧ (j.2.2.1).length = 3 ∧ InR ((j.1) - 1) (j.2.2.1) ∧ (3 * ((j.1) - 1) ≤ 64 → Kept ((List.range ((j.1) - 1)).map fun k : Nat => ((k + 1 : Nat) : Int)) (j.2.2.1))) (fun j => (full + 1 - (j.1)).toNat) (fun j => [(0, .int .i64 full), (4, .pointer (some ⟨b_29, 0, none⟩)), (7, .int .i64 ((j.1) : Nat))]) (fun j => (j.2.2.2) :: hs) (1, upd (upd (fun _ => noughts 256) ((1 : Nat) : Int) pAll) ((0 : Nat) : Int) (encode ((3 : Nat) : Int) (snapsN 3)).1, snapsN 3, H_y) ?_ (SubR.cons rfl (SubR.cons rfl (SubR.cons rfl (SubR.nil _)))) sl ?_
        · dsimp only
          exact ⟨by omega, by omega, hb_y, hK0, rfl, fun s hs _ no _ _ => by obtain ⟨nm, id, rfl⟩ := snapsN_mem hs; rw [newSnap_at]; omega, fun _ => snapsN_kept _⟩
        rintro ⟨no, Q, xs, H1⟩ hI
        dsimp only at hI
        obtain ⟨hno, hno2, hB, hK, hxl, hR, hkp⟩ := hI
        show TT _ _ _ [(0, .int .i64 full), (4, .pointer (some ⟨b_29, 0, none⟩)), (7, .int .i64 (no : Nat))] (H1 :: hs)
        refine TT.seq (.seq (.region (.pures hT 3 rfl (.nil (.seq (.cond rfl (fun c61 => ?_) (fun c61 => ?_)))))))
        ·
          have c61 := of_decide_eq_true c61
          have hpl : (Q (no : Nat)).length = 256 := hK.st.long _ (by unfold mayPage; omega)
          have hd := one_data (b := Q (no : Nat)) (show 1 ≤ ((no : Nat) : Int) by omega) (show ((no : Nat) : Int) < 32 by omega) hpl
          refine TT.skip (.seq (.seq (.block (.seq (.region (.pures hT 2 rfl (.call Try.call23 rfl rfl rfl rfl (book_Page hB) ?_)))))))
          rintro v_67 hs_67 ⟨K8, w8, rfl, rfl, ho8⟩
          rw [pg0 (by unfold mayPage; omega)] at ho8 ⊢
          dsimp only at ho8
          obtain ⟨a8, c8, hv8⟩ := (ho8.row (hs := [])).len
          subst hv8
          refine OT.pures hT 5 rfl (.nil (.seq (.seq (.region (.pures hT 1 rfl (.mkiface Try.underlying25 rfl rfl rfl rfl (.pures hT 2 rfl (.build (cs := [.int .i64 (no : Nat), .slice a8 (Q (no : Nat)).length c8]) hT rfl Try.zeroValue66 rfl rfl rfl rfl ?_))))))))
          refine OT.buildSlice (enc := encIm) (xs := [(⟨((no : Nat) : Int), .slice a8 (Q (no : Nat)).length c8, Q (no : Nat)⟩ : Im)]) (xos := [.tmp 75]) el37 rfl rfl rfl rfl rfl (by simp [Value.cells]) (fun _ _ => rfl) rfl (by decide) rfl (fun v_76 H_76 ho_76 => ?_)
          refine OT.call Try.call14 rfl rfl rfl rfl (Fun.pull pl (cow_Expand book_Pgs hB hK.st.long hK.st.cat hK.st.good (⟨ro, fun t ht => by rw [List.mem_singleton] at ht; subst ht; exact ro, (by show 1 ≤ 9223372036854775807; omega), fun t ht => by rw [List.mem_singleton] at ht; subst ht; exact Nat.le_trans (Nat.le_of_eq hpl) (by decide)⟩ : ImsAt _ _ [⟨((no : Nat) : Int), .slice a8 (Q (no : Nat)).length c8, Q (no : Nat)⟩]) hd)) ?_
          rintro v_77 hs_77 (⟨v, ts2, HI, H2, rfl, rfl, hoI, hti, hI2⟩ | ⟨_, _, _, _, hE, _⟩)
          ·
            have hti : imgs ts2 = expandC Q ((3 : Nat) : Int) xs [(((no : Nat) : Int), Q (no : Nat))] := hti
            have hmx := expandC_may hK.st hd
            have hK2 := hK.step hd
            have hR2 := hR.step hK hw1 hno (by omega) (b := Q (no : Nat))
            have hxl2 : (expandS Q 0 (nosOf (chgOf [(((no : Nat) : Int), Q (no : Nat))])) xs).length = 3 := (expandS_good (Q := Q) (but := 0) hK.st.good hK.st.h32 (nosOf_nodup (chgOf [(((no : Nat) : Int), Q (no : Nat))]))).2.1.symm.trans hxl
            have hkp2 : 3 * (no + 1 - 1) ≤ 64 → Kept ((List.range (no + 1 - 1)).map fun k : Nat => ((k + 1 : Nat) : Int)) (expandS Q 0 (nosOf (chgOf [(((no : Nat) : Int), Q (no : Nat))])) xs) := fun h => by
              rw [Nat.add_sub_cancel] at h ⊢
              refine ((hkp (by omega)).more fun x hx => ?_).step (by rw [hxl, List.length_map, List.length_range]; omega) fun x hx => ?_
              · obtain ⟨k, hk, rfl⟩ := List.mem_map.1 hx
                rw [List.mem_range] at hk
                exact List.mem_map.2 ⟨k, List.mem_range.2 (by omega), rfl⟩
              · rw [nos_one (by omega) (by omega)] at hx; subst hx
                exact ⟨by omega, List.mem_map.2 ⟨no - 1, List.mem_range.2 (by omega), by omega⟩⟩
            refine OT.pures hT 5 rfl (.nil (.seq (.seq (.seq (.region (.pures hT 2 rfl (.nil (.seq (.cond_false rfl (.skip (.seq (.region (.pures hT 2 rfl (.call Try.call15 rfl rfl rfl rfl (book_Lay hI2 (own_at hoI hti hmx (expandC_len ..)) (by rw [hti]; exact hmx)) ?_))))))))))))))
            rintro v_84 hs_84 ⟨H3, rfl, rfl, hB3⟩
            rw [hti] at hB3
            refine OT.nil (.blk (.seq (.region (.pures hT 3 rfl (.nil (.loop (no + 1, (lay Q (expandC Q ((3 : Nat) : Int) xs [(((no : Nat) : Int), Q (no : Nat))])), expandS Q 0 (nosOf (chgOf [(((no : Nat) : Int), Q (no : Nat))])) xs, H3) ?_ ?_ (SubR.cons rfl (SubR.cons rfl (SubR.cons' rfl (by (try dsimp only); exact (int_eq (by rw [wrap_i64 (by omega) (by omega)]; omega))) (SubR.nil _)))) sl))))))
            · dsimp only
              exact ⟨by omega, by omega, hB3, hK2, hxl2, by rw [Nat.add_sub_cancel]; exact hR2, hkp2⟩
            · dsimp only
              omega
          ·
            exact hE.elim
        ·
          have c61 := of_decide_eq_false c61
          have hfn : full = ((no - 1 : Nat) : Int) := by omega
          refine TT.exit (.seq (.loop (.here (.seq (.seq (.region (.pures hT 1 rfl (.call Try.call23 rfl rfl rfl rfl (book_Page hB) ?_))))))))
          rintro v_87 hs_87 ⟨K12, w12, rfl, rfl, ho12⟩
          rw [pg0 (by unfold mayPage; omega)] at ho12 ⊢
          dsimp only at ho12
          refine OT.pures hT 5 rfl (.nil (.seq (.seq (.region (.pures hT 1 rfl (.call Try.call24 rfl rfl rfl rfl (cat_Decode ro (by rw [hK.st.long 0 (by unfold mayPage; omega)]; omega)) ?_))))))
          rintro v_92 hs_92 ⟨w14, HD, rfl, rfl, hoD⟩
          rw [hK.st.cat] at hoD ⊢
          dsimp only at hoD
          obtain ⟨a14, c14, hvw14⟩ := (hoD.row (hs := [])).len
          subst hvw14
          refine OT.pures hT 3 rfl (.alloc Try.zeroValue31 rfl rfl (fun b_14 => ?_))
          refine OT.store_all hT rfl rfl rfl rfl pl rfl rfl rfl (.inl (Nat.le_refl _)) ?_
          refine OT.pures hT 1 rfl (.nil (.seq (.seq (.seq (.region (.pures hT 2 rfl (.nil (.seq (.cond_false rfl (.skip (.seq (.seq (.region (.pures hT 1 rfl (.nil (.seq (.seq (.seq (.region (.pures hT 1 rfl (.nil (.seq (.block (.loop (ι := Nat) (fun j => (j) ≤ 3) (fun j => 3 - (j)) (fun j => [(0, .int .i64 full), (14, .pointer (some ⟨b_14, 0, none⟩)), (16, .int .i64 ((xs.take (j)).filter Snap.inv).length), (17, .int .i64 ((j) : Nat))]) (fun j => [(b_14, blk [.int .i64 ((3 : Nat) : Int), .slice a14 xs.length c14] 31 (0, 0))] :: HD :: hs) (0) ?_ (SubR.cons rfl (SubR.cons rfl (SubR.cons rfl (SubR.cons rfl (SubR.nil _))))) sl ?_))))))))))))))))))))))))
          · omega
          rintro j hj
          show TT _ _ _ [(0, .int .i64 full), (14, .pointer (some ⟨b_14, 0, none⟩)), (16, .int .i64 ((xs.take j).filter Snap.inv).length), (17, .int .i64 (j : Nat))] ([(b_14, blk [.int .i64 ((3 : Nat) : Int), .slice a14 xs.length c14] 31 (0, 0))] :: HD :: hs)
          have hfl : ((xs.take j).filter Snap.inv).length ≤ j := Nat.le_trans (List.length_filter_le _ _) (List.length_take_le _ _)
          refine TT.seq (.seq (.region (.pures hT 2 rfl (.nil (.seq (.cond rfl (fun c98 => ?_) (fun c98 => ?_)))))))
          ·
            have c98 := of_decide_eq_true c98
            obtain ⟨s1, hs1⟩ := nth (l := xs) (i := j) (by omega)
            refine TT.skip (.seq (.seq (.block (.seq (.region (.pures hT 1 rfl (.load rfl rfl (Ld.slc hT rfl hz rfl) rfl ?_)))))))
            refine OT.pures hT 1 rfl (.index hT rfl rfl rfl rfl ro (by omega) (by rw [Int.toNat_natCast]; exact hs1) rfl (fun ad_104 hel_104 => ?_))
            obtain ⟨eb_104, eo_104, rfl, hfld_104⟩ := hel_104.at (P := Try.prog)
            refine OT.pures hT 1 rfl (.load rfl rfl (hfld_104 hT rfl rfl) rfl (.nil (.seq (.cond rfl (fun c106 => ?_) (fun c106 => ?_)))))
            ·
              refine TT.region (.pures hT 3 rfl (.nil (.blk (.seq (.region (.pures hT 3 rfl (.nil (.loop (j + 1) ?_ ?_ (SubR.cons rfl (SubR.cons rfl (SubR.cons' rfl (by (try dsimp only); exact (int_eq (by rw [filter_take_succ _ hs1, if_pos c106, List.length_append, wrap_i64 (by omega) (by omega)]; rfl))) (SubR.cons' rfl (by (try dsimp only); exact (int_eq (by rw [wrap_i64 (by omega) (by omega)]; omega))) (SubR.nil _))))) sl))))))))
              · omega
              · omega
            ·
              refine TT.skip (.blk (.seq (.region (.pures hT 3 rfl (.nil (.loop (j + 1) ?_ ?_ (SubR.cons rfl (SubR.cons rfl (SubR.cons' rfl (by (try dsimp only); exact (int_eq (by rw [filter_take_succ _ hs1, if_neg (by rw [c106]; simp), List.append_nil]))) (SubR.cons' rfl (by (try dsimp only); exact (int_eq (by rw [wrap_i64 (by omega) (by omega)]; omega))) (SubR.nil _))))) sl))))))
              · omega
              · omega
          ·
            have c98 := of_decide_eq_false c98
            rw [List.take_of_length_le (by omega)] at hfl
            obtain ⟨hcn, hcb⟩ := count_all (r := no - 1) (by omega) (fun s hs => ⟨hK.st.h32 s hs, (hK.st.good.each s hs).2.2.2⟩) hR
            have hg64 := gather_64 hK.st.good
            refine TT.reg 16 rfl (v := .int .i64 (xs.filter Snap.inv).length) (by rw [List.take_of_length_le (by omega)]) (.exit (.seq (.loop (.here (.seq (.seq (.region (.load rfl rfl (Ld.struct_all hT rfl hz rfl) rfl ?_))))))))
            refine OT.call Try.call25 rfl rfl rfl rfl (cat_Copies (next := ((3 : Nat) : Int)) ro (by omega)) ?_
            rintro v_110 hs_110 ⟨HC, rfl, hoC⟩
            have hcl : (copiesP xs).length = (gather xs).length := List.length_mergeSort _
            obtain ⟨aC, cC, hvC⟩ := (hoC.row (hs := [])).len
            subst hvC
            refine OT.pures hT 2 rfl (.nil (.seq (.seq (.seq (.region (.pures hT 3 rfl (.nil (.seq (.cond rfl (fun c114 => ?_) (fun c114 => ?_))))))))))
            ·
              have c114 := of_decide_eq_true c114
              rw [wrap_i64 (by omega) (by omega)] at c114
              have hb0 : (xs.filter Snap.inv).length = 0 := by
                rw [List.length_eq_zero_iff, List.filter_eq_nil_iff]
                intro s hs; rw [(hkp (by omega) s hs).1]; simp
              rw [hb0, hxl] at hcn
              refine TT.seq (.region (.pures hT 3 rfl (.split 117 rfl (fun g117 => ?_) (fun g117 => ?_))))
              ·
                refine OT.pures hT 6 rfl (.nil (.seq (.ret (.of (rs := [.tmp 2]) [_] hs rfl (.tmp rfl .nil) sl ?_))))
                dsimp only [one]
                exact ⟨congrArg Value.bool (beq_iff_eq.2 (by rw [wrap_i64 (by omega) (by omega)]; omega)), rfl⟩
              ·
                exact absurd hb0 (by have := beq_eq_false_iff_ne.1 g117; omega)
            ·
              have c114 := of_decide_eq_false c114
              rw [wrap_i64 (by omega) (by omega)] at c114
              rw [hxl] at hcn hcb
              have hb1 : 1 ≤ (xs.filter Snap.inv).length := Nat.one_le_iff_ne_zero.2 fun h0 => by rw [h0] at hcn; omega
              refine TT.skip (.seq (.seq (.region (.pures hT 3 rfl (.split 125 rfl (fun g125 => ?_) (fun g125 => ?_))))))
              ·
                refine OT.pures hT 4 rfl (.split 129 rfl (fun g129 => ?_) (fun g129 => ?_))
                ·
                  refine OT.pures hT 8 rfl (.nil (.seq (.ret (.of (rs := [.tmp 2]) [_] hs rfl (.tmp rfl .nil) sl ?_))))
                  dsimp only [one]
                  refine ⟨congrArg Value.bool (beq_iff_eq.2 ?_), rfl⟩
                  rw [wrap_i64 (n := 3 - ((xs.filter Snap.inv).length : Int)) (by omega) (by omega)]
                  have hm : full * (3 - ((xs.filter Snap.inv).length : Int)) = (((no - 1) * (3 - (xs.filter Snap.inv).length) : Nat) : Int) := by rw [hfn, Int.natCast_mul, Int.ofNat_sub hcb]; rfl
                  rw [hm, wrap_i64 (by omega) (by omega)]
                  omega
                ·
                  exact absurd hg64 (by have := of_decide_eq_false g129; omega)
              ·
                exact absurd hb1 (by have := of_decide_eq_false g125; omega)

end Go.Proofs.Ytnhkgchcdbideaa.Sx
end

section
namespace Go.Proofs.Ytnhkgchcdbideaa.Sx
open Go Go.Sx Go.Pl
variable [Outer]

set_option maxHeartbeats 8000000 in
set_option maxRecDepth 100000 in
theorem law_CowShows {v cv : Value} {us : List UInt8} {cs0 : List RawsV} {snaps : Int} {hs : List Chunk} (hu : Row Go.Sx.encB 1 hs v us) (hc : Row encRR 1 hs cv cs0) (hcl : cs0.length ≤ 9223372036854775807) (hcr : ∀ x ∈ cs0, RawsAt hs x.1 x.2) (hr : -9223372036854775808 ≤ snaps ∧ snaps ≤ 9223372036854775807) (hbegun : ∀ hs, Fun Try.prog 10 [] hs fun v' hs' => v' = .bool true ∧ hs = hs') : Fun Try.prog 3 [v, cv, .int .i64 snaps] hs (fun v' hs' => v' = .bool true ∧ hs = hs') := by
  refine Fun.enter 162 Try.func3 rfl Try.ntmps3 rfl ?_
  obtain ⟨ac, cc, hcv⟩ := hc.len
  subst hcv
  refine TT.seq (.region (.pures hT 1 rfl (.nil (.seq (.seq (.region (.call Try.call10 rfl rfl rfl rfl (hbegun _) ?_)))))))
  rintro v_26 hs_26 ⟨rfl, rfl⟩
  refine OT.pures hT 1 rfl (.nil (.seq (.seq (.seq (.region (.pures hT 2 rfl (.nil (.seq (.cond_false rfl (.skip (.seq (.seq (.seq (.region (.pures hT 3 rfl (.split 31 rfl (fun g31 => ?_) (fun g31 => ?_)))))))))))))))))
  ·
    have g31 := of_decide_eq_true g31
    refine OT.pures hT 3 rfl (.nil (.seq (.cond_true rfl (.seq (.region (.pures hT 1 rfl (.nil (.seq (.ret (.of (rs := [.tmp 6]) [_] hs rfl (.tmp rfl .nil) sl ?_))))))))))
    dsimp only [one]
    exact ⟨rfl, rfl⟩
  ·
    have g31 := of_decide_eq_false g31
    refine OT.pures hT 3 rfl (.nil (.seq (.cond rfl (fun c34 => ?_) (fun c34 => ?_))))
    ·
      have c34 := of_decide_eq_true c34
      refine TT.seq (.region (.pures hT 1 rfl (.nil (.seq (.ret (.of (rs := [.tmp 6]) [_] hs rfl (.tmp rfl .nil) sl ?_))))))
      dsimp only [one]
      exact ⟨rfl, rfl⟩
    ·
      have c34 := of_decide_eq_false c34
      obtain ⟨m, rfl⟩ : ∃ m : Nat, snaps = m := ⟨snaps.toNat, by omega⟩
      refine TT.skip (.seq (.seq (.region (.build (cs := bkCells (List.replicate 96 (.slice none 0 0))) hT rfl Try.zeroValue28 rfl rfl kr rfl (.box rfl rfl rfl (fun b_36 => ?_))))))
      refine OT.pures hT 1 rfl (.nil (.seq (.seq (.region ?_))))
      refine OT.make (enc := Go.Sx.encB) (z0 := (0 : UInt8)) (n := 256) el22 Try.zeroValue5 rfl rfl rfl rfl rfl (by omega) rfl (fun v_37 H_37 ho_37 => ?_)
      obtain ⟨B1, O1, C1, _, _, hv37, _⟩ := ho_37.over (by rw [List.length_replicate]; decide)
      rw [List.length_replicate] at hv37
      subst hv37
      refine OT.pures hT 1 rfl (.nil (.seq (.seq (.region (.pures hT 2 rfl (.copy_own 0 hT rfl rfl rfl rfl pl ho_37 (hu.mono fun b o hb => Has.sel sl hb) (by simp; omega) (by simp) (ones_bytes _) rfl (fun H_40 ho_40 => ?_)))))))
      refine OT.nil (.seq (.seq (.region (.pures hT 4 rfl (.index_at hT rfl rfl rfl rfl (by omega) (by decide) rfl ?_)))))
      have hB0 : BkAt 28 b_36 (fun _ => noughts 256) [(b_36, blk (bkCells (List.replicate 96 (.slice none 0 0))) 28 (0, 0))] := BkAt.one (Slots.zero [[]])
      show OT _ _ _ _ _ (_ :: [(b_36, blk (bkCells (List.replicate 96 (.slice none 0 0))) 28 (0, 0))] :: hs)
      generalize ([(b_36, blk (bkCells (List.replicate 96 (.slice none 0 0))) 28 (0, 0))] : Chunk) = HB at hB0 ⊢
      have hp1l : (over (List.replicate 256 (0 : UInt8)) 0 (us.take 256)).length = 256 := by
        rw [length_over (by rw [List.length_take, List.length_replicate]; omega), List.length_replicate]
      generalize over (List.replicate 256 (0 : UInt8)) 0 (us.take 256) = P1 at ho_40 hp1l ⊢
      refine OT.bk_store (no := 1) hT rfl rfl rfl rfl pl hB0 pl ho_40 hp1l rfl (by decide) (fun H_x hb_x ht_x => ?_)
      refine OT.nil (.seq (.seq (.region (.alloc Try.zeroValue31 rfl rfl (fun b_10 => ?_)))))
      refine OT.nil (.seq (.seq (.seq (.region (.pures hT 1 rfl (.nil (.seq (.block (.chunk0 (.loop (ι := Nat × Value × Chunk) (fun j => (j.1) ≤ m ∧ Own encSnap 35 45 (j.2.1) (snapsN (j.1)) (j.2.2)) (fun j => m - (j.1)) (fun j => [(1, .slice ac cs0.length cc), (2, .int .i64 (m : Nat)), (8, .pointer (some ⟨b_36, 0, none⟩)), (10, .pointer (some ⟨b_10, 0, none⟩)), (11, .int .i64 ((j.1) : Nat))]) (fun j => [(b_10, blk [.int .i64 (((j.1) : Nat) : Int), (j.2.1)] 31 (0, 0))] :: (j.2.2) :: H_x :: hs) (0, .slice none 0 0, []) ?_ (SubR.cons rfl (SubR.cons rfl (SubR.cons rfl (SubR.cons rfl (SubR.cons rfl (SubR.nil _)))))) sl ?_))))))))))
      · dsimp only
        exact ⟨by omega, Own.nil⟩
      rintro ⟨i, v, HS⟩ hI
      dsimp only at hI
      obtain ⟨hi, hoS⟩ := hI
      show TT _ _ _ [(1, .slice ac cs0.length cc), (2, .int .i64 (m : Nat)), (8, .pointer (some ⟨b_36, 0, none⟩)), (10, .pointer (some ⟨b_10, 0, none⟩)), (11, .int .i64 (i : Nat))] ([(b_10, blk [.int .i64 ((i : Nat) : Int), v] 31 (0, 0))] :: HS :: H_x :: hs)
      obtain ⟨aS, cS, hvS⟩ := (hoS.row (hs := [])).len
      subst hvS
      refine TT.seq (.seq (.region (.pures hT 3 rfl (.nil (.seq (.cond rfl (fun c48 => ?_) (fun c48 => ?_)))))))
      ·
        have c48 := of_decide_eq_true c48
        refine TT.skip (.seq (.seq (.block (.region (.load rfl rfl (Ld.struct_all hT rfl hz rfl) rfl ?_)))))
        refine OT.pures hT 3 rfl (.reg 55 rfl (v := .int .u8 ((b8 (97 + ((i : Nat) : Int))).toNat : Int)) (int_eq (by rw [wrap_i64 (by omega) (by omega)]; exact b8_wrap _)) ?_)
        refine OT.buildSlice (enc := Go.Sx.encB) (xs := [b8 (97 + ((i : Nat) : Int))]) (xos := [.tmp 55]) el22 rfl rfl rfl rfl rfl (by simp [Value.cells]) (fun _ _ => rfl) rfl (by decide) rfl (fun v_56 H_56 ho_56 => ?_)
        refine OT.conv_bs (fun _ => rfl) hT rfl rfl rfl rfl rfl ro rfl ?_
        refine OT.call Try.call11 rfl rfl rfl rfl (cat_Add (next := (i : Nat)) (nm := nmK i) ro (by rw [snapsN_len]; omega) (by omega)) ?_
        rintro v_58 hs_58 ⟨w2, HS2, rfl, rfl, hoS2⟩
        rw [snapsN_add (by omega)] at hoS2 ⊢
        dsimp only at hoS2
        obtain ⟨a2, c2, hvw2⟩ := (hoS2.row (hs := [])).len
        subst hvw2
        refine OT.pures hT 3 rfl (.store_all hT rfl rfl rfl rfl pl rfl rfl rfl (.inl (Nat.le_refl _)) ?_)
        refine OT.nil (.blk (.seq (.region (.pures hT 3 rfl (.nil (.loop (i + 1, _, HS2) ?_ ?_ (SubR.cons rfl (SubR.cons rfl (SubR.cons rfl (SubR.cons rfl (SubR.cons' rfl (by (try dsimp only); exact (int_eq (by rw [wrap_i64 (by omega) (by omega)]; omega))) (SubR.nil _)))))) sl))))))
        · dsimp only
          exact ⟨by omega, hoS2⟩
        · dsimp only
          omega
      ·
        have c48 := of_decide_eq_false c48
        obtain rfl : i = m := by omega
        refine TT.exit (.seq (.loop (.here (.seq (.seq (.draw (([(b_10, blk [.int .i64 ((i : Nat) : Int), .slice aS (snapsN i).length cS] 31 (0, 0))] :: HS :: hs)) mixed (.takes (fuel := 7) hT [0, 6, 7] kr kr rfl (.take (fuel := 6) hT 1 rfl rfl kr kr kr rfl (.load rfl (Ld.struct_all hT rfl hz rfl)) rfl ?_))))))))
        refine AT.op (fuel := 5) 2 kr rfl sl (.call Try.call12 rfl rfl rfl rfl (cat_Encode ro (by rw [snapsN_len]; omega)) ?_)
        rintro v_64 hs_64 ⟨wE, HE, rfl, rfl, hoE⟩
        refine OT.nil (.any (.takes (fuel := 2) hT [3, 4, 5] kr kr rfl (.index_at (fuel := 1) hT 8 rfl kr kr kr rfl rfl rfl rfl (by omega) (by decide) rfl (.op (fuel := 0) 9 kr rfl sl (.bk_store (no := 0) hT rfl rfl rfl rfl pl hb_x pl hoE (encode_256 snapsN_35 (may_iff.2 (snapsN_good i (by omega)).1)) rfl (by decide) (fun H_y hb_y ht_y => ?_))))))
        refine OT.nil (.any (.done kr sl (.seq (.seq (.region (.pures hT 3 rfl ?_))))))
        have hK0 := snapsN_keeps hb_x.long (i := i) (by omega)
        have hN0 := (snapsN_good i (by omega)).2
        obtain ⟨vs0, G0, hS0, rfl⟩ := hb_y.is
        have hv0 := hS0.len
        refine OT.load rfl rfl (Ld.arr hT rfl (Has.here (List.mem_cons_self ..)) (by show ((bkCells vs0).drop 0).take 96 = vs0; unfold bkCells; rw [List.drop_zero, List.take_left' hv0]) hv0) rfl ?_
        refine OT.alloc Try.zeroValue26 rfl rfl (fun b_12 => ?_)
        refine OT.store_all hT rfl rfl rfl rfl pl (by exact hv0) rfl (slots_ones hS0) (.inl (Nat.le_refl _)) ?_
        refine OT.nil (.seq (.seq (.seq (.region (.pures hT 1 rfl (.nil (.seq (.block (.loop (ι := Nat × Pages × (List Snap) × Chunk) (fun j => (j.1) ≤ cs0.length ∧ (j.1) ≤ 12 ∧ BkAt 28 b_36 (j.2.1) (j.2.2.2) ∧ (∀ x ∈ G0, x ∈ (j.2.2.2).tail) ∧ Keeps (j.2.1) ((i : Nat) : Int) (j.2.2.1) (List.replicate i (upd (fun _ => noughts 256) ((1 : Nat) : Int) P1)) ∧ Named (j.2.2.1) ∧ (j.2.2.1).length = i ∧ (i ≤ 2 → Kept D31 (j.2.2.1))) (fun j => cs0.length - (j.1)) (fun j => [(1, .slice ac cs0.length cc), (2, .int .i64 (i : Nat)), (8, .pointer (some ⟨b_36, 0, none⟩)), (12, .pointer (some ⟨b_12, 0, none⟩)), (13, .int .i64 ((j.1) : Nat))]) (fun j => [(b_12, blk vs0 26 (0, 0))] :: (j.2.2.2) :: hs) (0, (upd (upd (fun _ => noughts 256) ((1 : Nat) : Int) P1) ((0 : Nat) : Int) (encode ((i : Nat) : Int) (snapsN i)).1), snapsN i, ([(b_36, blk (bkCells vs0) 28 (0, 0))] ++ G0)) ?_ (SubR.cons rfl (SubR.cons rfl (SubR.cons rfl (SubR.cons rfl (SubR.cons rfl (SubR.nil _)))))) sl ?_)))))))))
        · dsimp only
          exact ⟨by omega, by omega, hb_y, (fun x h => h), hK0, hN0, snapsN_len i, fun _ => snapsN_kept _⟩
        rintro ⟨pj, Q, xs, H1⟩ hI
        dsimp only at hI
        obtain ⟨hj, hj12, hB, hTl, hK, hN, hxl, hkp⟩ := hI
        show TT _ _ _ [(1, .slice ac cs0.length cc), (2, .int .i64 (i : Nat)), (8, .pointer (some ⟨b_36, 0, none⟩)), (12, .pointer (some ⟨b_12, 0, none⟩)), (13, .int .i64 (pj : Nat))] ([(b_12, blk vs0 26 (0, 0))] :: H1 :: hs)
        refine TT.seq (.seq (.region (.pures hT 5 rfl (.split 78 rfl (fun g78 => ?_) (fun g78 => ?_)))))
        ·
          have g78 := of_decide_eq_true g78
          obtain ⟨rv, hrv⟩ := nth (l := cs0) (i := pj) (by omega)
          obtain ⟨rw_, ts⟩ := rv
          have hra : RawsAt hs rw_ ts := hcr _ (List.mem_of_getElem? hrv)
          obtain ⟨ar, cr, hrw⟩ := hra.row.len
          subst hrw
          refine OT.pures hT 3 rfl (.nil (.seq (.cond rfl (fun c81 => ?_) (fun c81 => ?_))))
          ·
            have c81 := of_decide_eq_true c81
            refine TT.skip (.seq (.seq (.block (.seq (.region (.pures hT 2 rfl (.index hT rfl rfl rfl rfl (hc.mono fun b o hb => Has.sel sl hb) (by omega) (by rw [Int.toNat_natCast]; exact hrv) rfl (fun ad_86 hel_86 => ?_))))))))
            refine OT.load rfl rfl (hel_86.ld_slc hT rfl rfl) rfl (.call Try.call13 rfl rfl rfl rfl (law21_data hra (fun b o hb => Has.sel sl hb)) ?_)
            rintro v_88 hs_88 ⟨KD, ED, rfl, hM⟩
            have hl8 : (dataL (rawImgs ts 8)).length ≤ 8 := Nat.le_trans (dataL_len _) (rawImgs_8 ts)
            have hlo := dataL_short (rawImgs_short ts 8)
            obtain ⟨os, hos, hIm, ao, co, hv88⟩ := mix_ims (hs := KD :: ED :: [(b_12, blk vs0 26 (0, 0))] :: hs) hM (fun b o hb => has_one_there hb) (fun b o hb => Has.sel sl hb) (by omega) hlo
            subst hv88
            have hol : os.length = (dataL (rawImgs ts 8)).length := by rw [← imgs_length, hos]
            refine OT.pures hT 1 rfl (.nil (.seq (.seq (.seq (.region (.pures hT 3 rfl (.nil (.seq (.cond rfl (fun c91 => ?_) (fun c91 => ?_))))))))))
            ·
              have c91 := beq_iff_eq.1 c91
              refine TT.exit (.seq (.here (.seq (.region (.pures hT 3 rfl (.nil (.loop (pj + 1, Q, xs, H1) ?_ ?_ (SubR.cons rfl (SubR.cons rfl (SubR.cons rfl (SubR.cons rfl (SubR.cons' rfl (by (try dsimp only); exact (int_eq (by rw [wrap_i64 (by omega) (by omega)]; omega))) (SubR.nil _)))))) sl)))))))
              · dsimp only
                exact ⟨by omega, by omega, hB, hTl, hK, hN, hxl, hkp⟩
              · dsimp only
                omega
            ·
              have c91 := beq_eq_false_iff_ne.1 c91
              have hd : DataImgs (dataL (rawImgs ts 8)) := dataL_data (fun h => c91 (by rw [hol, h]; rfl))
              refine TT.skip (.seq (.seq (.region (.pures hT 1 rfl (.mkiface Try.underlying25 rfl rfl rfl rfl (.pures hT 1 rfl (.call Try.call14 rfl rfl rfl rfl (Fun.pull pl (cow_Expand (I := fun H => H = H1) (book_PgsI fun _ e => e ▸ hB) rfl hK.st.long hK.st.cat hK.st.good hIm (by rw [hos]; exact hd))) ?_)))))))
              rintro v_96 hs_96 (⟨v, ts2, HI, H2, rfl, rfl, hoI, hti, hI2⟩ | ⟨_, _, _, _, hE, _⟩)
              ·
                subst hI2
                rw [hos] at hti
                have hmx := expandC_may hK.st hd
                have hK2 := hK.step hd
                have hlk := (expandS_good (Q := Q) (but := 0) hK.st.good hK.st.h32 (nosOf_nodup (chgOf (dataL (rawImgs ts 8))))).2
                have hN2 := hN.likes hlk
                have hxl2 : (expandS Q 0 (nosOf (chgOf (dataL (rawImgs ts 8)))) xs).length = i := hlk.1.symm.trans hxl
                have hkp2 : i ≤ 2 → Kept D31 (expandS Q 0 (nosOf (chgOf (dataL (rawImgs ts 8)))) xs) := fun h => (hkp h).step (by rw [hxl, D31_len]; omega) fun no hno => ⟨by have := nosOf_data hd no hno; omega, D31_mem (nosOf_data hd no hno).1 (nosOf_data hd no hno).2⟩
                refine OT.pures hT 5 rfl (.nil (.seq (.seq (.seq (.region (.pures hT 2 rfl (.nil (.seq (.cond_false rfl (.skip (.seq (.seq (.region (.pures hT 2 rfl (.call Try.call15 rfl rfl rfl rfl (book_LayK hB (own_at hoI hti hmx (expandC_len ..)) (by rw [hti]; exact hmx)) ?_)))))))))))))))
                rintro v_103 hs_103 ⟨H3, rfl, rfl, hB3, hT3⟩
                rw [hti] at hB3
                have hT4 : ∀ x ∈ G0, x ∈ H3.tail := fun x hx => hT3 x (hTl x hx)
                refine OT.nil (.seq (.seq (.region (.pures hT 1 rfl (.nil (.seq (.block ?_)))))))
                generalize (lay Q (expandC Q ((i : Nat) : Int) xs (dataL (rawImgs ts 8)))) = Q2 at hB3 hK2
                generalize (expandS Q 0 (nosOf (chgOf (dataL (rawImgs ts 8)))) xs) = xs2 at hK2 hN2 hxl2 hkp2
                refine TT.loop (ι := Nat) (fun j => (j) ≤ i) (fun j => i - (j)) (fun j => [(1, .slice ac cs0.length cc), (2, .int .i64 (i : Nat)), (8, .pointer (some ⟨b_36, 0, none⟩)), (12, .pointer (some ⟨b_12, 0, none⟩)), (13, .int .i64 (pj : Nat)), (17, .int .i64 ((j) : Nat))]) (fun j => [(b_12, blk vs0 26 (0, 0))] :: H3 :: hs) (0) ?_ (SubR.cons rfl (SubR.cons rfl (SubR.cons rfl (SubR.cons rfl (SubR.cons rfl (SubR.cons rfl (SubR.nil _))))))) sl ?_
                · omega
                rintro k hk
                show TT _ _ _ [(1, .slice ac cs0.length cc), (2, .int .i64 (i : Nat)), (8, .pointer (some ⟨b_36, 0, none⟩)), (12, .pointer (some ⟨b_12, 0, none⟩)), (13, .int .i64 (pj : Nat)), (17, .int .i64 (k : Nat))] ([(b_12, blk vs0 26 (0, 0))] :: H3 :: hs)
                refine TT.seq (.seq (.region (.pures hT 3 rfl (.nil (.seq (.cond rfl (fun c106 => ?_) (fun c106 => ?_)))))))
                ·
                  have c106 := of_decide_eq_true c106
                  obtain ⟨s, hsx⟩ := nth (l := xs2) (i := k) (by omega)
                  have hsh : shownOf xs2 (nmK k) = if s.inv = true then none else some s := shown_named hN2 hK2.st.good hsx
                  have hwr : (List.replicate i (upd (fun _ => noughts 256) ((1 : Nat) : Int) P1))[k]? = some (upd (fun _ => noughts 256) ((1 : Nat) : Int) P1) := by rw [List.getElem?_replicate, if_pos (by omega)]
                  refine TT.skip (.seq (.seq (.block (.seq (.region (.pures hT 4 rfl (.reg 113 rfl (v := .int .u8 ((b8 (97 + ((k : Nat) : Int))).toNat : Int)) (int_eq (by rw [wrap_i64 (by omega) (by omega)]; exact b8_wrap _)) ?_)))))))
                  refine OT.buildSlice (enc := Go.Sx.encB) (xs := [b8 (97 + ((k : Nat) : Int))]) (xos := [.tmp 113]) el22 rfl rfl rfl rfl rfl (by simp [Value.cells]) (fun _ _ => rfl) rfl (by decide) rfl (fun v_114 H_114 ho_114 => ?_)
                  refine OT.conv_bs (fun _ => rfl) hT rfl rfl rfl rfl rfl ro rfl ?_
                  refine OT.call Try.call16 rfl rfl rfl rfl (Fun.pull pl (law21_show (nm := nmK k) hB3 hK2.st)) ?_
                  rintro v_116 hs_116 ⟨rfl, cs, rfl, hcl, hco, hcs⟩
                  refine OT.pures hT 3 rfl (.alloc Try.zeroValue47 rfl rfl (fun b_18 => ?_))
                  refine OT.store_all hT rfl rfl rfl rfl pl (by exact hcl) rfl hco (.inl (Nat.le_refl _)) ?_
                  refine OT.pures hT 1 rfl (.nil (.seq (.seq (.seq (.region (.pures hT 3 rfl (.split 121 rfl (fun g121 => ?_) (fun g121 => ?_))))))))
                  ·
                    refine OT.pures hT 3 rfl (.nil (.seq (.cond rfl (fun c124 => ?_) (fun c124 => ?_))))
                    ·
                      have c124 := of_decide_eq_true c124
                      refine TT.exit (.seq (.here (.seq (.region (.pures hT 3 rfl (.nil (.loop (k + 1) ?_ ?_ (SubR.cons rfl (SubR.cons rfl (SubR.cons rfl (SubR.cons rfl (SubR.cons rfl (SubR.cons' rfl (by (try dsimp only); exact (int_eq (by rw [wrap_i64 (by omega) (by omega)]; omega))) (SubR.nil _))))))) sl)))))))
                      · omega
                      · omega
                    ·
                      have c124 := of_decide_eq_false c124
                      refine TT.skip (.seq (.seq (.seq (.region (.pures hT 2 rfl (.nil (.seq (.cond rfl (fun c126 => ?_) (fun c126 => ?_)))))))))
                      ·
                        have hi := (hkp2 (by omega) s (List.mem_of_getElem? hsx)).1
                        rw [hsh, if_neg (by rw [hi]; simp)] at c126; cases c126
                      ·
                        rw [g121] at c126; cases c126
                  ·
                    refine OT.pures hT 3 rfl (.nil (.seq (.cond_false rfl (.skip (.seq (.seq (.seq (.region (.pures hT 2 rfl (.nil (.seq (.cond rfl (fun c126 => ?_) (fun c126 => ?_)))))))))))))
                    ·
                      rw [g121] at c126; cases c126
                    ·
                      have c126 : (shownOf xs2 (nmK k)).isSome = true := by simpa using c126
                      have hinv : s.inv = false := by cases e : s.inv with
                        | false => rfl
                        | true => rw [hsh, if_pos e] at c126; cases c126
                      rw [if_neg (by rw [hinv]; simp)] at hsh
                      obtain rfl := hcs _ hsh
                      have h35 := hK2.st.h35 s (List.mem_of_getElem? hsx)
                      have hsd := hK2.st.good.sides s (List.mem_of_getElem? hsx)
                      have hs1 := hK2.shows k s _ hsx hwr hinv 1 (by omega) (by omega) (.inl rfl)
                      refine TT.skip (.seq (.seq (.region (.pures hT 1 rfl (.nil (.seq (.block (.loop (ι := Nat) (fun j => 1 ≤ (j) ∧ (j) ≤ 32) (fun j => 32 - (j)) (fun j => [(1, .slice ac cs0.length cc), (2, .int .i64 (i : Nat)), (8, .pointer (some ⟨b_36, 0, none⟩)), (12, .pointer (some ⟨b_12, 0, none⟩)), (13, .int .i64 (pj : Nat)), (17, .int .i64 (k : Nat)), (18, .pointer (some ⟨b_18, 0, none⟩)), (20, .int .i64 ((j) : Nat))]) (fun j => [(b_18, blk (.pointer (some ⟨b_36, 0, none⟩) :: encSnap s) 47 (0, 0))] :: H3 :: [(b_12, blk vs0 26 (0, 0))] :: hs) (1) ?_ (SubR.cons rfl (SubR.cons rfl (SubR.cons rfl (SubR.cons rfl (SubR.cons rfl (SubR.cons rfl (SubR.cons rfl (SubR.cons rfl (SubR.nil _))))))))) sl ?_))))))))
                      · omega
                      rintro no ⟨hno, hno2⟩
                      show TT _ _ _ [(1, .slice ac cs0.length cc), (2, .int .i64 (i : Nat)), (8, .pointer (some ⟨b_36, 0, none⟩)), (12, .pointer (some ⟨b_12, 0, none⟩)), (13, .int .i64 (pj : Nat)), (17, .int .i64 (k : Nat)), (18, .pointer (some ⟨b_18, 0, none⟩)), (20, .int .i64 (no : Nat))] ([(b_18, blk (.pointer (some ⟨b_36, 0, none⟩) :: encSnap s) 47 (0, 0))] :: H3 :: [(b_12, blk vs0 26 (0, 0))] :: hs)
                      refine TT.seq (.seq (.region (.pures hT 2 rfl (.nil (.seq (.cond rfl (fun c128 => ?_) (fun c128 => ?_)))))))
                      ·
                        have c128 := of_decide_eq_true c128
                        obtain ⟨vo, hvo, hslo⟩ := hS0.at_ no (by omega)
                        have hlo2 := hslo.len
                        obtain ⟨sp, sn, sc, rfl, hsN, hsS⟩ := hslo.slice
                        have hq0 : (upd (upd (fun _ => noughts 256) ((1 : Nat) : Int) P1) ((0 : Nat) : Int) (encode ((i : Nat) : Int) (snapsN i)).1) (no : Nat) = (upd (fun _ => noughts 256) ((1 : Nat) : Int) P1) (no : Nat) := by unfold upd; rw [if_neg (by omega)]
                        rw [hq0] at hslo hlo2 hsN hsS
                        refine TT.skip (.seq (.seq (.block (.seq (.region (.load rfl rfl (Ld.struct_all hT rfl hz (by exact hcl)) rfl ?_))))))
                        refine OT.mkiface Try.underlying47 rfl rfl rfl rfl (.pures hT 1 rfl (.call Try.call17 rfl rfl rfl rfl (Fun.pull pl (alloc_Used (shown_PgsI (I := fun H => H = H3) (fun _ e => e ▸ hB3) h35 hsd) rfl)) ?_))
                        rintro v_135 hs_135 ⟨H5, ub, ue, rfl, rfl, hU⟩
                        obtain ⟨hub, hH5⟩ := used_ok hU (by rw [viewPg_ok hsd (by omega) (by omega)]) (by rw [viewPg_ok hsd (by omega) (by omega), hs1]; have := hK2.st.long _ (viewNo_may hsd (no := 1) (by unfold mayPage; omega)); rwa [hs1] at this)
                        subst hH5
                        rw [viewPg_ok hsd (by omega) (by omega), hs1] at hub
                        refine OT.pures hT 5 rfl (.nil (.seq (.seq (.region (.load rfl rfl (Ld.struct_all hT rfl hz (by exact hcl)) rfl ?_)))))
                        refine OT.pures hT 1 rfl (.call Try.call18 rfl rfl rfl rfl (Fun.pull pl (shown_Page hB3 h35 hsd)) ?_)
                        rintro v_141 hs_141 ⟨KQ, wq, rfl, rfl, hoQ⟩
                        rw [viewPg_ok hsd (by omega) (by omega)] at hoQ ⊢
                        dsimp only at hoQ
                        refine OT.pures hT 5 rfl (.nil (.seq (.seq (.region (.pures hT 1 rfl (.index_at hT rfl rfl rfl rfl (by omega) (by omega) rfl (.load rfl rfl (Ld.slc hT rfl hz (by rw [show 0 + ((no : Nat) : Int).toNat * 1 = no by omega]; exact hvo)) rfl ?_)))))))
                        refine OT.pures hT 1 rfl (.nil (.seq (.cut (ι := Value × Chunk) (fun j => Row Go.Sx.encB 1 ((j.2) :: H5 :: hs) (j.1) ((upd (fun _ => noughts 256) ((1 : Nat) : Int) P1) (no : Nat))) (fun j => [(1, .slice ac cs0.length cc), (2, .int .i64 (i : Nat)), (8, .pointer (some ⟨b_36, 0, none⟩)), (12, .pointer (some ⟨b_12, 0, none⟩)), (13, .int .i64 (pj : Nat)), (17, .int .i64 (k : Nat)), (18, .pointer (some ⟨b_18, 0, none⟩)), (20, .int .i64 (no : Nat)), (21, .bool ub), (23, wq), (25, (j.1))]) (fun j => (j.2) :: KQ :: [(b_18, blk (.pointer (some ⟨b_36, 0, none⟩) :: encSnap s) 47 (0, 0))] :: H5 :: [(b_12, blk vs0 26 (0, 0))] :: hs) ?_ ?_)))
                        ·
                          refine TT.seq (.region (.pures hT 2 rfl (.nil (.seq (.cond rfl (fun c148 => ?_) (fun c148 => ?_))))))
                          ·
                            refine TT.region ?_
                            refine OT.make (enc := Go.Sx.encB) (z0 := (0 : UInt8)) (n := 256) el22 Try.zeroValue5 rfl rfl rfl rfl rfl (by omega) rfl (fun v_149 H_149 ho_149 => ?_)
                            refine OT.pures hT 1 rfl (.nil (.cut (v_149, H_149) ?_ (SubR.cons rfl (SubR.cons rfl (SubR.cons rfl (SubR.cons rfl (SubR.cons rfl (SubR.cons rfl (SubR.cons rfl (SubR.cons rfl (SubR.cons rfl (SubR.cons rfl (SubR.cons rfl (SubR.nil _)))))))))))) sl))
                            · dsimp only
                              rw [hsN c148]; exact ho_149.row
                          ·
                            refine TT.skip (.chunk0 (.cut (_, []) ?_ (SubR.cons rfl (SubR.cons rfl (SubR.cons rfl (SubR.cons rfl (SubR.cons rfl (SubR.cons rfl (SubR.cons rfl (SubR.cons rfl (SubR.cons rfl (SubR.cons rfl (SubR.cons rfl (SubR.nil _)))))))))))) sl))
                            · dsimp only
                              exact (hsS c148).mono fun b o hb => .there (has_one_there (has_tail hT4 hb))
                        ·
                          rintro ⟨vo, B⟩ hI
                          dsimp only at hI
                          have hro := hI
                          show TT _ _ _ [(1, .slice ac cs0.length cc), (2, .int .i64 (i : Nat)), (8, .pointer (some ⟨b_36, 0, none⟩)), (12, .pointer (some ⟨b_12, 0, none⟩)), (13, .int .i64 (pj : Nat)), (17, .int .i64 (k : Nat)), (18, .pointer (some ⟨b_18, 0, none⟩)), (20, .int .i64 (no : Nat)), (21, .bool ub), (23, wq), (25, vo)] (B :: KQ :: [(b_18, blk (.pointer (some ⟨b_36, 0, none⟩) :: encSnap s) 47 (0, 0))] :: H5 :: [(b_12, blk vs0 26 (0, 0))] :: hs)
                          refine TT.seq (.region (.pures hT 3 rfl (.split 152 rfl (fun g152 => ?_) (fun g152 => ?_))))
                          ·
                            have g152 := beq_iff_eq.1 g152
                            have hshow := hK2.shows k s _ hsx hwr hinv (no : Nat) (by omega) (by omega) (.inl g152)
                            refine OT.pures hT 4 rfl (.conv_bs (fun _ => rfl) hT rfl rfl rfl rfl rfl ro rfl ?_)
                            refine OT.pures hT 1 rfl (.conv_bs (fun _ => rfl) hT rfl rfl rfl rfl rfl (hro.mono fun b o hb => Has.sel sl hb) rfl (.pures hT 2 rfl (.nil (.seq (.cond rfl (fun c161 => ?_) (fun c161 => ?_))))))
                            ·
                              exact absurd c161 (by rw [hshow]; simp)
                            ·
                              refine TT.skip (.blk (.seq (.region (.pures hT 3 rfl (.nil (.loop (no + 1) ?_ ?_ (SubR.cons rfl (SubR.cons rfl (SubR.cons rfl (SubR.cons rfl (SubR.cons rfl (SubR.cons rfl (SubR.cons rfl (SubR.cons' rfl (by (try dsimp only); exact (int_eq (by rw [wrap_i64 (by omega) (by omega)]; omega))) (SubR.nil _))))))))) sl))))))
                              · omega
                              · omega
                          ·
                            have g152 := beq_eq_false_iff_ne.1 g152
                            refine OT.pures hT 3 rfl (.split 155 rfl (fun g155 => ?_) (fun g155 => ?_))
                            ·
                              have hshow := hK2.shows k s _ hsx hwr hinv (no : Nat) (by omega) (by omega) (.inr (by rw [← hub]; exact g155))
                              refine OT.pures hT 1 rfl (.conv_bs (fun _ => rfl) hT rfl rfl rfl rfl rfl ro rfl ?_)
                              refine OT.pures hT 1 rfl (.conv_bs (fun _ => rfl) hT rfl rfl rfl rfl rfl (hro.mono fun b o hb => Has.sel sl hb) rfl (.pures hT 2 rfl (.nil (.seq (.cond rfl (fun c161 => ?_) (fun c161 => ?_))))))
                              ·
                                exact absurd c161 (by rw [hshow]; simp)
                              ·
                                refine TT.skip (.blk (.seq (.region (.pures hT 3 rfl (.nil (.loop (no + 1) ?_ ?_ (SubR.cons rfl (SubR.cons rfl (SubR.cons rfl (SubR.cons rfl (SubR.cons rfl (SubR.cons rfl (SubR.cons rfl (SubR.cons' rfl (by (try dsimp only); exact (int_eq (by rw [wrap_i64 (by omega) (by omega)]; omega))) (SubR.nil _))))))))) sl))))))
                                · omega
                                · omega
                            ·
                              refine OT.pures hT 6 rfl (.nil (.seq (.cond_false rfl (.skip (.blk (.seq (.region (.pures hT 3 rfl (.nil (.loop (no + 1) ?_ ?_ (SubR.cons rfl (SubR.cons rfl (SubR.cons rfl (SubR.cons rfl (SubR.cons rfl (SubR.cons rfl (SubR.cons rfl (SubR.cons' rfl (by (try dsimp only); exact (int_eq (by rw [wrap_i64 (by omega) (by omega)]; omega))) (SubR.nil _))))))))) sl))))))))))
                              · omega
                              · omega
                      ·
                        have c128 := of_decide_eq_false c128
                        refine TT.exit (.seq (.loop (.here (.blk (.seq (.region (.pures hT 3 rfl (.nil (.loop (k + 1) ?_ ?_ (SubR.cons rfl (SubR.cons rfl (SubR.cons rfl (SubR.cons rfl (SubR.cons rfl (SubR.cons' rfl (by (try dsimp only); exact (int_eq (by rw [wrap_i64 (by omega) (by omega)]; omega))) (SubR.nil _))))))) sl)))))))))
                        · omega
                        · omega
                ·
                  have c106 := of_decide_eq_false c106
                  refine TT.exit (.seq (.loop (.here (.blk (.seq (.region (.pures hT 3 rfl (.nil (.loop (pj + 1, Q2, xs2, H3) ?_ ?_ (SubR.cons rfl (SubR.cons rfl (SubR.cons rfl (SubR.cons rfl (SubR.cons' rfl (by (try dsimp only); exact (int_eq (by rw [wrap_i64 (by omega) (by omega)]; omega))) (SubR.nil _)))))) sl)))))))))
                  · dsimp only
                    exact ⟨by omega, by omega, hB3, hT4, hK2, hN2, hxl2, hkp2⟩
                  · dsimp only
                    omega
              ·
                exact hE.elim
          ·
            have c81 := of_decide_eq_false c81
            refine TT.exit (.seq (.loop (.here (.seq (.seq (.region (.pures hT 1 rfl (.nil (.seq (.ret (.of (rs := [.tmp 6]) [_] hs rfl (.tmp rfl .nil) sl ?_)))))))))))
            dsimp only [one]
            exact ⟨rfl, rfl⟩
        ·
          have g78 := of_decide_eq_false g78
          refine OT.pures hT 3 rfl (.nil (.seq (.cond_false rfl (.exit (.seq (.loop (.here (.seq (.seq (.region (.pures hT 1 rfl (.nil (.seq (.ret (.of (rs := [.tmp 6]) [_] hs rfl (.tmp rfl .nil) sl ?_)))))))))))))))
          dsimp only [one]
          exact ⟨rfl, rfl⟩

end Go.Proofs.Ytnhkgchcdbideaa.Sx
end
