/- Several texts in one. CowTwo: of snapshots at unlike times each shows a page as it was then. Printed by a program of ours off the loaded program and our notes; Lean checks it. -/
import Derived.Test.YtnhkgchcdbideaaMH
import Derived.Test.YtnhkgchcdbideaaMD
import Derived.Test.YtnhkgchcdbideaaMB

section
namespace Go.Proofs.Ytnhkgchcdbideaa.Sx
open Go Go.Sx Go.Pl
variable [Outer]

omit [Outer] in
theorem bytes_set {l : List UInt8} {i : Nat} (h : i < l.length) (c : UInt8) {o : Nat} (ho : o = i) : splice (l.flatMap Go.Sx.encB) o [.int .u8 c.toNat] = (l.set i c).flatMap Go.Sx.encB := by
  subst ho
  have e : ∀ m : List UInt8, m.flatMap Go.Sx.encB = m.map fun c => Value.int .u8 c.toNat := fun m => by induction m with
    | nil => rfl
    | cons x m ih => simpa using ih
  rw [e, e, splice_at (k := o) (by rw [List.length_map]; exact h) _ rfl, List.map_set]

omit [Outer] in
theorem bytes_at {l : List UInt8} {i : Nat} {c : UInt8} (h : l[i]? = some c) {o : Nat} (ho : o = i) : (l.flatMap Go.Sx.encB)[o]? = some (.int .u8 c.toNat) := by
  subst ho
  have e : ∀ m : List UInt8, m.flatMap Go.Sx.encB = m.map fun c => Value.int .u8 c.toNat := fun m => by induction m with
    | nil => rfl
    | cons x m ih => simpa using ih
  rw [e, List.getElem?_map, h]; rfl

omit [Outer] in
theorem bytes_len (l : List UInt8) : (l.flatMap Go.Sx.encB).length = l.length := by rw [length_flatMap_enc (sz := 1) (fun _ _ => rfl), Nat.mul_one]

set_option maxHeartbeats 8000000 in
set_option maxRecDepth 100000 in
theorem law_CowTwo {no : Int} (hr : -9223372036854775808 ≤ no ∧ no ≤ 9223372036854775807) {v : Value} {vals : List UInt8} {hs : List Chunk} (hv : Row Go.Sx.encB 1 hs v vals) (hvl : vals.length ≤ 9223372036854775807) (hbegun : ∀ hs, Fun Try.prog 10 [] hs fun v' hs' => v' = .bool true ∧ hs = hs') : Fun Try.prog 4 [.int .i64 no, v] hs (fun v' hs' => v' = .bool true ∧ hs = hs') := by
  refine Fun.enter 121 Try.func4 rfl Try.ntmps4 rfl ?_
  obtain ⟨av, cv, hvv⟩ := hv.len
  subst hvv
  refine TT.seq (.region (.pures hT 1 rfl (.nil (.seq (.seq (.region (.call Try.call10 rfl rfl rfl rfl (hbegun _) ?_)))))))
  rintro v_16 hs_16 ⟨rfl, rfl⟩
  refine OT.pures hT 1 rfl (.nil (.seq (.seq (.seq (.region (.pures hT 2 rfl (.nil (.seq (.cond_false rfl (.skip (.seq (.seq (.seq (.region (.pures hT 3 rfl (.split 21 rfl (fun g21 => ?_) (fun g21 => ?_)))))))))))))))))
  ·
    have g21 := of_decide_eq_true g21
    refine OT.pures hT 3 rfl (.nil (.seq (.cond_true rfl (.seq (.region (.pures hT 1 rfl (.nil (.seq (.ret (.of (rs := [.tmp 4]) [_] hs rfl (.tmp rfl .nil) sl ?_))))))))))
    dsimp only [one]
    exact ⟨rfl, rfl⟩
  ·
    have g21 := of_decide_eq_false g21
    refine OT.pures hT 3 rfl (.nil (.seq (.cond rfl (fun c24 => ?_) (fun c24 => ?_))))
    ·
      have c24 := of_decide_eq_true c24
      refine TT.seq (.region (.pures hT 1 rfl (.nil (.seq (.ret (.of (rs := [.tmp 4]) [_] hs rfl (.tmp rfl .nil) sl ?_))))))
      dsimp only [one]
      exact ⟨rfl, rfl⟩
    ·
      have c24 := of_decide_eq_false c24
      obtain ⟨n, rfl⟩ : ∃ n : Nat, no = n := ⟨no.toNat, by omega⟩
      refine TT.skip (.seq (.seq (.region (.build (cs := bkCells (List.replicate 96 (.slice none 0 0))) hT rfl Try.zeroValue28 rfl rfl kr rfl (.box rfl rfl rfl (fun b_26 => ?_))))))
      refine OT.pures hT 1 rfl (.nil (.seq (.seq (.draw (hs) mixed (.takes (fuel := 3) hT [0, 2, 3] kr kr rfl (.op (fuel := 2) 1 kr rfl sl ?_))))))
      refine OT.make (enc := Go.Sx.encB) (z0 := (0 : UInt8)) (n := 256) el22 Try.zeroValue5 rfl rfl rfl rfl rfl (by omega) rfl (fun v_28 H_28 ho_28 => ?_)
      obtain ⟨B1, O1, C1, _, _, hv28, _⟩ := ho_28.over (by rw [List.length_replicate]; decide)
      rw [List.length_replicate] at hv28
      subst hv28
      refine OT.nil (.any (.index_at (fuel := 1) hT 4 rfl kr kr kr rfl rfl rfl rfl (by omega) (by decide) rfl (.op (fuel := 0) 5 kr rfl sl (.store hT rfl rfl rfl rfl pl rfl (Nat.le_of_ble_eq_true rfl) rfl (.inl (Nat.le_refl _)) (bk_set (k := 1) (List.length_replicate) (by decide) _ rfl) ?_))))
      refine OT.nil (.any (.done kr sl (.seq (.seq (.region (.pures hT 3 rfl (.index_at hT rfl rfl rfl rfl (by omega) (by decide) rfl (.load rfl rfl (Ld.slc hT rfl hz (bk_at (by rw [List.length_set, List.length_replicate]) (List.getElem?_set_self (by rw [List.length_replicate]; decide)) rfl)) rfl ?_))))))))
      refine OT.pures hT 5 rfl (.reg 38 rfl (v := .int .i64 ((n / 8 : Nat) : Int)) (int_eq (by rw [Int.tdiv_eq_ediv_of_nonneg (by omega), wrap_i64 (by omega) (by omega)]; omega)) (.reg 41 rfl (v := .int .u64 ((n % 8 : Nat) : Int)) (int_eq (by rw [Int.tmod_eq_emod_of_nonneg (by omega), wrap_u64 (by omega) (by omega)]; omega)) (.shl hT rfl rfl rfl (by omega) rfl (.reg 42 rfl (v := .int .u8 ((UInt8.ofNat (2 ^ (n % 8))).toNat : Int)) (int_eq (bit_byte ⟨n % 8, Nat.mod_lt _ (by decide)⟩)) (.index_raw hT rfl rfl rfl rfl (by omega) (by omega) rfl (.store_el (n / 8) 0 hT rfl rfl rfl rfl pl ho_28 (List.getElem?_replicate.trans (if_pos (by omega))) (by omega) rfl (by decide) rfl rfl (fun H_x ho_x => ?_)))))))
      refine OT.nil (.seq (.seq (.region (.alloc Try.zeroValue55 rfl rfl (fun b_7 => ?_)))))
      refine OT.nil (.seq (.seq (.region (.pures hT 1 rfl (.nil (.seq (.seq (.seq (.region (.pures hT 1 rfl (.nil (.seq (.block ?_)))))))))))))
      have hB0 : BkAt 28 b_26 (upd (fun _ => noughts 256) ((1 : Nat) : Int) (bitAt n)) ([(b_26, blk (bkCells ((List.replicate 96 (.slice none 0 0) : List Value).set 1 (.slice (some ⟨B1, O1, none⟩) 256 C1))) 28 (0, 0))] ++ ([] ++ H_x)) := BkAt.one ((Slots.zero [[]]).grow (by decide) ho_x (bitAt_len n))
      refine TT.loop (ι := Nat × Pages × (List Snap) × (List Pages) × (List UInt8) × UInt8 × Chunk) (fun j => (j.1) ≤ 4 ∧ (j.2.2.2.2.1).length = 4 ∧ (∀ (k : Nat) (w : Pages), (j.2.2.2.1)[k]? = some w → k < (j.1) ∧ w 1 = bitAt n ∧ ∃ x, (j.2.2.2.2.1)[k]? = some x ∧ w (n : Nat) = pageOf [x]) ∧ BkAt 28 b_26 (j.2.1) (j.2.2.2.2.2.2) ∧ Keeps (j.2.1) ((j.1) : Nat) (j.2.2.1) (j.2.2.2.1) ∧ Named (j.2.2.1) ∧ Kept [(n : Int)] (j.2.2.1) ∧ (j.2.2.1).length = (j.1) ∧ (j.2.1) 1 = bitAt n ∧ (j.2.1) (n : Nat) = pageOf [(j.2.2.2.2.2.1)]) (fun j => 4 - (j.1)) (fun j => [(0, .int .i64 (n : Nat)), (1, .slice av vals.length cv), (6, .pointer (some ⟨b_26, 0, none⟩)), (7, .pointer (some ⟨b_7, 0, none⟩)), (8, .int .u8 (j.2.2.2.2.2.1).toNat), (9, .int .i64 ((j.1) : Nat))]) (fun j => [(b_7, blk ((j.2.2.2.2.1).flatMap Go.Sx.encB) 55 (0, 0))] :: (j.2.2.2.2.2.2) :: hs) (0, upd (fun _ => noughts 256) ((1 : Nat) : Int) (bitAt n), [], [], List.replicate 4 0, 0, ([(b_26, blk (bkCells ((List.replicate 96 (.slice none 0 0) : List Value).set 1 (.slice (some ⟨B1, O1, none⟩) 256 C1))) 28 (0, 0))] ++ ([] ++ H_x))) ?_ (SubR.cons rfl (SubR.cons rfl (SubR.cons rfl (SubR.cons rfl (SubR.cons rfl (SubR.cons rfl (SubR.nil _))))))) sl ?_
      · dsimp only
        exact ⟨by omega, rfl, (fun k w h => by cases h), hB0, Keeps.none hB0.long (by unfold upd; rw [if_neg (by decide)]), (fun k s h => by cases h), (fun s h => by cases h), rfl, if_pos rfl, by unfold upd; rw [if_neg (by omega)]; show noughts 256 = pageOf [0]; decide +kernel⟩
      rintro ⟨i, Q, xs, ws, wl, now, H1⟩ hI
      dsimp only at hI
      obtain ⟨hi, hwl, hws, hB, hK, hN, hD, hxl, hq1, hqn⟩ := hI
      show TT _ _ _ [(0, .int .i64 (n : Nat)), (1, .slice av vals.length cv), (6, .pointer (some ⟨b_26, 0, none⟩)), (7, .pointer (some ⟨b_7, 0, none⟩)), (8, .int .u8 now.toNat), (9, .int .i64 (i : Nat))] ([(b_7, blk (wl.flatMap Go.Sx.encB) 55 (0, 0))] :: H1 :: hs)
      refine TT.seq (.seq (.region (.pures hT 2 rfl (.nil (.seq (.cond rfl (fun c45 => ?_) (fun c45 => ?_)))))))
      ·
        have c45 := of_decide_eq_true c45
        obtain ⟨hadd, hgo, hN1⟩ := hN.add hK.st.good (by rw [hxl]) (by omega)
        rw [hxl] at hadd hgo hN1
        have hK1 := hK.snap hgo
        have hwsl : ws.length = i := hK.len.trans hxl
        obtain ⟨ws2, hwe⟩ : ∃ ws2, ws2 = ws ++ [Q] := ⟨_, rfl⟩
        have hws2 : ∀ (k : Nat) (w : Pages), ws2[k]? = some w → k < i + 1 ∧ w 1 = bitAt n ∧ ∃ x, (wl.set i now)[k]? = some x ∧ w (n : Nat) = pageOf [x] := fun k w h => by
          rw [hwe, List.getElem?_append] at h
          split at h
          · rename_i hk
            obtain ⟨a1, a2, x, a3, a4⟩ := hws k w h
            exact ⟨by omega, a2, x, by rw [List.getElem?_set_ne (by omega)]; exact a3, a4⟩
          · have := (List.getElem?_eq_some_iff.1 h).1
            simp only [List.length_singleton] at this
            rw [show k - ws.length = 0 by omega] at h
            cases h
            exact ⟨by omega, hq1, now, by rw [show k = i by omega]; exact List.getElem?_set_self (by omega), hqn⟩
        rw [← hwe] at hK1
        refine TT.skip (.seq (.seq (.block (.seq (.region (.pures hT 2 rfl (.index_at hT rfl rfl rfl rfl (by omega) (by omega) rfl (.store hT rfl rfl rfl rfl pl rfl (by show _ ≤ (wl.flatMap Go.Sx.encB).length; rw [bytes_len, hwl]; show _ + 1 ≤ 4; omega) rfl (.inl (Nat.le_refl _)) (bytes_set (i := i) (by omega) now (by omega)) ?_))))))))
        refine OT.nil (.seq (.seq (.seq (.region (.pures hT 4 rfl (.reg 54 rfl (v := .int .u8 ((b8 (97 + ((i : Nat) : Int))).toNat : Int)) (int_eq (by rw [wrap_i64 (by omega) (by omega)]; exact b8_wrap _)) ?_))))))
        refine OT.buildSlice (enc := Go.Sx.encB) (xs := [b8 (97 + ((i : Nat) : Int))]) (xos := [.tmp 54]) el22 rfl rfl rfl rfl rfl (by simp [Value.cells]) (fun _ _ => rfl) rfl (by decide) rfl (fun v_55 H_55 ho_55 => ?_)
        refine OT.conv_bs (fun _ => rfl) hT rfl rfl rfl rfl rfl ro rfl ?_
        refine OT.call Try.call19 rfl rfl rfl rfl (Fun.pull pl (law21_snap (nm := nmK i) hB hK.st hadd (may_iff.2 hgo))) ?_
        rintro v_57 hs_57 ⟨H3, rfl, rfl, hB3⟩
        refine OT.pures hT 1 rfl (.nil (.seq (.cond_false rfl (.skip (.seq (.seq (.region (.pures hT 1 rfl (.nil (.seq (.block (.loop (ι := Nat × Pages × (List Snap) × UInt8 × Chunk) (fun j => (j.1) ≤ 2 ∧ BkAt 28 b_26 (j.2.1) (j.2.2.2.2) ∧ Keeps (j.2.1) ((i + 1) : Nat) (j.2.2.1) ws2 ∧ Named (j.2.2.1) ∧ Kept [(n : Int)] (j.2.2.1) ∧ (j.2.2.1).length = (i + 1) ∧ (j.2.1) 1 = bitAt n ∧ (j.2.1) (n : Nat) = pageOf [(j.2.2.2.1)]) (fun j => 2 - (j.1)) (fun j => [(0, .int .i64 (n : Nat)), (1, .slice av vals.length cv), (6, .pointer (some ⟨b_26, 0, none⟩)), (7, .pointer (some ⟨b_7, 0, none⟩)), (8, .int .u8 (j.2.2.2.1).toNat), (9, .int .i64 (i : Nat)), (10, .int .i64 ((j.1) : Nat))]) (fun j => [(b_7, blk ((wl.set i now).flatMap Go.Sx.encB) 55 (0, 0))] :: (j.2.2.2.2) :: hs) (0, upd Q ((0 : Nat) : Int) (encode ((i : Nat) + 1) (xs ++ [newSnap (nmK i) ((i : Nat) + 1)])).1, xs ++ [newSnap (nmK i) ((i : Nat) + 1)], now, H3) ?_ (SubR.cons rfl (SubR.cons rfl (SubR.cons rfl (SubR.cons rfl (SubR.cons rfl (SubR.cons rfl (SubR.cons rfl (SubR.nil _)))))))) sl ?_))))))))))))
        · dsimp only
          exact ⟨by omega, hB3, hK1, hN1, hD.snap _ _, by rw [List.length_append, hxl]; rfl, by unfold upd; rw [if_neg (by decide)]; exact hq1, by unfold upd; rw [if_neg (by omega)]; exact hqn⟩
        rintro ⟨k, Q2, xs2, now2, H2⟩ hI
        dsimp only at hI
        obtain ⟨hk, hB2, hK2, hN2, hD2, hxl2, hq12, hqn2⟩ := hI
        show TT _ _ _ [(0, .int .i64 (n : Nat)), (1, .slice av vals.length cv), (6, .pointer (some ⟨b_26, 0, none⟩)), (7, .pointer (some ⟨b_7, 0, none⟩)), (8, .int .u8 now2.toNat), (9, .int .i64 (i : Nat)), (10, .int .i64 (k : Nat))] ([(b_7, blk ((wl.set i now).flatMap Go.Sx.encB) 55 (0, 0))] :: H2 :: hs)
        refine TT.seq (.seq (.region (.pures hT 2 rfl (.nil (.seq (.cond rfl (fun c60 => ?_) (fun c60 => ?_)))))))
        ·
          have c60 := of_decide_eq_true c60
          refine TT.skip (.seq (.seq (.block (.seq (.region (.pures hT 7 rfl (.nil (.seq (.cut (ι := UInt8) (fun j => True) (fun j => [(0, .int .i64 (n : Nat)), (1, .slice av vals.length cv), (6, .pointer (some ⟨b_26, 0, none⟩)), (7, .pointer (some ⟨b_7, 0, none⟩)), (8, .int .u8 (j).toNat), (9, .int .i64 (i : Nat)), (10, .int .i64 (k : Nat))]) (fun j => [(b_7, blk ((wl.set i now).flatMap Go.Sx.encB) 55 (0, 0))] :: H2 :: hs) ?_ ?_)))))))))
          ·
            refine TT.seq (.region (.pures hT 7 rfl (.nil (.seq (.cond rfl (fun c75 => ?_) (fun c75 => ?_))))))
            ·
              have c75 := of_decide_eq_true c75
              rw [wrap_i64 (n := 2 * ((i : Nat) : Int)) (by omega) (by omega), wrap_i64 (by omega) (by omega)] at c75
              obtain ⟨y, hy⟩ := nth (l := vals) (i := 2 * i + k) (by omega)
              refine TT.region (.pures hT 5 rfl (.reg 80 rfl (v := .int .i64 ((2 * i + k : Nat) : Int)) (int_eq (by rw [wrap_i64 (n := 2 * ((i : Nat) : Int)) (by omega) (by omega), wrap_i64 (by omega) (by omega)]; omega)) (.index hT rfl rfl rfl rfl hv.there.there (by omega) (by rw [Int.toNat_natCast]; exact hy) rfl (fun ad_81 hel_81 => ?_))))
              refine OT.load rfl rfl (hel_81.ld_one hT rfl rfl) rfl (.pures hT 1 rfl (.nil (.cut (y) ?_ (SubR.cons rfl (SubR.cons rfl (SubR.cons rfl (SubR.cons rfl (SubR.cons rfl (SubR.cons rfl (SubR.cons rfl (SubR.nil _)))))))) sl)))
              · trivial
            ·
              have c75 := of_decide_eq_false c75
              refine TT.skip (.cut (b8 (IntKind.i64.wrap (IntKind.i64.wrap (IntKind.i64.wrap (10 * ((i : Nat) : Int)) + ((k : Nat) : Int)) + 1))) ?_ (SubR.cons rfl (SubR.cons rfl (SubR.cons rfl (SubR.cons rfl (SubR.cons' rfl (by (try dsimp only); exact (int_eq (b8_wrap _))) (SubR.cons rfl (SubR.cons rfl (SubR.nil _)))))))) sl)
              · trivial
          ·
            rintro y _
            show TT _ _ _ [(0, .int .i64 (n : Nat)), (1, .slice av vals.length cv), (6, .pointer (some ⟨b_26, 0, none⟩)), (7, .pointer (some ⟨b_7, 0, none⟩)), (8, .int .u8 y.toNat), (9, .int .i64 (i : Nat)), (10, .int .i64 (k : Nat))] ([(b_7, blk ((wl.set i now).flatMap Go.Sx.encB) 55 (0, 0))] :: H2 :: hs)
            refine TT.seq (.region (.pures hT 3 rfl (.call Try.call20 rfl rfl rfl rfl (Fun.pull pl (law21_lay hB2 hK2.st (no := (n : Nat)) (by omega) (by omega) (x := y))) ?_)))
            rintro v_86 hs_86 ⟨H4, rfl, rfl, hB4, _⟩
            have hd := one_data (b := pageOf [y]) (show 1 ≤ (n : Int) by omega) (show (n : Int) < 32 by omega) (pageOf_length (by simp))
            have hK4 := hK2.step hd
            have hlk := (expandS_good (Q := Q2) (but := 0) hK2.st.good hK2.st.h32 (nosOf_nodup (chgOf [((n : Int), pageOf [y])]))).2
            have hN4 := hN2.likes hlk
            have hD4 := hD2.step (Q := Q2) (but := 0) (nos := nosOf (chgOf [((n : Int), pageOf [y])])) (by rw [hxl2, List.length_singleton]; omega) (fun no h => by
              rw [nos_one (by omega) (by omega)] at h; subst h; exact ⟨by omega, by simp⟩)
            have hxl4 : (expandS Q2 0 (nosOf (chgOf [((n : Int), pageOf [y])])) xs2).length = i + 1 := hlk.1.symm.trans hxl2
            have hq14 : lay Q2 (expandC Q2 ((i + 1 : Nat) : Int) xs2 [((n : Int), pageOf [y])]) 1 = bitAt n := by
              rw [expandC_data hK2.st _ (by omega) (by omega)]
              show upd Q2 (n : Int) (pageOf [y]) 1 = _
              unfold upd; rw [if_neg (by omega)]; exact hq12
            have hqn4 : lay Q2 (expandC Q2 ((i + 1 : Nat) : Int) xs2 [((n : Int), pageOf [y])]) (n : Nat) = pageOf [y] := by
              rw [expandC_data hK2.st _ (by omega) (by omega)]
              show upd Q2 (n : Int) (pageOf [y]) (n : Int) = _
              unfold upd; rw [if_pos rfl]
            refine OT.pures hT 1 rfl (.nil (.seq (.cond_false rfl (.skip (.blk (.seq (.region (.pures hT 3 rfl (.nil (.loop (k + 1, lay Q2 (expandC Q2 ((i + 1 : Nat) : Int) xs2 [((n : Int), pageOf [y])]), expandS Q2 0 (nosOf (chgOf [((n : Int), pageOf [y])])) xs2, y, H4) ?_ ?_ (SubR.cons rfl (SubR.cons rfl (SubR.cons rfl (SubR.cons rfl (SubR.cons rfl (SubR.cons rfl (SubR.cons' rfl (by (try dsimp only); exact (int_eq (by rw [wrap_i64 (by omega) (by omega)]; omega))) (SubR.nil _)))))))) sl))))))))))
            · dsimp only
              exact ⟨by omega, hB4, hK4, hN4, hD4, hxl4, hq14, hqn4⟩
            · dsimp only
              omega
        ·
          have c60 := of_decide_eq_false c60
          obtain rfl : k = 2 := by omega
          refine TT.exit (.seq (.loop (.here (.blk (.seq (.region (.pures hT 3 rfl (.nil (.loop (i + 1, Q2, xs2, ws2, wl.set i now, now2, H2) ?_ ?_ (SubR.cons rfl (SubR.cons rfl (SubR.cons rfl (SubR.cons rfl (SubR.cons rfl (SubR.cons' rfl (by (try dsimp only); exact (int_eq (by rw [wrap_i64 (by omega) (by omega)]; omega))) (SubR.nil _))))))) sl)))))))))
          · dsimp only
            exact ⟨by omega, by rw [List.length_set]; exact hwl, hws2, hB2, hK2, hN2, hD2, hxl2, hq12, hqn2⟩
          · dsimp only
            omega
      ·
        have c45 := of_decide_eq_false c45
        refine TT.exit (.seq (.loop (.here (.seq (.seq (.seq (.region (.pures hT 1 rfl (.nil (.seq (.block ?_)))))))))))
        obtain rfl : i = 4 := by omega
        refine TT.loop (ι := Nat) (fun j => (j) ≤ 4) (fun j => 4 - (j)) (fun j => [(0, .int .i64 (n : Nat)), (6, .pointer (some ⟨b_26, 0, none⟩)), (7, .pointer (some ⟨b_7, 0, none⟩)), (11, .int .i64 ((j) : Nat))]) (fun j => [(b_7, blk (wl.flatMap Go.Sx.encB) 55 (0, 0))] :: H1 :: hs) (0) ?_ (SubR.cons rfl (SubR.cons rfl (SubR.cons rfl (SubR.cons rfl (SubR.nil _))))) sl ?_
        · omega
        rintro j hj
        show TT _ _ _ [(0, .int .i64 (n : Nat)), (6, .pointer (some ⟨b_26, 0, none⟩)), (7, .pointer (some ⟨b_7, 0, none⟩)), (11, .int .i64 (j : Nat))] ([(b_7, blk (wl.flatMap Go.Sx.encB) 55 (0, 0))] :: H1 :: hs)
        refine TT.seq (.seq (.region (.pures hT 2 rfl (.nil (.seq (.cond rfl (fun c89 => ?_) (fun c89 => ?_)))))))
        ·
          have c89 := of_decide_eq_true c89
          obtain ⟨s, hsx⟩ := nth (l := xs) (i := j) (by omega)
          obtain ⟨w, hw⟩ := nth (l := ws) (i := j) (by rw [hK.len]; omega)
          obtain ⟨_, hw1, x, hx, hwn⟩ := hws j w hw
          have hsi := (hD s (List.mem_of_getElem? hsx)).1
          have hsh : shownOf xs (nmK j) = some s := by rw [shown_named hN hK.st.good hsx, if_neg (by rw [hsi]; simp)]
          have h35 := hK.st.h35 s (List.mem_of_getElem? hsx)
          have hsd := hK.st.good.sides s (List.mem_of_getElem? hsx)
          have hsv : Q (viewNo s (n : Nat)) = pageOf [x] := by
            rw [hK.shows j s w hsx hw hsi (n : Nat) (by omega) (by omega) (.inr (by rw [hw1]; exact bit_has ⟨n, by omega⟩ (by show 2 ≤ n; omega)))]; exact hwn
          refine TT.skip (.seq (.seq (.block (.seq (.region (.pures hT 4 rfl (.reg 96 rfl (v := .int .u8 ((b8 (97 + ((j : Nat) : Int))).toNat : Int)) (int_eq (by rw [wrap_i64 (by omega) (by omega)]; exact b8_wrap _)) ?_)))))))
          refine OT.buildSlice (enc := Go.Sx.encB) (xs := [b8 (97 + ((j : Nat) : Int))]) (xos := [.tmp 96]) el22 rfl rfl rfl rfl rfl (by simp [Value.cells]) (fun _ _ => rfl) rfl (by decide) rfl (fun v_97 H_97 ho_97 => ?_)
          refine OT.conv_bs (fun _ => rfl) hT rfl rfl rfl rfl rfl ro rfl ?_
          refine OT.call Try.call16 rfl rfl rfl rfl (Fun.pull pl (law21_show (nm := nmK j) hB hK.st)) ?_
          rintro v_99 hs_99 ⟨rfl, cs, rfl, hcl, hco, hcs⟩
          obtain rfl := hcs _ hsh
          rw [hsh]
          refine OT.pures hT 3 rfl (.alloc Try.zeroValue47 rfl rfl (fun b_12 => ?_))
          refine OT.store_all hT rfl rfl rfl rfl pl (by exact hcl) rfl hco (.inl (Nat.le_refl _)) ?_
          refine OT.pures hT 1 rfl (.nil (.seq (.seq (.seq (.region (.pures hT 2 rfl (.nil (.seq (.cond_false rfl (.skip (.seq (.seq (.region (.load rfl rfl (Ld.struct_all hT rfl hz (by exact hcl)) rfl ?_))))))))))))))
          refine OT.pures hT 1 rfl (.call Try.call18 rfl rfl rfl rfl (Fun.pull pl (shown_Page hB h35 hsd)) ?_)
          rintro v_107 hs_107 ⟨KP, wP, rfl, rfl, hoP⟩
          rw [viewPg_ok hsd (by omega) (by omega), hsv] at hoP ⊢
          dsimp only at hoP
          refine OT.pures hT 5 rfl (.nil (.seq (.seq (.draw ((KP :: [(b_7, blk (wl.flatMap Go.Sx.encB) 55 (0, 0))] :: hs)) mixed (.takes (fuel := 8) hT [0, 1, 2] kr kr rfl (.takes (fuel := 6) hT [3, 6] kr kr rfl (.index (fuel := 5) hT 4 rfl kr kr kr rfl rfl rfl rfl hoP.row (by decide) (by show (pageOf [x])[0]? = some x; rfl) rfl (fun ad_114 hel_114 => ?_))))))))
          refine AT.take (fuel := 4) hT 5 rfl rfl kr kr kr rfl (.load rfl (hel_114.ld_one hT rfl rfl)) rfl (.index_at (fuel := 3) hT 7 rfl kr kr kr rfl rfl rfl rfl (by omega) (by omega) rfl (.take (fuel := 2) hT 8 rfl rfl kr kr kr rfl (.load rfl (Ld.one hT rfl hz (bytes_at hx (by omega)))) rfl ?_))
          refine AT.takes (fuel := 0) hT [9, 10] kr kr rfl (.done kr sl (.seq (.cond rfl (fun c120 => ?_) (fun c120 => ?_))))
          ·
            exact absurd c120 (by simp)
          ·
            refine TT.skip (.blk (.seq (.region (.pures hT 3 rfl (.nil (.loop (j + 1) ?_ ?_ (SubR.cons rfl (SubR.cons rfl (SubR.cons rfl (SubR.cons' rfl (by (try dsimp only); exact (int_eq (by rw [wrap_i64 (by omega) (by omega)]; omega))) (SubR.nil _))))) sl))))))
            · omega
            · omega
        ·
          have c89 := of_decide_eq_false c89
          refine TT.exit (.seq (.loop (.here (.seq (.seq (.region (.pures hT 1 rfl (.nil (.seq (.ret (.of (rs := [.tmp 4]) [_] hs rfl (.tmp rfl .nil) sl ?_)))))))))))
          dsimp only [one]
          exact ⟨rfl, rfl⟩

end Go.Proofs.Ytnhkgchcdbideaa.Sx
end
