/- Several texts in one. Laws of trees: pages of any bytes. Printed by a program of ours off the loaded program and our notes; Lean checks it. Laws of trees: all of it, step by step. Printed by a program of ours off the loaded program and our notes; Lean checks it. -/
import Derived.Test.YtmkandddjcncfaaGreatUI
import Derived.Test.YtmkandddjcncfaaGreatUE
import Derived.Test.YtmkandddjcncfaaGreatUF
import Derived.Test.YtmkandddjcncfaaGreatUB
set_option linter.unusedVariables false
set_option linter.unusedSimpArgs false
set_option linter.unusedSectionVars false

section
namespace Go.Proofs.YtmkandddjcncfaaGreat.Sx
open Go Go.Sx Go.Pl
variable [Outer]

theorem bookAny {b : Nat} {Q : Pages} (hl : Long Q) : PgsA Tryz.prog 5 (.iface 25 (.pointer (some ⟨b, 0, none⟩))) (BkAt 29 b Q) (fun _ _ => False) (pgOf Q) := PgsA.of (fun no => by
  unfold pgOf; split
  · rename_i h; show (Q no).length ≤ 4096; rw [hl no h]; omega
  · exact Nat.zero_le _) book_Pgs

theorem bad_Check {b : Nat} {Q : Pages} {H : Chunk} {r : List Chunk} (hB : BkAt 29 b Q H) : Fun Tryz.prog 20 [.iface 25 (.pointer (some ⟨b, 0, none⟩))] (H :: r) (fun v' hs' => ∃ H' e, hs' = H' :: r ∧ v' = .int .i64 e ∧ BkAt 29 b Q H' ∧ ((e = 0 ∧ checkTop (pgOf Q) = .ok ()) ∨ e = 8)) := by
  refine (tr_Check book_Pgs hB).mono ?_
  rintro v' hs' ⟨H', e, rfl, rfl, ⟨rfl, hc, hB'⟩ | ⟨_, ⟨hp, hB'⟩ | ⟨_, hb⟩⟩⟩
  · exact ⟨H', 0, rfl, rfl, hB', .inl ⟨rfl, hc⟩⟩
  · exact ⟨H', e, rfl, rfl, hB', .inr (bad_err hB.long hp)⟩
  · exact hb.elim

theorem bad_Get {b : Nat} {Q : Pages} {H : Chunk} {r : List Chunk} (hB : BkAt 29 b Q H) {k : ByteArray} : Fun Tryz.prog 18 [.iface 25 (.pointer (some ⟨b, 0, none⟩)), .string k] (H :: r) (fun v' hs' => ∃ H', hs' = H' :: r ∧ BkAt 29 b Q H') := by
  refine (tr_Get book_Pgs hB).mono ?_
  rintro v' hs' ⟨H', o, e, rfl, rfl, ⟨rfl, hc, hB'⟩ | ⟨_, _, ⟨hp, hB'⟩ | ⟨_, hb⟩⟩⟩
  · exact ⟨H', rfl, hB'⟩
  · exact ⟨H', rfl, hB'⟩
  · exact hb.elim

theorem bad_Scan {b : Nat} {Q : Pages} {H : Chunk} {r : List Chunk} (hB : BkAt 29 b Q H) : Fun Tryz.prog 24 [.iface 25 (.pointer (some ⟨b, 0, none⟩)), .string ⟨#[]⟩, .string ⟨#[]⟩] (H :: r) (fun v' hs' => (∃ H' K v l, hs' = H' :: K :: r ∧ v' = .tuple ⟨[v, .int .i64 0]⟩ ∧ Own encCell 8 38 v l K ∧ BkAt 29 b Q H' ∧ l.length ≤ 8192 ∧ (checkTop (pgOf Q) = .ok () → rising (keysOf l))) ∨ (∃ H' e, hs' = H' :: r ∧ v' = .tuple ⟨[.slice none 0 0, .int .i64 e]⟩ ∧ BkAt 29 b Q H' ∧ checkTop (pgOf Q) ≠ .ok ())) := by
  refine (tr_Scan book_Pgs hB).mono ?_
  rintro v' hs' (⟨H', K, v, g', rfl, rfl, hal, ho, hB'⟩ | ⟨e, H', rfl, _, rfl, ⟨hp, hB'⟩ | ⟨_, hb⟩⟩)
  · exact .inl ⟨H', K, v, _, rfl, rfl, ho, hB', Nat.le_trans (List.length_filter_le _ _) (allT_len hal).2, fun h => bad_cells h hal⟩
  · exact .inr ⟨H', e, rfl, rfl, hB', bad_all hp⟩
  · exact hb.elim

theorem bad_Pages {b : Nat} {Q : Pages} {H : Chunk} {r : List Chunk} (hB : BkAt 29 b Q H) : Fun Tryz.prog 25 [.iface 25 (.pointer (some ⟨b, 0, none⟩))] (H :: r) (fun v' hs' => ∃ H' K, hs' = H' :: K :: r ∧ BkAt 29 b Q H' ∨ hs' = H' :: r ∧ BkAt 29 b Q H') := by
  refine (tr_Pages book_Pgs hB).mono ?_
  rintro v' hs' (⟨H', K, v, g', rfl, rfl, hal, ho, hB'⟩ | ⟨e, H', rfl, _, rfl, ⟨hp, hB'⟩ | ⟨_, hb⟩⟩)
  · exact ⟨H', K, .inl ⟨rfl, hB'⟩⟩
  · exact ⟨H', [], .inr ⟨rfl, hB'⟩⟩
  · exact hb.elim

theorem bad_New {b : Nat} {Q : Pages} {H : Chunk} {r : List Chunk} (hB : BkAt 29 b Q H) : Fun Tryz.prog 14 [.iface 25 (.pointer (some ⟨b, 0, none⟩))] (H :: r) (fun v' hs' => ∃ s H', v' = .pointer (some ⟨s, 0, none⟩) ∧ hs' = H' :: r ∧ ShAt 89 s (.iface 25 (.pointer (some ⟨b, 0, none⟩))) (BkAt 29 b Q) Q Q H') := by
  refine (sh_New (I := BkAt 29 b Q) hB).mono ?_
  rintro v' hs' ⟨s, H', rfl, rfl, h3⟩
  exact ⟨s, H', rfl, rfl, _, h3, (layC_none _).symm⟩

theorem bad_Put {b s : Nat} {Q Qt : Pages} {H : Chunk} {r : List Chunk} (hl : Long Q) (hS : ShAt 89 s (.iface 25 (.pointer (some ⟨b, 0, none⟩))) (BkAt 29 b Q) Q Qt H) {x : Cell} (hxf : x.val.f < 2 ^ 64 ∧ x.new.f < 2 ^ 64) : Fun Tryz.prog 15 [.pointer (some ⟨s, 0, none⟩), .agg ⟨encCell x⟩] (H :: r) (fun v' hs' => ∃ H', hs' = H' :: r ∧ ∃ Qt' : Pages, ShAt 89 s (.iface 25 (.pointer (some ⟨b, 0, none⟩))) (BkAt 29 b Q) Q Qt' H') := by
  refine (tr_Put (bookAny hl) hl hS hxf).mono ?_
  rintro v' hs' ⟨H', e, rfl, rfl, ⟨hm, rfl, hS'⟩ | ⟨hm, ⟨Q', rfl, hp, hS'⟩ | ⟨he, hp, hS'⟩ | hb⟩⟩
  · exact ⟨H', rfl, _, hS'⟩
  · exact ⟨H', rfl, _, hS'⟩
  · exact ⟨H', rfl, _, hS'⟩
  · exact (no_bad hb).elim

theorem bad_Del {b s : Nat} {Q Qt : Pages} {H : Chunk} {r : List Chunk} (hl : Long Q) (hS : ShAt 89 s (.iface 25 (.pointer (some ⟨b, 0, none⟩))) (BkAt 29 b Q) Q Qt H) {k : ByteArray} : Fun Tryz.prog 26 [.pointer (some ⟨s, 0, none⟩), .string k] (H :: r) (fun v' hs' => ∃ H', hs' = H' :: r ∧ ∃ Qt' : Pages, ShAt 89 s (.iface 25 (.pointer (some ⟨b, 0, none⟩))) (BkAt 29 b Q) Q Qt' H') := by
  refine (tr_Del (bookAny hl) hl hS).mono ?_
  rintro v' hs' ⟨H', has, e, rfl, rfl, ⟨Q', rfl, hp, hS'⟩ | ⟨_, _, hp, hS'⟩ | ⟨_, hb⟩⟩
  · exact ⟨H', rfl, _, hS'⟩
  · exact ⟨H', rfl, _, hS'⟩
  · exact (no_bad hb).elim

set_option maxHeartbeats 8000000 in
set_option maxRecDepth 100000 in
theorem law_TreeBad {v : Value} {pages : List BytesV} {root : Int} {key : ByteArray} {bv : Value} {bits : List UInt8} {hs : List Chunk} (hr : Row encBV 1 hs v pages) (hpl : pages.length ≤ 9223372036854775807) (hpr : ∀ x ∈ pages, Row Go.Sx.encB 1 hs x.1 x.2) (hbits : Row Go.Sx.encB 1 hs bv bits) (hbl : bits.length ≤ 9223372036854775807) : Fun Tryz.prog 5 [v, .int .i64 root, .string key, bv] hs (fun v' hs' => v' = .bool true ∧ hs = hs') := by
  refine Fun.enter 122 Tryz.func5 rfl Tryz.ntmps5 rfl ?_
  obtain ⟨a0, c0, hv⟩ := hr.len
  subst hv
  obtain ⟨ab, cb, hvb⟩ := hbits.len
  subst hvb
  refine TT.seq (.region (.pures hT 1 rfl (.nil (.seq (.seq (.region (.call Tryz.call13 rfl rfl rfl rfl (law14_begun) ?_)))))))
  rintro v_19 hs_19 ⟨rfl, rfl⟩
  refine OT.pures hT 1 rfl (.nil (.seq (.seq (.seq (.region (.pures hT 2 rfl (.nil (.seq (.cond_false rfl (.skip (.seq (.seq (.region (.build (cs := bkCells (List.replicate 96 (.slice none 0 0))) hT rfl Tryz.zeroValue29 rfl rfl rfl rfl (.box rfl rfl rfl (fun b_23 => ?_))))))))))))))))
  refine OT.pures hT 1 rfl (.nil (.seq (.seq (.region ?_))))
  have hB0 : BkAt 29 b_23 noP [(b_23, blk (bkCells (List.replicate 96 (.slice none 0 0))) 29 (0, 0))] := BkAt.one (Slots.zero [[]])
  show OT _ _ _ _ _ ([(b_23, blk (bkCells (List.replicate 96 (.slice none 0 0))) 29 (0, 0))] :: hs)
  generalize ([(b_23, blk (bkCells (List.replicate 96 (.slice none 0 0))) 29 (0, 0))] : Chunk) = HB at hB0 ⊢
  refine OT.make (enc := Go.Sx.encB) (z0 := (0 : UInt8)) (n := 256) el26 Tryz.zeroValue5 rfl rfl rfl rfl rfl (by decide) rfl (fun v_24 H_24 ho_24 => ?_)
  obtain ⟨B1, O1, C1, _, _, hv24, _⟩ := ho_24.over (by rw [List.length_replicate]; decide)
  rw [List.length_replicate] at hv24
  subst hv24
  refine OT.pures hT 1 rfl (.nil (.seq (.seq (.region (.pures hT 2 rfl (.call Tryz.call22 rfl rfl rfl rfl (law1_Short (n := 4) (Row.mono hbits (fun b o hb => .there (.there hb)))) ?_))))))
  rintro v_27 hs_27 ⟨hv27, rfl⟩
  refine OT.copy_own 0 hT rfl rfl rfl rfl pl ho_24 hv27 (by rw [List.length_replicate, List.length_take]; omega) (by rw [List.length_replicate]; decide) (ones_bytes _) rfl (fun H_28 ho_28 => ?_)
  have hol := over_len (xs := List.replicate 256 (0 : UInt8)) (ys := (bits.take 4).take 256) (j := 0) (by rw [List.length_replicate, List.length_take, List.length_take]; omega)
  rw [List.length_replicate] at hol
  obtain ⟨z4, hz4⟩ := nth (l := over (List.replicate 256 (0 : UInt8)) 0 ((bits.take 4).take 256)) (i := 4) (by omega)
  refine OT.nil (.seq (.seq (.region (.pures hT 3 rfl (.index_raw hT rfl rfl rfl rfl (by omega) (by decide) rfl (.reg 31 rfl (v := .int .u8 ((byteI root).toNat : Int)) (int_eq (byteI_is root)) (.store_el 4 0 hT rfl rfl rfl rfl pl ho_28 hz4 (by rfl) rfl (by decide) rfl (z' := byteI root) (by rfl) (fun H_x ho_x => ?_))))))))
  refine OT.nil (.seq (.seq (.region (.pures hT 4 rfl (.index_at hT rfl rfl rfl rfl (by omega) (by decide) rfl (.bk_store (no := 1) hT rfl rfl rfl rfl pl hB0 pl ho_x (by rw [List.length_set]; exact hol) rfl (by decide) (fun H_y hb_y ht_y => ?_)))))))
  refine OT.nil (.seq (.seq (.seq (.region (.pures hT 1 rfl (.nil (.seq (.block ?_))))))))
  obtain ⟨Q1, hQ1⟩ : ∃ Q1, BkAt 29 b_23 Q1 H_y := ⟨_, hb_y⟩
  refine TT.loop (ι := Nat × Pages × Chunk) (fun j => (j.1) ≤ 12 ∧ BkAt 29 b_23 (j.2.1) (j.2.2)) (fun j => 12 - (j.1)) (fun j => [(0, .slice a0 pages.length c0), (2, .string key), (10, .pointer (some ⟨b_23, 0, none⟩)), (12, .int .i64 ((j.1) : Nat))]) (fun j => (j.2.2) :: hs) (0, Q1, H_y) ?_ (SubR.cons rfl (SubR.cons rfl (SubR.cons rfl (SubR.cons rfl (SubR.nil _))))) sl ?_
  · dsimp only
    exact ⟨Nat.zero_le _, hQ1⟩
  rintro ⟨i, Q, HB⟩ hI
  dsimp only at hI
  obtain ⟨hi, hB⟩ := hI
  show TT _ _ _ [(0, .slice a0 pages.length c0), (2, .string key), (10, .pointer (some ⟨b_23, 0, none⟩)), (12, .int .i64 (i : Nat))] (HB :: hs)
  refine TT.seq (.seq (.region (.pures hT 5 rfl (.split 42 rfl (fun g42 => ?_) (fun g42 => ?_)))))
  ·
    have g42 : i < pages.length := by have := of_decide_eq_true g42; omega
    refine OT.pures hT 3 rfl (.nil (.seq (.cond rfl (fun c45 => ?_) (fun c45 => ?_))))
    ·
      have c45 := of_decide_eq_true c45
      obtain ⟨x, hx⟩ := nth (l := pages) (i := i) (by omega)
      obtain ⟨xv, xb⟩ := x
      have hxr : Row Go.Sx.encB 1 hs xv xb := hpr _ (List.mem_of_getElem? hx)
      obtain ⟨ax, cx, hxv⟩ := hxr.len
      subst hxv
      refine TT.skip (.seq (.seq (.block (.seq (.region ?_)))))
      refine OT.make (enc := Go.Sx.encB) (z0 := (0 : UInt8)) (n := 256) el26 Tryz.zeroValue5 rfl rfl rfl rfl rfl (by decide) rfl (fun v_48 H_48 ho_48 => ?_)
      obtain ⟨B2, O2, C2, _, _, hv48, _⟩ := ho_48.over (by rw [List.length_replicate]; decide)
      rw [List.length_replicate] at hv48
      subst hv48
      refine OT.pures hT 1 rfl (.nil (.seq (.seq (.region (.pures hT 3 rfl (.index hT rfl rfl rfl rfl hr.there.there (by omega) (by rw [Int.toNat_natCast]; exact hx) rfl (fun ad_52 hel_52 => ?_)))))))
      refine OT.load rfl rfl (hel_52.ld_slc hT rfl rfl) rfl (.copy_own 0 hT rfl rfl rfl rfl pl ho_48 (hxr.there.there) (by rw [List.length_replicate]; omega) (by rw [List.length_replicate]; decide) (ones_bytes _) rfl (fun H_54 ho_54 => ?_))
      have hol2 := over_len (xs := List.replicate 256 (0 : UInt8)) (ys := xb.take 256) (j := 0) (by rw [List.length_replicate, List.length_take]; omega)
      rw [List.length_replicate] at hol2
      refine OT.nil (.seq (.region (.pures hT 6 rfl (.reg 57 rfl (v := .int .i64 ((2 + i : Nat) : Int)) (int_eq (by rw [wrap_i64 (by omega) (by omega)]; omega)) (.index_at hT rfl rfl rfl rfl (by omega) (by omega) rfl (.bk_store (no := (2 + i)) hT rfl rfl rfl rfl pl hB pl ho_54 hol2 (by omega) (by omega) (fun H_w hb_w ht_w => ?_)))))))
      obtain ⟨Q2, hQ2⟩ : ∃ Q2, BkAt 29 b_23 Q2 H_w := ⟨_, hb_w⟩
      refine OT.nil (.blk (.seq (.region (.pures hT 3 rfl (.nil (.loop (i + 1, Q2, H_w) ?_ ?_ (SubR.cons rfl (SubR.cons rfl (SubR.cons rfl (SubR.cons' rfl (by (try dsimp only); exact (int_eq (by rw [wrap_i64 (by omega) (by omega)]; omega))) (SubR.nil _))))) sl))))))
      · dsimp only
        exact ⟨by omega, hQ2⟩
      · dsimp only
        omega
    ·
      have c45 := of_decide_eq_false c45
      refine TT.exit (.seq (.loop (.here (.seq (.seq (.region (.pures hT 1 rfl (.call Tryz.call23 rfl rfl rfl rfl (law1_Cut (n := 16)) ?_))))))))
      rintro v_63 hs_63 ⟨rfl, rfl⟩
      refine OT.pures hT 1 rfl (.nil (.seq (.seq (.region (.pures hT 1 rfl (.mkiface Tryz.underlying25 rfl rfl rfl rfl (.call Tryz.call20 rfl rfl rfl rfl (bad_Check hB) ?_)))))))
      rintro v_66 hs_66 ⟨H1, e, rfl, rfl, hB1, hce⟩
      refine OT.pures hT 1 rfl (.nil (.seq (.seq (.seq (.region (.pures hT 3 rfl (.split 69 rfl (fun g69 => ?_) (fun g69 => ?_))))))))
      ·
        have g69 : e ≠ 0 := by intro h; rw [h] at g69; simp at g69
        obtain rfl := hce.resolve_left (fun h => g69 h.1)
        refine OT.pures hT 4 rfl (.pures hT 3 rfl (.nil (.seq (.cond_false rfl (.skip (.seq (.seq (.region (.pures hT 1 rfl (.mkiface Tryz.underlying25 rfl rfl rfl rfl (.pures hT 1 rfl (.call Tryz.call18 rfl rfl rfl rfl (bad_Get hB1) ?_))))))))))))
        rintro v_80 hs_80 ⟨H2, rfl, hB2⟩
        refine OT.nil (.seq (.seq (.region (.pures hT 1 rfl (.mkiface Tryz.underlying25 rfl rfl rfl rfl (.call Tryz.call24 rfl rfl rfl rfl (bad_Scan hB2) ?_))))))
        rintro v_84 hs_84 (⟨H3, K3, v3, l, rfl, rfl, ho3, hB3, hlen, hris⟩ | ⟨H3, e3, rfl, rfl, hB3, hno⟩)
        ·
          obtain ⟨a3, c3, hv3⟩ := (ho3.row (hs := [])).len
          subst hv3
          refine OT.pures hT 5 rfl (.nil (.seq (.seq (.region (.pures hT 1 rfl (.mkiface Tryz.underlying25 rfl rfl rfl rfl (.call Tryz.call25 rfl rfl rfl rfl (bad_Pages hB3) ?_)))))))
          rintro v_89 hs_89 ⟨H4, K4, (⟨rfl, hB4⟩ | ⟨rfl, hB4⟩)⟩
          ·
            refine OT.nil (.seq (.seq (.region (.pures hT 1 rfl (.mkiface Tryz.underlying25 rfl rfl rfl rfl (.call Tryz.call14 rfl rfl rfl rfl (Fun.pull pl (bad_New hB4)) ?_))))))
            rintro v_92 hs_92 ⟨s, HS, rfl, rfl, hS⟩
            refine OT.pures hT 1 rfl (.nil (.seq (.seq (.region (.pures hT 1 rfl (.build (cs := encVl cX.val) hT rfl Tryz.zeroValue35 rfl rfl rfl rfl (.build (cs := encCell cX) hT rfl Tryz.zeroValue38 rfl rfl rfl rfl (.call Tryz.call15 rfl rfl rfl rfl (Fun.pull pl (bad_Put hB4.long hS (x := cX) (by decide))) ?_))))))))
            rintro v_96 hs_96 ⟨H5, rfl, Qt1, hS1⟩
            refine OT.nil (.seq (.seq (.region (.pures hT 2 rfl (.call Tryz.call26 rfl rfl rfl rfl (Fun.pull pl (bad_Del hB4.long hS1)) ?_)))))
            rintro v_99 hs_99 ⟨H6, rfl, Qt2, hS2⟩
            refine OT.nil (.seq (.seq (.seq (.region (.pures hT 2 rfl (.nil (.seq (.cond rfl (fun c101 => ?_) (fun c101 => ?_)))))))))
            ·
              refine TT.seq (.region (.pures hT 1 rfl (.nil (.seq (.ret (.of (rs := [.tmp 8]) [_] hs rfl (.tmp rfl .nil) sl ?_))))))
              try dsimp only [one]
              exact ⟨rfl, rfl⟩
            ·
              have hrl : rising (keysOf l) := by first | exact hris hck | exact absurd c101 (by decide)
              refine TT.skip (.seq (.seq (.seq (.region (.pures hT 1 rfl (.nil (.seq (.block (.loop (ι := Nat) (fun j => 1 ≤ (j) ∧ (j) ≤ 8193) (fun j => l.length - (j)) (fun j => [(15, .slice a3 l.length c3), (16, .int .i64 0), (18, .int .i64 ((j) : Nat))]) (fun j => K3 :: hs) (1) ?_ (SubR.cons rfl (SubR.cons rfl (SubR.cons rfl (SubR.nil _)))) sl ?_)))))))))
              · exact ⟨Nat.le_refl _, by decide⟩
              rintro q ⟨hq, hq2⟩
              show TT _ _ _ [(15, .slice a3 l.length c3), (16, .int .i64 0), (18, .int .i64 (q : Nat))] (K3 :: hs)
              refine TT.seq (.seq (.region (.pures hT 4 rfl (.nil (.seq (.cond rfl (fun c105 => ?_) (fun c105 => ?_)))))))
              ·
                have c105 := of_decide_eq_true c105
                obtain ⟨y, hy⟩ := nth (l := l) (i := q) (by omega)
                obtain ⟨y0, hy0⟩ := nth (l := l) (i := q - 1) (by omega)
                have hlt : kLt y0.key y.key = true := lt_at hrl (show q - 1 < q by omega) (keys_at hy0) (keys_at hy)
                refine TT.skip (.seq (.seq (.block (.seq (.draw ((K3 :: hs)) mixed (.takes (fuel := 7) hT [0, 1, 5, 6, 7] kr kr rfl (.index (fuel := 6) hT 2 rfl kr kr kr rfl rfl rfl rfl ho3.row (by omega) (by rw [Int.toNat_natCast]; exact hy) rfl (fun ad_110 hel_110 => ?_))))))))
                obtain ⟨eb_110, eo_110, rfl, hfld_110⟩ := hel_110.at (P := Tryz.prog)
                refine AT.takes (fuel := 5) hT [3] kr kr rfl (.take (fuel := 4) hT 4 rfl rfl kr kr kr rfl (.load rfl (hfld_110 hT rfl rfl)) rfl (.index (fuel := 3) hT 8 rfl kr kr kr rfl rfl rfl rfl ho3.row (by rw [wrap_i64 (by omega) (by omega)]; omega) (by rw [wrap_i64 (by omega) (by omega), show ((q : Int) - 1).toNat = q - 1 by omega]; exact hy0) rfl (fun ad_116 hel_116 => ?_)))
                obtain ⟨eb_116, eo_116, rfl, hfld_116⟩ := hel_116.at (P := Tryz.prog)
                refine AT.takes (fuel := 2) hT [9] kr kr rfl (.take (fuel := 1) hT 10 rfl rfl kr kr kr rfl (.load rfl (hfld_116 hT rfl rfl)) rfl (.takes (fuel := 0) hT [11] kr kr rfl (.done kr sl (.seq (.cond rfl (fun c119 => ?_) (fun c119 => ?_))))))
                ·
                  rw [show Op.bytesLess y.key.data.toList y0.key.data.toList = false from kLt_asymm hlt, decide_eq_false (Ne.symm (kLt_ne hlt))] at c119; cases c119
                ·
                  refine TT.skip (.blk (.seq (.region (.pures hT 3 rfl (.nil (.loop (q + 1) ?_ ?_ (SubR.cons rfl (SubR.cons rfl (SubR.cons' rfl (by (try dsimp only); exact (int_eq (by rw [wrap_i64 (by omega) (by omega)]; omega))) (SubR.nil _)))) sl))))))
                  · exact ⟨by omega, by omega⟩
                  · omega
              ·
                have c105 := of_decide_eq_false c105
                refine TT.exit (.seq (.loop (.here (.seq (.seq (.region (.pures hT 3 rfl (.nil (.seq (.ret (.of (rs := [.tmp 8]) [_] hs rfl (.tmp rfl .nil) sl ?_)))))))))))
                try dsimp only [one]
                exact ⟨rfl, rfl⟩
          ·
            refine OT.nil (.seq (.seq (.region (.pures hT 1 rfl (.mkiface Tryz.underlying25 rfl rfl rfl rfl (.call Tryz.call14 rfl rfl rfl rfl (Fun.pull pl (bad_New hB4)) ?_))))))
            rintro v_92 hs_92 ⟨s, HS, rfl, rfl, hS⟩
            refine OT.pures hT 1 rfl (.nil (.seq (.seq (.region (.pures hT 1 rfl (.build (cs := encVl cX.val) hT rfl Tryz.zeroValue35 rfl rfl rfl rfl (.build (cs := encCell cX) hT rfl Tryz.zeroValue38 rfl rfl rfl rfl (.call Tryz.call15 rfl rfl rfl rfl (Fun.pull pl (bad_Put hB4.long hS (x := cX) (by decide))) ?_))))))))
            rintro v_96 hs_96 ⟨H5, rfl, Qt1, hS1⟩
            refine OT.nil (.seq (.seq (.region (.pures hT 2 rfl (.call Tryz.call26 rfl rfl rfl rfl (Fun.pull pl (bad_Del hB4.long hS1)) ?_)))))
            rintro v_99 hs_99 ⟨H6, rfl, Qt2, hS2⟩
            refine OT.nil (.seq (.seq (.seq (.region (.pures hT 2 rfl (.nil (.seq (.cond rfl (fun c101 => ?_) (fun c101 => ?_)))))))))
            ·
              refine TT.seq (.region (.pures hT 1 rfl (.nil (.seq (.ret (.of (rs := [.tmp 8]) [_] hs rfl (.tmp rfl .nil) sl ?_))))))
              try dsimp only [one]
              exact ⟨rfl, rfl⟩
            ·
              have hrl : rising (keysOf l) := by first | exact hris hck | exact absurd c101 (by decide)
              refine TT.skip (.seq (.seq (.seq (.region (.pures hT 1 rfl (.nil (.seq (.block (.loop (ι := Nat) (fun j => 1 ≤ (j) ∧ (j) ≤ 8193) (fun j => l.length - (j)) (fun j => [(15, .slice a3 l.length c3), (16, .int .i64 0), (18, .int .i64 ((j) : Nat))]) (fun j => K3 :: hs) (1) ?_ (SubR.cons rfl (SubR.cons rfl (SubR.cons rfl (SubR.nil _)))) sl ?_)))))))))
              · exact ⟨Nat.le_refl _, by decide⟩
              rintro q ⟨hq, hq2⟩
              show TT _ _ _ [(15, .slice a3 l.length c3), (16, .int .i64 0), (18, .int .i64 (q : Nat))] (K3 :: hs)
              refine TT.seq (.seq (.region (.pures hT 4 rfl (.nil (.seq (.cond rfl (fun c105 => ?_) (fun c105 => ?_)))))))
              ·
                have c105 := of_decide_eq_true c105
                obtain ⟨y, hy⟩ := nth (l := l) (i := q) (by omega)
                obtain ⟨y0, hy0⟩ := nth (l := l) (i := q - 1) (by omega)
                have hlt : kLt y0.key y.key = true := lt_at hrl (show q - 1 < q by omega) (keys_at hy0) (keys_at hy)
                refine TT.skip (.seq (.seq (.block (.seq (.draw ((K3 :: hs)) mixed (.takes (fuel := 7) hT [0, 1, 5, 6, 7] kr kr rfl (.index (fuel := 6) hT 2 rfl kr kr kr rfl rfl rfl rfl ho3.row (by omega) (by rw [Int.toNat_natCast]; exact hy) rfl (fun ad_110 hel_110 => ?_))))))))
                obtain ⟨eb_110, eo_110, rfl, hfld_110⟩ := hel_110.at (P := Tryz.prog)
                refine AT.takes (fuel := 5) hT [3] kr kr rfl (.take (fuel := 4) hT 4 rfl rfl kr kr kr rfl (.load rfl (hfld_110 hT rfl rfl)) rfl (.index (fuel := 3) hT 8 rfl kr kr kr rfl rfl rfl rfl ho3.row (by rw [wrap_i64 (by omega) (by omega)]; omega) (by rw [wrap_i64 (by omega) (by omega), show ((q : Int) - 1).toNat = q - 1 by omega]; exact hy0) rfl (fun ad_116 hel_116 => ?_)))
                obtain ⟨eb_116, eo_116, rfl, hfld_116⟩ := hel_116.at (P := Tryz.prog)
                refine AT.takes (fuel := 2) hT [9] kr kr rfl (.take (fuel := 1) hT 10 rfl rfl kr kr kr rfl (.load rfl (hfld_116 hT rfl rfl)) rfl (.takes (fuel := 0) hT [11] kr kr rfl (.done kr sl (.seq (.cond rfl (fun c119 => ?_) (fun c119 => ?_))))))
                ·
                  rw [show Op.bytesLess y.key.data.toList y0.key.data.toList = false from kLt_asymm hlt, decide_eq_false (Ne.symm (kLt_ne hlt))] at c119; cases c119
                ·
                  refine TT.skip (.blk (.seq (.region (.pures hT 3 rfl (.nil (.loop (q + 1) ?_ ?_ (SubR.cons rfl (SubR.cons rfl (SubR.cons' rfl (by (try dsimp only); exact (int_eq (by rw [wrap_i64 (by omega) (by omega)]; omega))) (SubR.nil _)))) sl))))))
                  · exact ⟨by omega, by omega⟩
                  · omega
              ·
                have c105 := of_decide_eq_false c105
                refine TT.exit (.seq (.loop (.here (.seq (.seq (.region (.pures hT 3 rfl (.nil (.seq (.ret (.of (rs := [.tmp 8]) [_] hs rfl (.tmp rfl .nil) sl ?_)))))))))))
                try dsimp only [one]
                exact ⟨rfl, rfl⟩
        ·
          refine OT.pures hT 5 rfl (.nil (.seq (.seq (.region (.pures hT 1 rfl (.mkiface Tryz.underlying25 rfl rfl rfl rfl (.call Tryz.call25 rfl rfl rfl rfl (bad_Pages hB3) ?_)))))))
          rintro v_89 hs_89 ⟨H4, K4, (⟨rfl, hB4⟩ | ⟨rfl, hB4⟩)⟩
          ·
            refine OT.nil (.seq (.seq (.region (.pures hT 1 rfl (.mkiface Tryz.underlying25 rfl rfl rfl rfl (.call Tryz.call14 rfl rfl rfl rfl (Fun.pull pl (bad_New hB4)) ?_))))))
            rintro v_92 hs_92 ⟨s, HS, rfl, rfl, hS⟩
            refine OT.pures hT 1 rfl (.nil (.seq (.seq (.region (.pures hT 1 rfl (.build (cs := encVl cX.val) hT rfl Tryz.zeroValue35 rfl rfl rfl rfl (.build (cs := encCell cX) hT rfl Tryz.zeroValue38 rfl rfl rfl rfl (.call Tryz.call15 rfl rfl rfl rfl (Fun.pull pl (bad_Put hB4.long hS (x := cX) (by decide))) ?_))))))))
            rintro v_96 hs_96 ⟨H5, rfl, Qt1, hS1⟩
            refine OT.nil (.seq (.seq (.region (.pures hT 2 rfl (.call Tryz.call26 rfl rfl rfl rfl (Fun.pull pl (bad_Del hB4.long hS1)) ?_)))))
            rintro v_99 hs_99 ⟨H6, rfl, Qt2, hS2⟩
            refine OT.nil (.seq (.seq (.seq (.region (.pures hT 2 rfl (.nil (.seq (.cond rfl (fun c101 => ?_) (fun c101 => ?_)))))))))
            ·
              refine TT.seq (.region (.pures hT 1 rfl (.nil (.seq (.ret (.of (rs := [.tmp 8]) [_] hs rfl (.tmp rfl .nil) sl ?_))))))
              try dsimp only [one]
              exact ⟨rfl, rfl⟩
            ·
              first | exact absurd hck hno | exact absurd c101 (by decide)
          ·
            refine OT.nil (.seq (.seq (.region (.pures hT 1 rfl (.mkiface Tryz.underlying25 rfl rfl rfl rfl (.call Tryz.call14 rfl rfl rfl rfl (Fun.pull pl (bad_New hB4)) ?_))))))
            rintro v_92 hs_92 ⟨s, HS, rfl, rfl, hS⟩
            refine OT.pures hT 1 rfl (.nil (.seq (.seq (.region (.pures hT 1 rfl (.build (cs := encVl cX.val) hT rfl Tryz.zeroValue35 rfl rfl rfl rfl (.build (cs := encCell cX) hT rfl Tryz.zeroValue38 rfl rfl rfl rfl (.call Tryz.call15 rfl rfl rfl rfl (Fun.pull pl (bad_Put hB4.long hS (x := cX) (by decide))) ?_))))))))
            rintro v_96 hs_96 ⟨H5, rfl, Qt1, hS1⟩
            refine OT.nil (.seq (.seq (.region (.pures hT 2 rfl (.call Tryz.call26 rfl rfl rfl rfl (Fun.pull pl (bad_Del hB4.long hS1)) ?_)))))
            rintro v_99 hs_99 ⟨H6, rfl, Qt2, hS2⟩
            refine OT.nil (.seq (.seq (.seq (.region (.pures hT 2 rfl (.nil (.seq (.cond rfl (fun c101 => ?_) (fun c101 => ?_)))))))))
            ·
              refine TT.seq (.region (.pures hT 1 rfl (.nil (.seq (.ret (.of (rs := [.tmp 8]) [_] hs rfl (.tmp rfl .nil) sl ?_))))))
              try dsimp only [one]
              exact ⟨rfl, rfl⟩
            ·
              first | exact absurd hck hno | exact absurd c101 (by decide)
      ·
        have g69 : e = 0 := by simpa using g69
        subst g69
        obtain ⟨_, hck⟩ := hce.resolve_right (by decide)
        refine OT.pures hT 7 rfl (.nil (.seq (.cond_false rfl (.skip (.seq (.seq (.region (.pures hT 1 rfl (.mkiface Tryz.underlying25 rfl rfl rfl rfl (.pures hT 1 rfl (.call Tryz.call18 rfl rfl rfl rfl (bad_Get hB1) ?_)))))))))))
        rintro v_80 hs_80 ⟨H2, rfl, hB2⟩
        refine OT.nil (.seq (.seq (.region (.pures hT 1 rfl (.mkiface Tryz.underlying25 rfl rfl rfl rfl (.call Tryz.call24 rfl rfl rfl rfl (bad_Scan hB2) ?_))))))
        rintro v_84 hs_84 (⟨H3, K3, v3, l, rfl, rfl, ho3, hB3, hlen, hris⟩ | ⟨H3, e3, rfl, rfl, hB3, hno⟩)
        ·
          obtain ⟨a3, c3, hv3⟩ := (ho3.row (hs := [])).len
          subst hv3
          refine OT.pures hT 5 rfl (.nil (.seq (.seq (.region (.pures hT 1 rfl (.mkiface Tryz.underlying25 rfl rfl rfl rfl (.call Tryz.call25 rfl rfl rfl rfl (bad_Pages hB3) ?_)))))))
          rintro v_89 hs_89 ⟨H4, K4, (⟨rfl, hB4⟩ | ⟨rfl, hB4⟩)⟩
          ·
            refine OT.nil (.seq (.seq (.region (.pures hT 1 rfl (.mkiface Tryz.underlying25 rfl rfl rfl rfl (.call Tryz.call14 rfl rfl rfl rfl (Fun.pull pl (bad_New hB4)) ?_))))))
            rintro v_92 hs_92 ⟨s, HS, rfl, rfl, hS⟩
            refine OT.pures hT 1 rfl (.nil (.seq (.seq (.region (.pures hT 1 rfl (.build (cs := encVl cX.val) hT rfl Tryz.zeroValue35 rfl rfl rfl rfl (.build (cs := encCell cX) hT rfl Tryz.zeroValue38 rfl rfl rfl rfl (.call Tryz.call15 rfl rfl rfl rfl (Fun.pull pl (bad_Put hB4.long hS (x := cX) (by decide))) ?_))))))))
            rintro v_96 hs_96 ⟨H5, rfl, Qt1, hS1⟩
            refine OT.nil (.seq (.seq (.region (.pures hT 2 rfl (.call Tryz.call26 rfl rfl rfl rfl (Fun.pull pl (bad_Del hB4.long hS1)) ?_)))))
            rintro v_99 hs_99 ⟨H6, rfl, Qt2, hS2⟩
            refine OT.nil (.seq (.seq (.seq (.region (.pures hT 2 rfl (.nil (.seq (.cond rfl (fun c101 => ?_) (fun c101 => ?_)))))))))
            ·
              refine TT.seq (.region (.pures hT 1 rfl (.nil (.seq (.ret (.of (rs := [.tmp 8]) [_] hs rfl (.tmp rfl .nil) sl ?_))))))
              try dsimp only [one]
              exact ⟨rfl, rfl⟩
            ·
              have hrl : rising (keysOf l) := by first | exact hris hck | exact absurd c101 (by decide)
              refine TT.skip (.seq (.seq (.seq (.region (.pures hT 1 rfl (.nil (.seq (.block (.loop (ι := Nat) (fun j => 1 ≤ (j) ∧ (j) ≤ 8193) (fun j => l.length - (j)) (fun j => [(15, .slice a3 l.length c3), (16, .int .i64 0), (18, .int .i64 ((j) : Nat))]) (fun j => K3 :: hs) (1) ?_ (SubR.cons rfl (SubR.cons rfl (SubR.cons rfl (SubR.nil _)))) sl ?_)))))))))
              · exact ⟨Nat.le_refl _, by decide⟩
              rintro q ⟨hq, hq2⟩
              show TT _ _ _ [(15, .slice a3 l.length c3), (16, .int .i64 0), (18, .int .i64 (q : Nat))] (K3 :: hs)
              refine TT.seq (.seq (.region (.pures hT 4 rfl (.nil (.seq (.cond rfl (fun c105 => ?_) (fun c105 => ?_)))))))
              ·
                have c105 := of_decide_eq_true c105
                obtain ⟨y, hy⟩ := nth (l := l) (i := q) (by omega)
                obtain ⟨y0, hy0⟩ := nth (l := l) (i := q - 1) (by omega)
                have hlt : kLt y0.key y.key = true := lt_at hrl (show q - 1 < q by omega) (keys_at hy0) (keys_at hy)
                refine TT.skip (.seq (.seq (.block (.seq (.draw ((K3 :: hs)) mixed (.takes (fuel := 7) hT [0, 1, 5, 6, 7] kr kr rfl (.index (fuel := 6) hT 2 rfl kr kr kr rfl rfl rfl rfl ho3.row (by omega) (by rw [Int.toNat_natCast]; exact hy) rfl (fun ad_110 hel_110 => ?_))))))))
                obtain ⟨eb_110, eo_110, rfl, hfld_110⟩ := hel_110.at (P := Tryz.prog)
                refine AT.takes (fuel := 5) hT [3] kr kr rfl (.take (fuel := 4) hT 4 rfl rfl kr kr kr rfl (.load rfl (hfld_110 hT rfl rfl)) rfl (.index (fuel := 3) hT 8 rfl kr kr kr rfl rfl rfl rfl ho3.row (by rw [wrap_i64 (by omega) (by omega)]; omega) (by rw [wrap_i64 (by omega) (by omega), show ((q : Int) - 1).toNat = q - 1 by omega]; exact hy0) rfl (fun ad_116 hel_116 => ?_)))
                obtain ⟨eb_116, eo_116, rfl, hfld_116⟩ := hel_116.at (P := Tryz.prog)
                refine AT.takes (fuel := 2) hT [9] kr kr rfl (.take (fuel := 1) hT 10 rfl rfl kr kr kr rfl (.load rfl (hfld_116 hT rfl rfl)) rfl (.takes (fuel := 0) hT [11] kr kr rfl (.done kr sl (.seq (.cond rfl (fun c119 => ?_) (fun c119 => ?_))))))
                ·
                  rw [show Op.bytesLess y.key.data.toList y0.key.data.toList = false from kLt_asymm hlt, decide_eq_false (Ne.symm (kLt_ne hlt))] at c119; cases c119
                ·
                  refine TT.skip (.blk (.seq (.region (.pures hT 3 rfl (.nil (.loop (q + 1) ?_ ?_ (SubR.cons rfl (SubR.cons rfl (SubR.cons' rfl (by (try dsimp only); exact (int_eq (by rw [wrap_i64 (by omega) (by omega)]; omega))) (SubR.nil _)))) sl))))))
                  · exact ⟨by omega, by omega⟩
                  · omega
              ·
                have c105 := of_decide_eq_false c105
                refine TT.exit (.seq (.loop (.here (.seq (.seq (.region (.pures hT 3 rfl (.nil (.seq (.ret (.of (rs := [.tmp 8]) [_] hs rfl (.tmp rfl .nil) sl ?_)))))))))))
                try dsimp only [one]
                exact ⟨rfl, rfl⟩
          ·
            refine OT.nil (.seq (.seq (.region (.pures hT 1 rfl (.mkiface Tryz.underlying25 rfl rfl rfl rfl (.call Tryz.call14 rfl rfl rfl rfl (Fun.pull pl (bad_New hB4)) ?_))))))
            rintro v_92 hs_92 ⟨s, HS, rfl, rfl, hS⟩
            refine OT.pures hT 1 rfl (.nil (.seq (.seq (.region (.pures hT 1 rfl (.build (cs := encVl cX.val) hT rfl Tryz.zeroValue35 rfl rfl rfl rfl (.build (cs := encCell cX) hT rfl Tryz.zeroValue38 rfl rfl rfl rfl (.call Tryz.call15 rfl rfl rfl rfl (Fun.pull pl (bad_Put hB4.long hS (x := cX) (by decide))) ?_))))))))
            rintro v_96 hs_96 ⟨H5, rfl, Qt1, hS1⟩
            refine OT.nil (.seq (.seq (.region (.pures hT 2 rfl (.call Tryz.call26 rfl rfl rfl rfl (Fun.pull pl (bad_Del hB4.long hS1)) ?_)))))
            rintro v_99 hs_99 ⟨H6, rfl, Qt2, hS2⟩
            refine OT.nil (.seq (.seq (.seq (.region (.pures hT 2 rfl (.nil (.seq (.cond rfl (fun c101 => ?_) (fun c101 => ?_)))))))))
            ·
              refine TT.seq (.region (.pures hT 1 rfl (.nil (.seq (.ret (.of (rs := [.tmp 8]) [_] hs rfl (.tmp rfl .nil) sl ?_))))))
              try dsimp only [one]
              exact ⟨rfl, rfl⟩
            ·
              have hrl : rising (keysOf l) := by first | exact hris hck | exact absurd c101 (by decide)
              refine TT.skip (.seq (.seq (.seq (.region (.pures hT 1 rfl (.nil (.seq (.block (.loop (ι := Nat) (fun j => 1 ≤ (j) ∧ (j) ≤ 8193) (fun j => l.length - (j)) (fun j => [(15, .slice a3 l.length c3), (16, .int .i64 0), (18, .int .i64 ((j) : Nat))]) (fun j => K3 :: hs) (1) ?_ (SubR.cons rfl (SubR.cons rfl (SubR.cons rfl (SubR.nil _)))) sl ?_)))))))))
              · exact ⟨Nat.le_refl _, by decide⟩
              rintro q ⟨hq, hq2⟩
              show TT _ _ _ [(15, .slice a3 l.length c3), (16, .int .i64 0), (18, .int .i64 (q : Nat))] (K3 :: hs)
              refine TT.seq (.seq (.region (.pures hT 4 rfl (.nil (.seq (.cond rfl (fun c105 => ?_) (fun c105 => ?_)))))))
              ·
                have c105 := of_decide_eq_true c105
                obtain ⟨y, hy⟩ := nth (l := l) (i := q) (by omega)
                obtain ⟨y0, hy0⟩ := nth (l := l) (i := q - 1) (by omega)
                have hlt : kLt y0.key y.key = true := lt_at hrl (show q - 1 < q by omega) (keys_at hy0) (keys_at hy)
                refine TT.skip (.seq (.seq (.block (.seq (.draw ((K3 :: hs)) mixed (.takes (fuel := 7) hT [0, 1, 5, 6, 7] kr kr rfl (.index (fuel := 6) hT 2 rfl kr kr kr rfl rfl rfl rfl ho3.row (by omega) (by rw [Int.toNat_natCast]; exact hy) rfl (fun ad_110 hel_110 => ?_))))))))
                obtain ⟨eb_110, eo_110, rfl, hfld_110⟩ := hel_110.at (P := Tryz.prog)
                refine AT.takes (fuel := 5) hT [3] kr kr rfl (.take (fuel := 4) hT 4 rfl rfl kr kr kr rfl (.load rfl (hfld_110 hT rfl rfl)) rfl (.index (fuel := 3) hT 8 rfl kr kr kr rfl rfl rfl rfl ho3.row (by rw [wrap_i64 (by omega) (by omega)]; omega) (by rw [wrap_i64 (by omega) (by omega), show ((q : Int) - 1).toNat = q - 1 by omega]; exact hy0) rfl (fun ad_116 hel_116 => ?_)))
                obtain ⟨eb_116, eo_116, rfl, hfld_116⟩ := hel_116.at (P := Tryz.prog)
                refine AT.takes (fuel := 2) hT [9] kr kr rfl (.take (fuel := 1) hT 10 rfl rfl kr kr kr rfl (.load rfl (hfld_116 hT rfl rfl)) rfl (.takes (fuel := 0) hT [11] kr kr rfl (.done kr sl (.seq (.cond rfl (fun c119 => ?_) (fun c119 => ?_))))))
                ·
                  rw [show Op.bytesLess y.key.data.toList y0.key.data.toList = false from kLt_asymm hlt, decide_eq_false (Ne.symm (kLt_ne hlt))] at c119; cases c119
                ·
                  refine TT.skip (.blk (.seq (.region (.pures hT 3 rfl (.nil (.loop (q + 1) ?_ ?_ (SubR.cons rfl (SubR.cons rfl (SubR.cons' rfl (by (try dsimp only); exact (int_eq (by rw [wrap_i64 (by omega) (by omega)]; omega))) (SubR.nil _)))) sl))))))
                  · exact ⟨by omega, by omega⟩
                  · omega
              ·
                have c105 := of_decide_eq_false c105
                refine TT.exit (.seq (.loop (.here (.seq (.seq (.region (.pures hT 3 rfl (.nil (.seq (.ret (.of (rs := [.tmp 8]) [_] hs rfl (.tmp rfl .nil) sl ?_)))))))))))
                try dsimp only [one]
                exact ⟨rfl, rfl⟩
        ·
          refine OT.pures hT 5 rfl (.nil (.seq (.seq (.region (.pures hT 1 rfl (.mkiface Tryz.underlying25 rfl rfl rfl rfl (.call Tryz.call25 rfl rfl rfl rfl (bad_Pages hB3) ?_)))))))
          rintro v_89 hs_89 ⟨H4, K4, (⟨rfl, hB4⟩ | ⟨rfl, hB4⟩)⟩
          ·
            refine OT.nil (.seq (.seq (.region (.pures hT 1 rfl (.mkiface Tryz.underlying25 rfl rfl rfl rfl (.call Tryz.call14 rfl rfl rfl rfl (Fun.pull pl (bad_New hB4)) ?_))))))
            rintro v_92 hs_92 ⟨s, HS, rfl, rfl, hS⟩
            refine OT.pures hT 1 rfl (.nil (.seq (.seq (.region (.pures hT 1 rfl (.build (cs := encVl cX.val) hT rfl Tryz.zeroValue35 rfl rfl rfl rfl (.build (cs := encCell cX) hT rfl Tryz.zeroValue38 rfl rfl rfl rfl (.call Tryz.call15 rfl rfl rfl rfl (Fun.pull pl (bad_Put hB4.long hS (x := cX) (by decide))) ?_))))))))
            rintro v_96 hs_96 ⟨H5, rfl, Qt1, hS1⟩
            refine OT.nil (.seq (.seq (.region (.pures hT 2 rfl (.call Tryz.call26 rfl rfl rfl rfl (Fun.pull pl (bad_Del hB4.long hS1)) ?_)))))
            rintro v_99 hs_99 ⟨H6, rfl, Qt2, hS2⟩
            refine OT.nil (.seq (.seq (.seq (.region (.pures hT 2 rfl (.nil (.seq (.cond rfl (fun c101 => ?_) (fun c101 => ?_)))))))))
            ·
              refine TT.seq (.region (.pures hT 1 rfl (.nil (.seq (.ret (.of (rs := [.tmp 8]) [_] hs rfl (.tmp rfl .nil) sl ?_))))))
              try dsimp only [one]
              exact ⟨rfl, rfl⟩
            ·
              first | exact absurd hck hno | exact absurd c101 (by decide)
          ·
            refine OT.nil (.seq (.seq (.region (.pures hT 1 rfl (.mkiface Tryz.underlying25 rfl rfl rfl rfl (.call Tryz.call14 rfl rfl rfl rfl (Fun.pull pl (bad_New hB4)) ?_))))))
            rintro v_92 hs_92 ⟨s, HS, rfl, rfl, hS⟩
            refine OT.pures hT 1 rfl (.nil (.seq (.seq (.region (.pures hT 1 rfl (.build (cs := encVl cX.val) hT rfl Tryz.zeroValue35 rfl rfl rfl rfl (.build (cs := encCell cX) hT rfl Tryz.zeroValue38 rfl rfl rfl rfl (.call Tryz.call15 rfl rfl rfl rfl (Fun.pull pl (bad_Put hB4.long hS (x := cX) (by decide))) ?_))))))))
            rintro v_96 hs_96 ⟨H5, rfl, Qt1, hS1⟩
            refine OT.nil (.seq (.seq (.region (.pures hT 2 rfl (.call Tryz.call26 rfl rfl rfl rfl (Fun.pull pl (bad_Del hB4.long hS1)) ?_)))))
            rintro v_99 hs_99 ⟨H6, rfl, Qt2, hS2⟩
            refine OT.nil (.seq (.seq (.seq (.region (.pures hT 2 rfl (.nil (.seq (.cond rfl (fun c101 => ?_) (fun c101 => ?_)))))))))
            ·
              refine TT.seq (.region (.pures hT 1 rfl (.nil (.seq (.ret (.of (rs := [.tmp 8]) [_] hs rfl (.tmp rfl .nil) sl ?_))))))
              try dsimp only [one]
              exact ⟨rfl, rfl⟩
            ·
              first | exact absurd hck hno | exact absurd c101 (by decide)
  ·
    refine OT.pures hT 3 rfl (.nil (.seq (.cond_false rfl (.exit (.seq (.loop (.here (.seq (.seq (.region (.pures hT 1 rfl (.call Tryz.call23 rfl rfl rfl rfl (law1_Cut (n := 16)) ?_))))))))))))
    rintro v_63 hs_63 ⟨rfl, rfl⟩
    refine OT.pures hT 1 rfl (.nil (.seq (.seq (.region (.pures hT 1 rfl (.mkiface Tryz.underlying25 rfl rfl rfl rfl (.call Tryz.call20 rfl rfl rfl rfl (bad_Check hB) ?_)))))))
    rintro v_66 hs_66 ⟨H1, e, rfl, rfl, hB1, hce⟩
    refine OT.pures hT 1 rfl (.nil (.seq (.seq (.seq (.region (.pures hT 3 rfl (.split 69 rfl (fun g69 => ?_) (fun g69 => ?_))))))))
    ·
      have g69 : e ≠ 0 := by intro h; rw [h] at g69; simp at g69
      obtain rfl := hce.resolve_left (fun h => g69 h.1)
      refine OT.pures hT 4 rfl (.pures hT 3 rfl (.nil (.seq (.cond_false rfl (.skip (.seq (.seq (.region (.pures hT 1 rfl (.mkiface Tryz.underlying25 rfl rfl rfl rfl (.pures hT 1 rfl (.call Tryz.call18 rfl rfl rfl rfl (bad_Get hB1) ?_))))))))))))
      rintro v_80 hs_80 ⟨H2, rfl, hB2⟩
      refine OT.nil (.seq (.seq (.region (.pures hT 1 rfl (.mkiface Tryz.underlying25 rfl rfl rfl rfl (.call Tryz.call24 rfl rfl rfl rfl (bad_Scan hB2) ?_))))))
      rintro v_84 hs_84 (⟨H3, K3, v3, l, rfl, rfl, ho3, hB3, hlen, hris⟩ | ⟨H3, e3, rfl, rfl, hB3, hno⟩)
      ·
        obtain ⟨a3, c3, hv3⟩ := (ho3.row (hs := [])).len
        subst hv3
        refine OT.pures hT 5 rfl (.nil (.seq (.seq (.region (.pures hT 1 rfl (.mkiface Tryz.underlying25 rfl rfl rfl rfl (.call Tryz.call25 rfl rfl rfl rfl (bad_Pages hB3) ?_)))))))
        rintro v_89 hs_89 ⟨H4, K4, (⟨rfl, hB4⟩ | ⟨rfl, hB4⟩)⟩
        ·
          refine OT.nil (.seq (.seq (.region (.pures hT 1 rfl (.mkiface Tryz.underlying25 rfl rfl rfl rfl (.call Tryz.call14 rfl rfl rfl rfl (Fun.pull pl (bad_New hB4)) ?_))))))
          rintro v_92 hs_92 ⟨s, HS, rfl, rfl, hS⟩
          refine OT.pures hT 1 rfl (.nil (.seq (.seq (.region (.pures hT 1 rfl (.build (cs := encVl cX.val) hT rfl Tryz.zeroValue35 rfl rfl rfl rfl (.build (cs := encCell cX) hT rfl Tryz.zeroValue38 rfl rfl rfl rfl (.call Tryz.call15 rfl rfl rfl rfl (Fun.pull pl (bad_Put hB4.long hS (x := cX) (by decide))) ?_))))))))
          rintro v_96 hs_96 ⟨H5, rfl, Qt1, hS1⟩
          refine OT.nil (.seq (.seq (.region (.pures hT 2 rfl (.call Tryz.call26 rfl rfl rfl rfl (Fun.pull pl (bad_Del hB4.long hS1)) ?_)))))
          rintro v_99 hs_99 ⟨H6, rfl, Qt2, hS2⟩
          refine OT.nil (.seq (.seq (.seq (.region (.pures hT 2 rfl (.nil (.seq (.cond rfl (fun c101 => ?_) (fun c101 => ?_)))))))))
          ·
            refine TT.seq (.region (.pures hT 1 rfl (.nil (.seq (.ret (.of (rs := [.tmp 8]) [_] hs rfl (.tmp rfl .nil) sl ?_))))))
            try dsimp only [one]
            exact ⟨rfl, rfl⟩
          ·
            have hrl : rising (keysOf l) := by first | exact hris hck | exact absurd c101 (by decide)
            refine TT.skip (.seq (.seq (.seq (.region (.pures hT 1 rfl (.nil (.seq (.block (.loop (ι := Nat) (fun j => 1 ≤ (j) ∧ (j) ≤ 8193) (fun j => l.length - (j)) (fun j => [(15, .slice a3 l.length c3), (16, .int .i64 0), (18, .int .i64 ((j) : Nat))]) (fun j => K3 :: hs) (1) ?_ (SubR.cons rfl (SubR.cons rfl (SubR.cons rfl (SubR.nil _)))) sl ?_)))))))))
            · exact ⟨Nat.le_refl _, by decide⟩
            rintro q ⟨hq, hq2⟩
            show TT _ _ _ [(15, .slice a3 l.length c3), (16, .int .i64 0), (18, .int .i64 (q : Nat))] (K3 :: hs)
            refine TT.seq (.seq (.region (.pures hT 4 rfl (.nil (.seq (.cond rfl (fun c105 => ?_) (fun c105 => ?_)))))))
            ·
              have c105 := of_decide_eq_true c105
              obtain ⟨y, hy⟩ := nth (l := l) (i := q) (by omega)
              obtain ⟨y0, hy0⟩ := nth (l := l) (i := q - 1) (by omega)
              have hlt : kLt y0.key y.key = true := lt_at hrl (show q - 1 < q by omega) (keys_at hy0) (keys_at hy)
              refine TT.skip (.seq (.seq (.block (.seq (.draw ((K3 :: hs)) mixed (.takes (fuel := 7) hT [0, 1, 5, 6, 7] kr kr rfl (.index (fuel := 6) hT 2 rfl kr kr kr rfl rfl rfl rfl ho3.row (by omega) (by rw [Int.toNat_natCast]; exact hy) rfl (fun ad_110 hel_110 => ?_))))))))
              obtain ⟨eb_110, eo_110, rfl, hfld_110⟩ := hel_110.at (P := Tryz.prog)
              refine AT.takes (fuel := 5) hT [3] kr kr rfl (.take (fuel := 4) hT 4 rfl rfl kr kr kr rfl (.load rfl (hfld_110 hT rfl rfl)) rfl (.index (fuel := 3) hT 8 rfl kr kr kr rfl rfl rfl rfl ho3.row (by rw [wrap_i64 (by omega) (by omega)]; omega) (by rw [wrap_i64 (by omega) (by omega), show ((q : Int) - 1).toNat = q - 1 by omega]; exact hy0) rfl (fun ad_116 hel_116 => ?_)))
              obtain ⟨eb_116, eo_116, rfl, hfld_116⟩ := hel_116.at (P := Tryz.prog)
              refine AT.takes (fuel := 2) hT [9] kr kr rfl (.take (fuel := 1) hT 10 rfl rfl kr kr kr rfl (.load rfl (hfld_116 hT rfl rfl)) rfl (.takes (fuel := 0) hT [11] kr kr rfl (.done kr sl (.seq (.cond rfl (fun c119 => ?_) (fun c119 => ?_))))))
              ·
                rw [show Op.bytesLess y.key.data.toList y0.key.data.toList = false from kLt_asymm hlt, decide_eq_false (Ne.symm (kLt_ne hlt))] at c119; cases c119
              ·
                refine TT.skip (.blk (.seq (.region (.pures hT 3 rfl (.nil (.loop (q + 1) ?_ ?_ (SubR.cons rfl (SubR.cons rfl (SubR.cons' rfl (by (try dsimp only); exact (int_eq (by rw [wrap_i64 (by omega) (by omega)]; omega))) (SubR.nil _)))) sl))))))
                · exact ⟨by omega, by omega⟩
                · omega
            ·
              have c105 := of_decide_eq_false c105
              refine TT.exit (.seq (.loop (.here (.seq (.seq (.region (.pures hT 3 rfl (.nil (.seq (.ret (.of (rs := [.tmp 8]) [_] hs rfl (.tmp rfl .nil) sl ?_)))))))))))
              try dsimp only [one]
              exact ⟨rfl, rfl⟩
        ·
          refine OT.nil (.seq (.seq (.region (.pures hT 1 rfl (.mkiface Tryz.underlying25 rfl rfl rfl rfl (.call Tryz.call14 rfl rfl rfl rfl (Fun.pull pl (bad_New hB4)) ?_))))))
          rintro v_92 hs_92 ⟨s, HS, rfl, rfl, hS⟩
          refine OT.pures hT 1 rfl (.nil (.seq (.seq (.region (.pures hT 1 rfl (.build (cs := encVl cX.val) hT rfl Tryz.zeroValue35 rfl rfl rfl rfl (.build (cs := encCell cX) hT rfl Tryz.zeroValue38 rfl rfl rfl rfl (.call Tryz.call15 rfl rfl rfl rfl (Fun.pull pl (bad_Put hB4.long hS (x := cX) (by decide))) ?_))))))))
          rintro v_96 hs_96 ⟨H5, rfl, Qt1, hS1⟩
          refine OT.nil (.seq (.seq (.region (.pures hT 2 rfl (.call Tryz.call26 rfl rfl rfl rfl (Fun.pull pl (bad_Del hB4.long hS1)) ?_)))))
          rintro v_99 hs_99 ⟨H6, rfl, Qt2, hS2⟩
          refine OT.nil (.seq (.seq (.seq (.region (.pures hT 2 rfl (.nil (.seq (.cond rfl (fun c101 => ?_) (fun c101 => ?_)))))))))
          ·
            refine TT.seq (.region (.pures hT 1 rfl (.nil (.seq (.ret (.of (rs := [.tmp 8]) [_] hs rfl (.tmp rfl .nil) sl ?_))))))
            try dsimp only [one]
            exact ⟨rfl, rfl⟩
          ·
            have hrl : rising (keysOf l) := by first | exact hris hck | exact absurd c101 (by decide)
            refine TT.skip (.seq (.seq (.seq (.region (.pures hT 1 rfl (.nil (.seq (.block (.loop (ι := Nat) (fun j => 1 ≤ (j) ∧ (j) ≤ 8193) (fun j => l.length - (j)) (fun j => [(15, .slice a3 l.length c3), (16, .int .i64 0), (18, .int .i64 ((j) : Nat))]) (fun j => K3 :: hs) (1) ?_ (SubR.cons rfl (SubR.cons rfl (SubR.cons rfl (SubR.nil _)))) sl ?_)))))))))
            · exact ⟨Nat.le_refl _, by decide⟩
            rintro q ⟨hq, hq2⟩
            show TT _ _ _ [(15, .slice a3 l.length c3), (16, .int .i64 0), (18, .int .i64 (q : Nat))] (K3 :: hs)
            refine TT.seq (.seq (.region (.pures hT 4 rfl (.nil (.seq (.cond rfl (fun c105 => ?_) (fun c105 => ?_)))))))
            ·
              have c105 := of_decide_eq_true c105
              obtain ⟨y, hy⟩ := nth (l := l) (i := q) (by omega)
              obtain ⟨y0, hy0⟩ := nth (l := l) (i := q - 1) (by omega)
              have hlt : kLt y0.key y.key = true := lt_at hrl (show q - 1 < q by omega) (keys_at hy0) (keys_at hy)
              refine TT.skip (.seq (.seq (.block (.seq (.draw ((K3 :: hs)) mixed (.takes (fuel := 7) hT [0, 1, 5, 6, 7] kr kr rfl (.index (fuel := 6) hT 2 rfl kr kr kr rfl rfl rfl rfl ho3.row (by omega) (by rw [Int.toNat_natCast]; exact hy) rfl (fun ad_110 hel_110 => ?_))))))))
              obtain ⟨eb_110, eo_110, rfl, hfld_110⟩ := hel_110.at (P := Tryz.prog)
              refine AT.takes (fuel := 5) hT [3] kr kr rfl (.take (fuel := 4) hT 4 rfl rfl kr kr kr rfl (.load rfl (hfld_110 hT rfl rfl)) rfl (.index (fuel := 3) hT 8 rfl kr kr kr rfl rfl rfl rfl ho3.row (by rw [wrap_i64 (by omega) (by omega)]; omega) (by rw [wrap_i64 (by omega) (by omega), show ((q : Int) - 1).toNat = q - 1 by omega]; exact hy0) rfl (fun ad_116 hel_116 => ?_)))
              obtain ⟨eb_116, eo_116, rfl, hfld_116⟩ := hel_116.at (P := Tryz.prog)
              refine AT.takes (fuel := 2) hT [9] kr kr rfl (.take (fuel := 1) hT 10 rfl rfl kr kr kr rfl (.load rfl (hfld_116 hT rfl rfl)) rfl (.takes (fuel := 0) hT [11] kr kr rfl (.done kr sl (.seq (.cond rfl (fun c119 => ?_) (fun c119 => ?_))))))
              ·
                rw [show Op.bytesLess y.key.data.toList y0.key.data.toList = false from kLt_asymm hlt, decide_eq_false (Ne.symm (kLt_ne hlt))] at c119; cases c119
              ·
                refine TT.skip (.blk (.seq (.region (.pures hT 3 rfl (.nil (.loop (q + 1) ?_ ?_ (SubR.cons rfl (SubR.cons rfl (SubR.cons' rfl (by (try dsimp only); exact (int_eq (by rw [wrap_i64 (by omega) (by omega)]; omega))) (SubR.nil _)))) sl))))))
                · exact ⟨by omega, by omega⟩
                · omega
            ·
              have c105 := of_decide_eq_false c105
              refine TT.exit (.seq (.loop (.here (.seq (.seq (.region (.pures hT 3 rfl (.nil (.seq (.ret (.of (rs := [.tmp 8]) [_] hs rfl (.tmp rfl .nil) sl ?_)))))))))))
              try dsimp only [one]
              exact ⟨rfl, rfl⟩
      ·
        refine OT.pures hT 5 rfl (.nil (.seq (.seq (.region (.pures hT 1 rfl (.mkiface Tryz.underlying25 rfl rfl rfl rfl (.call Tryz.call25 rfl rfl rfl rfl (bad_Pages hB3) ?_)))))))
        rintro v_89 hs_89 ⟨H4, K4, (⟨rfl, hB4⟩ | ⟨rfl, hB4⟩)⟩
        ·
          refine OT.nil (.seq (.seq (.region (.pures hT 1 rfl (.mkiface Tryz.underlying25 rfl rfl rfl rfl (.call Tryz.call14 rfl rfl rfl rfl (Fun.pull pl (bad_New hB4)) ?_))))))
          rintro v_92 hs_92 ⟨s, HS, rfl, rfl, hS⟩
          refine OT.pures hT 1 rfl (.nil (.seq (.seq (.region (.pures hT 1 rfl (.build (cs := encVl cX.val) hT rfl Tryz.zeroValue35 rfl rfl rfl rfl (.build (cs := encCell cX) hT rfl Tryz.zeroValue38 rfl rfl rfl rfl (.call Tryz.call15 rfl rfl rfl rfl (Fun.pull pl (bad_Put hB4.long hS (x := cX) (by decide))) ?_))))))))
          rintro v_96 hs_96 ⟨H5, rfl, Qt1, hS1⟩
          refine OT.nil (.seq (.seq (.region (.pures hT 2 rfl (.call Tryz.call26 rfl rfl rfl rfl (Fun.pull pl (bad_Del hB4.long hS1)) ?_)))))
          rintro v_99 hs_99 ⟨H6, rfl, Qt2, hS2⟩
          refine OT.nil (.seq (.seq (.seq (.region (.pures hT 2 rfl (.nil (.seq (.cond rfl (fun c101 => ?_) (fun c101 => ?_)))))))))
          ·
            refine TT.seq (.region (.pures hT 1 rfl (.nil (.seq (.ret (.of (rs := [.tmp 8]) [_] hs rfl (.tmp rfl .nil) sl ?_))))))
            try dsimp only [one]
            exact ⟨rfl, rfl⟩
          ·
            first | exact absurd hck hno | exact absurd c101 (by decide)
        ·
          refine OT.nil (.seq (.seq (.region (.pures hT 1 rfl (.mkiface Tryz.underlying25 rfl rfl rfl rfl (.call Tryz.call14 rfl rfl rfl rfl (Fun.pull pl (bad_New hB4)) ?_))))))
          rintro v_92 hs_92 ⟨s, HS, rfl, rfl, hS⟩
          refine OT.pures hT 1 rfl (.nil (.seq (.seq (.region (.pures hT 1 rfl (.build (cs := encVl cX.val) hT rfl Tryz.zeroValue35 rfl rfl rfl rfl (.build (cs := encCell cX) hT rfl Tryz.zeroValue38 rfl rfl rfl rfl (.call Tryz.call15 rfl rfl rfl rfl (Fun.pull pl (bad_Put hB4.long hS (x := cX) (by decide))) ?_))))))))
          rintro v_96 hs_96 ⟨H5, rfl, Qt1, hS1⟩
          refine OT.nil (.seq (.seq (.region (.pures hT 2 rfl (.call Tryz.call26 rfl rfl rfl rfl (Fun.pull pl (bad_Del hB4.long hS1)) ?_)))))
          rintro v_99 hs_99 ⟨H6, rfl, Qt2, hS2⟩
          refine OT.nil (.seq (.seq (.seq (.region (.pures hT 2 rfl (.nil (.seq (.cond rfl (fun c101 => ?_) (fun c101 => ?_)))))))))
          ·
            refine TT.seq (.region (.pures hT 1 rfl (.nil (.seq (.ret (.of (rs := [.tmp 8]) [_] hs rfl (.tmp rfl .nil) sl ?_))))))
            try dsimp only [one]
            exact ⟨rfl, rfl⟩
          ·
            first | exact absurd hck hno | exact absurd c101 (by decide)
    ·
      have g69 : e = 0 := by simpa using g69
      subst g69
      obtain ⟨_, hck⟩ := hce.resolve_right (by decide)
      refine OT.pures hT 7 rfl (.nil (.seq (.cond_false rfl (.skip (.seq (.seq (.region (.pures hT 1 rfl (.mkiface Tryz.underlying25 rfl rfl rfl rfl (.pures hT 1 rfl (.call Tryz.call18 rfl rfl rfl rfl (bad_Get hB1) ?_)))))))))))
      rintro v_80 hs_80 ⟨H2, rfl, hB2⟩
      refine OT.nil (.seq (.seq (.region (.pures hT 1 rfl (.mkiface Tryz.underlying25 rfl rfl rfl rfl (.call Tryz.call24 rfl rfl rfl rfl (bad_Scan hB2) ?_))))))
      rintro v_84 hs_84 (⟨H3, K3, v3, l, rfl, rfl, ho3, hB3, hlen, hris⟩ | ⟨H3, e3, rfl, rfl, hB3, hno⟩)
      ·
        obtain ⟨a3, c3, hv3⟩ := (ho3.row (hs := [])).len
        subst hv3
        refine OT.pures hT 5 rfl (.nil (.seq (.seq (.region (.pures hT 1 rfl (.mkiface Tryz.underlying25 rfl rfl rfl rfl (.call Tryz.call25 rfl rfl rfl rfl (bad_Pages hB3) ?_)))))))
        rintro v_89 hs_89 ⟨H4, K4, (⟨rfl, hB4⟩ | ⟨rfl, hB4⟩)⟩
        ·
          refine OT.nil (.seq (.seq (.region (.pures hT 1 rfl (.mkiface Tryz.underlying25 rfl rfl rfl rfl (.call Tryz.call14 rfl rfl rfl rfl (Fun.pull pl (bad_New hB4)) ?_))))))
          rintro v_92 hs_92 ⟨s, HS, rfl, rfl, hS⟩
          refine OT.pures hT 1 rfl (.nil (.seq (.seq (.region (.pures hT 1 rfl (.build (cs := encVl cX.val) hT rfl Tryz.zeroValue35 rfl rfl rfl rfl (.build (cs := encCell cX) hT rfl Tryz.zeroValue38 rfl rfl rfl rfl (.call Tryz.call15 rfl rfl rfl rfl (Fun.pull pl (bad_Put hB4.long hS (x := cX) (by decide))) ?_))))))))
          rintro v_96 hs_96 ⟨H5, rfl, Qt1, hS1⟩
          refine OT.nil (.seq (.seq (.region (.pures hT 2 rfl (.call Tryz.call26 rfl rfl rfl rfl (Fun.pull pl (bad_Del hB4.long hS1)) ?_)))))
          rintro v_99 hs_99 ⟨H6, rfl, Qt2, hS2⟩
          refine OT.nil (.seq (.seq (.seq (.region (.pures hT 2 rfl (.nil (.seq (.cond rfl (fun c101 => ?_) (fun c101 => ?_)))))))))
          ·
            refine TT.seq (.region (.pures hT 1 rfl (.nil (.seq (.ret (.of (rs := [.tmp 8]) [_] hs rfl (.tmp rfl .nil) sl ?_))))))
            try dsimp only [one]
            exact ⟨rfl, rfl⟩
          ·
            have hrl : rising (keysOf l) := by first | exact hris hck | exact absurd c101 (by decide)
            refine TT.skip (.seq (.seq (.seq (.region (.pures hT 1 rfl (.nil (.seq (.block (.loop (ι := Nat) (fun j => 1 ≤ (j) ∧ (j) ≤ 8193) (fun j => l.length - (j)) (fun j => [(15, .slice a3 l.length c3), (16, .int .i64 0), (18, .int .i64 ((j) : Nat))]) (fun j => K3 :: hs) (1) ?_ (SubR.cons rfl (SubR.cons rfl (SubR.cons rfl (SubR.nil _)))) sl ?_)))))))))
            · exact ⟨Nat.le_refl _, by decide⟩
            rintro q ⟨hq, hq2⟩
            show TT _ _ _ [(15, .slice a3 l.length c3), (16, .int .i64 0), (18, .int .i64 (q : Nat))] (K3 :: hs)
            refine TT.seq (.seq (.region (.pures hT 4 rfl (.nil (.seq (.cond rfl (fun c105 => ?_) (fun c105 => ?_)))))))
            ·
              have c105 := of_decide_eq_true c105
              obtain ⟨y, hy⟩ := nth (l := l) (i := q) (by omega)
              obtain ⟨y0, hy0⟩ := nth (l := l) (i := q - 1) (by omega)
              have hlt : kLt y0.key y.key = true := lt_at hrl (show q - 1 < q by omega) (keys_at hy0) (keys_at hy)
              refine TT.skip (.seq (.seq (.block (.seq (.draw ((K3 :: hs)) mixed (.takes (fuel := 7) hT [0, 1, 5, 6, 7] kr kr rfl (.index (fuel := 6) hT 2 rfl kr kr kr rfl rfl rfl rfl ho3.row (by omega) (by rw [Int.toNat_natCast]; exact hy) rfl (fun ad_110 hel_110 => ?_))))))))
              obtain ⟨eb_110, eo_110, rfl, hfld_110⟩ := hel_110.at (P := Tryz.prog)
              refine AT.takes (fuel := 5) hT [3] kr kr rfl (.take (fuel := 4) hT 4 rfl rfl kr kr kr rfl (.load rfl (hfld_110 hT rfl rfl)) rfl (.index (fuel := 3) hT 8 rfl kr kr kr rfl rfl rfl rfl ho3.row (by rw [wrap_i64 (by omega) (by omega)]; omega) (by rw [wrap_i64 (by omega) (by omega), show ((q : Int) - 1).toNat = q - 1 by omega]; exact hy0) rfl (fun ad_116 hel_116 => ?_)))
              obtain ⟨eb_116, eo_116, rfl, hfld_116⟩ := hel_116.at (P := Tryz.prog)
              refine AT.takes (fuel := 2) hT [9] kr kr rfl (.take (fuel := 1) hT 10 rfl rfl kr kr kr rfl (.load rfl (hfld_116 hT rfl rfl)) rfl (.takes (fuel := 0) hT [11] kr kr rfl (.done kr sl (.seq (.cond rfl (fun c119 => ?_) (fun c119 => ?_))))))
              ·
                rw [show Op.bytesLess y.key.data.toList y0.key.data.toList = false from kLt_asymm hlt, decide_eq_false (Ne.symm (kLt_ne hlt))] at c119; cases c119
              ·
                refine TT.skip (.blk (.seq (.region (.pures hT 3 rfl (.nil (.loop (q + 1) ?_ ?_ (SubR.cons rfl (SubR.cons rfl (SubR.cons' rfl (by (try dsimp only); exact (int_eq (by rw [wrap_i64 (by omega) (by omega)]; omega))) (SubR.nil _)))) sl))))))
                · exact ⟨by omega, by omega⟩
                · omega
            ·
              have c105 := of_decide_eq_false c105
              refine TT.exit (.seq (.loop (.here (.seq (.seq (.region (.pures hT 3 rfl (.nil (.seq (.ret (.of (rs := [.tmp 8]) [_] hs rfl (.tmp rfl .nil) sl ?_)))))))))))
              try dsimp only [one]
              exact ⟨rfl, rfl⟩
        ·
          refine OT.nil (.seq (.seq (.region (.pures hT 1 rfl (.mkiface Tryz.underlying25 rfl rfl rfl rfl (.call Tryz.call14 rfl rfl rfl rfl (Fun.pull pl (bad_New hB4)) ?_))))))
          rintro v_92 hs_92 ⟨s, HS, rfl, rfl, hS⟩
          refine OT.pures hT 1 rfl (.nil (.seq (.seq (.region (.pures hT 1 rfl (.build (cs := encVl cX.val) hT rfl Tryz.zeroValue35 rfl rfl rfl rfl (.build (cs := encCell cX) hT rfl Tryz.zeroValue38 rfl rfl rfl rfl (.call Tryz.call15 rfl rfl rfl rfl (Fun.pull pl (bad_Put hB4.long hS (x := cX) (by decide))) ?_))))))))
          rintro v_96 hs_96 ⟨H5, rfl, Qt1, hS1⟩
          refine OT.nil (.seq (.seq (.region (.pures hT 2 rfl (.call Tryz.call26 rfl rfl rfl rfl (Fun.pull pl (bad_Del hB4.long hS1)) ?_)))))
          rintro v_99 hs_99 ⟨H6, rfl, Qt2, hS2⟩
          refine OT.nil (.seq (.seq (.seq (.region (.pures hT 2 rfl (.nil (.seq (.cond rfl (fun c101 => ?_) (fun c101 => ?_)))))))))
          ·
            refine TT.seq (.region (.pures hT 1 rfl (.nil (.seq (.ret (.of (rs := [.tmp 8]) [_] hs rfl (.tmp rfl .nil) sl ?_))))))
            try dsimp only [one]
            exact ⟨rfl, rfl⟩
          ·
            have hrl : rising (keysOf l) := by first | exact hris hck | exact absurd c101 (by decide)
            refine TT.skip (.seq (.seq (.seq (.region (.pures hT 1 rfl (.nil (.seq (.block (.loop (ι := Nat) (fun j => 1 ≤ (j) ∧ (j) ≤ 8193) (fun j => l.length - (j)) (fun j => [(15, .slice a3 l.length c3), (16, .int .i64 0), (18, .int .i64 ((j) : Nat))]) (fun j => K3 :: hs) (1) ?_ (SubR.cons rfl (SubR.cons rfl (SubR.cons rfl (SubR.nil _)))) sl ?_)))))))))
            · exact ⟨Nat.le_refl _, by decide⟩
            rintro q ⟨hq, hq2⟩
            show TT _ _ _ [(15, .slice a3 l.length c3), (16, .int .i64 0), (18, .int .i64 (q : Nat))] (K3 :: hs)
            refine TT.seq (.seq (.region (.pures hT 4 rfl (.nil (.seq (.cond rfl (fun c105 => ?_) (fun c105 => ?_)))))))
            ·
              have c105 := of_decide_eq_true c105
              obtain ⟨y, hy⟩ := nth (l := l) (i := q) (by omega)
              obtain ⟨y0, hy0⟩ := nth (l := l) (i := q - 1) (by omega)
              have hlt : kLt y0.key y.key = true := lt_at hrl (show q - 1 < q by omega) (keys_at hy0) (keys_at hy)
              refine TT.skip (.seq (.seq (.block (.seq (.draw ((K3 :: hs)) mixed (.takes (fuel := 7) hT [0, 1, 5, 6, 7] kr kr rfl (.index (fuel := 6) hT 2 rfl kr kr kr rfl rfl rfl rfl ho3.row (by omega) (by rw [Int.toNat_natCast]; exact hy) rfl (fun ad_110 hel_110 => ?_))))))))
              obtain ⟨eb_110, eo_110, rfl, hfld_110⟩ := hel_110.at (P := Tryz.prog)
              refine AT.takes (fuel := 5) hT [3] kr kr rfl (.take (fuel := 4) hT 4 rfl rfl kr kr kr rfl (.load rfl (hfld_110 hT rfl rfl)) rfl (.index (fuel := 3) hT 8 rfl kr kr kr rfl rfl rfl rfl ho3.row (by rw [wrap_i64 (by omega) (by omega)]; omega) (by rw [wrap_i64 (by omega) (by omega), show ((q : Int) - 1).toNat = q - 1 by omega]; exact hy0) rfl (fun ad_116 hel_116 => ?_)))
              obtain ⟨eb_116, eo_116, rfl, hfld_116⟩ := hel_116.at (P := Tryz.prog)
              refine AT.takes (fuel := 2) hT [9] kr kr rfl (.take (fuel := 1) hT 10 rfl rfl kr kr kr rfl (.load rfl (hfld_116 hT rfl rfl)) rfl (.takes (fuel := 0) hT [11] kr kr rfl (.done kr sl (.seq (.cond rfl (fun c119 => ?_) (fun c119 => ?_))))))
              ·
                rw [show Op.bytesLess y.key.data.toList y0.key.data.toList = false from kLt_asymm hlt, decide_eq_false (Ne.symm (kLt_ne hlt))] at c119; cases c119
              ·
                refine TT.skip (.blk (.seq (.region (.pures hT 3 rfl (.nil (.loop (q + 1) ?_ ?_ (SubR.cons rfl (SubR.cons rfl (SubR.cons' rfl (by (try dsimp only); exact (int_eq (by rw [wrap_i64 (by omega) (by omega)]; omega))) (SubR.nil _)))) sl))))))
                · exact ⟨by omega, by omega⟩
                · omega
            ·
              have c105 := of_decide_eq_false c105
              refine TT.exit (.seq (.loop (.here (.seq (.seq (.region (.pures hT 3 rfl (.nil (.seq (.ret (.of (rs := [.tmp 8]) [_] hs rfl (.tmp rfl .nil) sl ?_)))))))))))
              try dsimp only [one]
              exact ⟨rfl, rfl⟩
      ·
        refine OT.pures hT 5 rfl (.nil (.seq (.seq (.region (.pures hT 1 rfl (.mkiface Tryz.underlying25 rfl rfl rfl rfl (.call Tryz.call25 rfl rfl rfl rfl (bad_Pages hB3) ?_)))))))
        rintro v_89 hs_89 ⟨H4, K4, (⟨rfl, hB4⟩ | ⟨rfl, hB4⟩)⟩
        ·
          refine OT.nil (.seq (.seq (.region (.pures hT 1 rfl (.mkiface Tryz.underlying25 rfl rfl rfl rfl (.call Tryz.call14 rfl rfl rfl rfl (Fun.pull pl (bad_New hB4)) ?_))))))
          rintro v_92 hs_92 ⟨s, HS, rfl, rfl, hS⟩
          refine OT.pures hT 1 rfl (.nil (.seq (.seq (.region (.pures hT 1 rfl (.build (cs := encVl cX.val) hT rfl Tryz.zeroValue35 rfl rfl rfl rfl (.build (cs := encCell cX) hT rfl Tryz.zeroValue38 rfl rfl rfl rfl (.call Tryz.call15 rfl rfl rfl rfl (Fun.pull pl (bad_Put hB4.long hS (x := cX) (by decide))) ?_))))))))
          rintro v_96 hs_96 ⟨H5, rfl, Qt1, hS1⟩
          refine OT.nil (.seq (.seq (.region (.pures hT 2 rfl (.call Tryz.call26 rfl rfl rfl rfl (Fun.pull pl (bad_Del hB4.long hS1)) ?_)))))
          rintro v_99 hs_99 ⟨H6, rfl, Qt2, hS2⟩
          refine OT.nil (.seq (.seq (.seq (.region (.pures hT 2 rfl (.nil (.seq (.cond rfl (fun c101 => ?_) (fun c101 => ?_)))))))))
          ·
            refine TT.seq (.region (.pures hT 1 rfl (.nil (.seq (.ret (.of (rs := [.tmp 8]) [_] hs rfl (.tmp rfl .nil) sl ?_))))))
            try dsimp only [one]
            exact ⟨rfl, rfl⟩
          ·
            first | exact absurd hck hno | exact absurd c101 (by decide)
        ·
          refine OT.nil (.seq (.seq (.region (.pures hT 1 rfl (.mkiface Tryz.underlying25 rfl rfl rfl rfl (.call Tryz.call14 rfl rfl rfl rfl (Fun.pull pl (bad_New hB4)) ?_))))))
          rintro v_92 hs_92 ⟨s, HS, rfl, rfl, hS⟩
          refine OT.pures hT 1 rfl (.nil (.seq (.seq (.region (.pures hT 1 rfl (.build (cs := encVl cX.val) hT rfl Tryz.zeroValue35 rfl rfl rfl rfl (.build (cs := encCell cX) hT rfl Tryz.zeroValue38 rfl rfl rfl rfl (.call Tryz.call15 rfl rfl rfl rfl (Fun.pull pl (bad_Put hB4.long hS (x := cX) (by decide))) ?_))))))))
          rintro v_96 hs_96 ⟨H5, rfl, Qt1, hS1⟩
          refine OT.nil (.seq (.seq (.region (.pures hT 2 rfl (.call Tryz.call26 rfl rfl rfl rfl (Fun.pull pl (bad_Del hB4.long hS1)) ?_)))))
          rintro v_99 hs_99 ⟨H6, rfl, Qt2, hS2⟩
          refine OT.nil (.seq (.seq (.seq (.region (.pures hT 2 rfl (.nil (.seq (.cond rfl (fun c101 => ?_) (fun c101 => ?_)))))))))
          ·
            refine TT.seq (.region (.pures hT 1 rfl (.nil (.seq (.ret (.of (rs := [.tmp 8]) [_] hs rfl (.tmp rfl .nil) sl ?_))))))
            try dsimp only [one]
            exact ⟨rfl, rfl⟩
          ·
            first | exact absurd hck hno | exact absurd c101 (by decide)

end Go.Proofs.YtmkandddjcncfaaGreat.Sx
end

section
namespace Go.Proofs.YtmkandddjcncfaaGreat.Sx
open Go Go.Sx Go.Pl
variable [Outer]

set_option maxHeartbeats 8000000 in
set_option maxRecDepth 100000 in
theorem law_TreeAll {v : Value} {ops : List TOp} {hs : List Chunk} (hr : Row encTOp 11 hs v ops) (hol : ops.length ≤ 9223372036854775807) (hfl : FlOps ops) : Fun Tryz.prog 7 [v] hs (fun v' hs' => v' = .bool true ∧ hs = hs') := by
  refine Fun.enter 210 Tryz.func7 rfl Tryz.ntmps7 rfl ?_
  obtain ⟨a0, c0, hv⟩ := hr.len
  subst hv
  refine TT.seq (.region (.pures hT 1 rfl (.nil (.seq (.seq (.region (.call Tryz.call13 rfl rfl rfl rfl (law14_begun) ?_)))))))
  rintro v_22 hs_22 ⟨rfl, rfl⟩
  refine OT.pures hT 1 rfl (.nil (.seq (.seq (.seq (.region (.pures hT 2 rfl (.nil (.seq (.cond_false rfl (.skip (.seq (.seq (.region (.build (cs := bkCells (List.replicate 96 (.slice none 0 0))) hT rfl Tryz.zeroValue29 rfl rfl rfl rfl (.box rfl rfl rfl (fun b_26 => ?_))))))))))))))))
  refine OT.mkiface Tryz.underlying25 rfl rfl rfl rfl ?_
  have hB0 : BkAt 29 b_26 noP [(b_26, blk (bkCells (List.replicate 96 (.slice none 0 0))) 29 (0, 0))] := BkAt.one (Slots.zero [[]])
  show OT _ _ _ _ _ ([(b_26, blk (bkCells (List.replicate 96 (.slice none 0 0))) 29 (0, 0))] :: hs)
  generalize ([(b_26, blk (bkCells (List.replicate 96 (.slice none 0 0))) 29 (0, 0))] : Chunk) = HB at hB0 ⊢
  refine OT.call Tryz.call14 rfl rfl rfl rfl (tk_New hB0) ?_
  rintro v_28 hs_28 ⟨b1, HS0, rfl, rfl, hS0⟩
  refine OT.pures hT 1 rfl (.nil (.seq (.seq (.region (.pures hT 1 rfl (.nil (.seq (.seq (.seq (.region (.pures hT 1 rfl (.nil (.seq (.block (.loop (ι := Nat × Value × Chunk × Chunk × Gone) (fun j => (j.1) ≤ 60 ∧ TrS b1 (j.2.2.2.2) (j.2.2.2.1) ∧ FlL (j.2.2.2.2).2 ∧ Own encCell 8 66 (j.2.1) (j.2.2.2.2).2 (j.2.2.1)) (fun j => 60 - (j.1)) (fun j => [(0, .slice a0 ops.length c0), (4, .pointer (some ⟨b1, 0, none⟩)), (5, (j.2.1)), (6, .int .i64 ((j.1) : Nat))]) (fun j => (j.2.2.1) :: (j.2.2.2.1) :: hs) (0, .slice none 0 0, [], HS0, ([], [])) ?_ (SubR.cons rfl (SubR.cons rfl (SubR.cons rfl (SubR.cons rfl (SubR.nil _))))) (.empty sl) ?_)))))))))))))))
  · dsimp only
    exact ⟨Nat.zero_le _, hS0, (fun c hc => by cases hc), Own.nil⟩
  rintro ⟨i, w, K, HS, g⟩ hI
  dsimp only at hI
  obtain ⟨hi, hS, hO, hoK⟩ := hI
  show TT _ _ _ [(0, .slice a0 ops.length c0), (4, .pointer (some ⟨b1, 0, none⟩)), (5, w), (6, .int .i64 (i : Nat))] (K :: HS :: hs)
  refine TT.seq (.seq (.region (.pures hT 5 rfl (.split 33 rfl (fun g33 => ?_) (fun g33 => ?_)))))
  ·
    have g33 : i < ops.length := by have := of_decide_eq_true g33; omega
    refine OT.pures hT 3 rfl (.nil (.seq (.cond rfl (fun c36 => ?_) (fun c36 => ?_))))
    ·
      have c36 := of_decide_eq_true c36
      obtain ⟨x, hx⟩ := nth (l := ops) (i := i) (by omega)
      obtain ⟨_, hsm, hri, _, _⟩ := hS.small
      have hxf : (cutTOp x).c.val.f < 2 ^ 64 ∧ (cutTOp x).c.new.f < 2 ^ 64 := hfl x (List.mem_of_getElem? hx)
      obtain ⟨aL, cL, hwL⟩ := (hoK.row (hs := [])).len
      subst hwL
      refine TT.skip (.seq (.seq (.block (.seq (.region (.pures hT 2 rfl (.index hT rfl rfl rfl rfl hr.there.there (by omega) (by rw [Int.toNat_natCast]; exact hx) rfl (fun ad_41 hel_41 => ?_))))))))
      refine OT.load rfl rfl (hel_41.ld_struct hT rfl) rfl (.alloc Tryz.zeroValue68 rfl rfl (fun b_7 => ?_))
      refine OT.store_all hT rfl rfl rfl rfl pl rfl rfl rfl (.inl (Nat.le_refl _)) ?_
      refine OT.nil (.seq (.seq (.drawD [10, 12, 14] (([(b_7, blk (encTOp x) 68 (0, 0))] :: hs)) mixed (.takes (fuel := 12) hT [0, 3, 6] kr kr rfl (.take (fuel := 11) hT 1 rfl rfl kr kr kr rfl (.load rfl (Ld.struct (vs := encCell x.c) hT rfl hz rfl rfl)) rfl ?_)))))
      refine AT.take (fuel := 10) hT 4 rfl rfl kr kr kr rfl (.load rfl (Ld.one hT rfl hz rfl)) rfl ?_
      refine AT.take (fuel := 9) hT 7 rfl rfl kr kr kr rfl (.load rfl (Ld.one hT rfl hz rfl)) rfl ?_
      refine AT.op (fuel := 8) 2 kr rfl sl (.call Tryz.call28 rfl rfl rfl rfl (law10_Cut (x := x.c)) ?_)
      rintro v_45 hs_45 ⟨rfl, rfl⟩
      refine OT.nil (.any (.takes (fuel := 7) hT [9] kr kr rfl (.op (fuel := 6) 5 kr rfl sl (.call Tryz.call23 rfl rfl rfl rfl (law1_Cut (n := 20)) ?_))))
      rintro v_48 hs_48 ⟨rfl, rfl⟩
      refine OT.nil (.any (.op (fuel := 5) 8 kr rfl sl (.call Tryz.call23 rfl rfl rfl rfl (law1_Cut (n := 20)) ?_)))
      rintro v_51 hs_51 ⟨rfl, rfl⟩
      refine OT.nil (.any (.op (fuel := 4) 10 kr rfl sl (.store hT rfl rfl rfl rfl pl rfl (Nat.le_of_ble_eq_true rfl) rfl (.inl (Nat.le_refl _)) rfl ?_)))
      refine OT.nil (.any (.opD (fuel := 3) 11 kr rfl kr (.pures hT 1 rfl (.nil (.any (.opD (fuel := 2) 12 kr rfl kr (.store hT rfl rfl rfl rfl pl rfl (Nat.le_of_ble_eq_true rfl) rfl (.inl (Nat.le_refl _)) rfl ?_)))))))
      refine OT.nil (.any (.opD (fuel := 1) 13 kr rfl kr (.pures hT 1 rfl (.nil (.any (.opD (fuel := 0) 14 kr rfl kr (.store hT rfl rfl rfl rfl pl rfl (Nat.le_of_ble_eq_true rfl) rfl (.inl (Nat.le_refl _)) rfl ?_)))))))
      refine OT.nil (.any (.doneD kr kr (.seq (.seq (.seq (.region (.pures hT 1 rfl (.weaken (SubR.refl _) (sl (hs' := [(b_7, blk (encTOp (cutTOp x)) 68 (0, 0))] :: K :: HS :: hs)) (.load rfl rfl (Ld.one hT rfl hz rfl) rfl ?_)))))))))
      refine OT.nil (.seq (.block (.seq (.region (.pures hT 2 rfl (.nil (.seq (.cond rfl (fun c110 => ?_) (fun c110 => ?_)))))))))
      ·
        have c110 := beq_iff_eq.1 c110
        refine TT.seq (.region (.pures hT 2 rfl (.load rfl rfl (Ld.struct (vs := encCell (cutTOp x).c) hT rfl hz rfl rfl) rfl ?_)))
        refine OT.call Tryz.call29 rfl rfl rfl rfl (law10_Of) ?_
        rintro v_115 hs_115 ⟨rfl, rfl⟩
        refine OT.call Tryz.call15 rfl rfl rfl rfl (Fun.pull pl (tk_Put hS (x := (cutTOp x).c) hxf)) ?_
        rintro v_116 hs_116 ⟨HS1, g1, e1, rfl, rfl, hS1, hp⟩
        refine OT.pures hT 1 rfl (.nil (.seq (.seq (.seq (.region (.pures hT 1 rfl (.load rfl rfl (Ld.struct (vs := encCell (cutTOp x).c) hT rfl hz rfl rfl) rfl ?_)))))))
        refine OT.call Tryz.call30 rfl rfl rfl rfl (ref10_May hxf) ?_
        rintro v_119 hs_119 ⟨rfl, rfl⟩
        refine OT.pures hT 1 rfl (.nil (.seq (.cond rfl (fun c120 => ?_) (fun c120 => ?_))))
        ·
          have hm : mayCell (cutTOp x).c = false := by simpa using c120
          obtain ⟨rfl, rfl⟩ := put_bad hm hp
          have hSS := hS1
          refine TT.seq (.seq (.region (.pures hT 2 rfl (.nil (.seq (.cond_false rfl (.skip (.seq (.exit (.seq (.here (.seq (.seq (.region (.pures hT 1 rfl (.mkiface Tryz.underlying23 rfl rfl rfl rfl (.pures hT 1 rfl (.call Tryz.call37 rfl rfl rfl rfl (Fun.pull pl (law14_same hSS (Row.mono (hoK).row (fun b o hb => Has.sel sl hb)) (hO))) ?_))))))))))))))))))
          rintro v_208 hs_208 ⟨HS9, rfl, rfl, hS9⟩
          refine OT.pures hT 1 rfl (.nil (.seq (.cond_false rfl (.skip (.blk (.seq (.region (.pures hT 3 rfl (.nil (.loop (i + 1, _, K, HS9, g1) ?_ ?_ (SubR.cons rfl (SubR.cons rfl (SubR.cons rfl (SubR.cons' rfl (by (try dsimp only); exact (int_eq (by rw [wrap_i64 (by omega) (by omega)]; omega))) (SubR.nil _))))) sl))))))))))
          · dsimp only
            exact ⟨by omega, hS9, hO, hoK⟩
          · dsimp only
            omega
        ·
          have hm : mayCell (cutTOp x).c = true := by simpa using c120
          have hq := put_may hm hp
          refine TT.skip (.seq (.seq (.seq (.region (.pures hT 3 rfl (.split 125 rfl (fun g125 => ?_) (fun g125 => ?_)))))))
          ·
            obtain ⟨rfl, rfl, hf1, hl1⟩ := hq.resolve_left (fun h => by rw [h.1] at g125; simp at g125)
            refine OT.pures hT 3 rfl (.pures hT 1 rfl (.mkiface Tryz.underlying23 rfl rfl rfl rfl (.call Tryz.call27 rfl rfl rfl rfl (Fun.pull pl (law14_much hS1)) ?_)))
            rintro v_131 hs_131 ⟨HS2, rfl, rfl, hS2⟩
            have hSS := hS2
            rw [decide_eq_true (show 24 ≤ _ by omega)]
            refine OT.pures hT 3 rfl (.pures hT 5 rfl (.nil (.seq (.cond rfl (fun c139 => ?_) (fun c139 => ?_)))))
            ·
              have c139 := of_decide_eq_true c139; omega
            ·
              refine TT.skip (.seq (.seq (.region (.pures hT 2 rfl (.nil (.seq (.cond_false rfl (.skip (.blk (.seq (.seq (.region (.pures hT 1 rfl (.mkiface Tryz.underlying23 rfl rfl rfl rfl (.pures hT 1 rfl (.call Tryz.call37 rfl rfl rfl rfl (Fun.pull pl (law14_same hSS (Row.mono (hoK).row (fun b o hb => Has.sel sl hb)) (hO))) ?_))))))))))))))))
              rintro v_208 hs_208 ⟨HS9, rfl, rfl, hS9⟩
              refine OT.pures hT 1 rfl (.nil (.seq (.cond_false rfl (.skip (.blk (.seq (.region (.pures hT 3 rfl (.nil (.loop (i + 1, _, K, HS9, g1) ?_ ?_ (SubR.cons rfl (SubR.cons rfl (SubR.cons rfl (SubR.cons' rfl (by (try dsimp only); exact (int_eq (by rw [wrap_i64 (by omega) (by omega)]; omega))) (SubR.nil _))))) sl))))))))))
              · dsimp only
                exact ⟨by omega, hS9, hO, hoK⟩
              · dsimp only
                omega
          ·
            obtain ⟨rfl, hg1⟩ := hq.resolve_right (fun h => by rw [h.1] at g125; simp at g125)
            have hSS := hS1
            refine OT.pures hT 14 rfl (.nil (.seq (.cond_false rfl (.skip (.seq (.seq (.region (.pures hT 2 rfl (.nil (.seq (.cond_true rfl (.region (.pures hT 2 rfl (.load rfl rfl (Ld.struct (vs := encCell (cutTOp x).c) hT rfl hz rfl rfl) rfl ?_))))))))))))))
            refine OT.call Tryz.call31 rfl rfl rfl rfl (Fun.pull pl (law14_put hoK (by omega))) ?_
            rintro v_145 hs_145 ⟨K1, rfl, hoK1⟩
            rw [lawPut_is hri, ← hg1] at hoK1
            refine OT.pures hT 1 rfl (.nil (.blk (.seq (.seq (.region (.pures hT 1 rfl (.mkiface Tryz.underlying23 rfl rfl rfl rfl (.pures hT 1 rfl (.call Tryz.call37 rfl rfl rfl rfl (Fun.pull pl (law14_same hSS (Row.mono (hoK1).row (fun b o hb => Has.sel sl hb)) (by rw [hg1]; exact hO.put hri hxf))) ?_)))))))))
            rintro v_208 hs_208 ⟨HS9, rfl, rfl, hS9⟩
            refine OT.pures hT 1 rfl (.nil (.seq (.cond_false rfl (.skip (.blk (.seq (.region (.pures hT 3 rfl (.nil (.loop (i + 1, v_145, K1, HS9, g1) ?_ ?_ (SubR.cons rfl (SubR.cons rfl (SubR.cons rfl (SubR.cons' rfl (by (try dsimp only); exact (int_eq (by rw [wrap_i64 (by omega) (by omega)]; omega))) (SubR.nil _))))) sl))))))))))
            · dsimp only
              exact ⟨by omega, hS9, by rw [hg1]; exact hO.put hri hxf, hoK1⟩
            · dsimp only
              omega
      ·
        have c110 := beq_eq_false_iff_ne.1 c110
        refine TT.seq (.region (.pures hT 2 rfl (.nil (.seq (.cond rfl (fun c146 => ?_) (fun c146 => ?_))))))
        ·
          have c146 := beq_iff_eq.1 c146
          refine TT.seq (.region (.pures hT 2 rfl (.load rfl rfl (Ld.one hT rfl hz rfl) rfl ?_)))
          refine OT.call Tryz.call32 rfl rfl rfl rfl (law14_find (k := (cutTOp x).key) (Row.mono hoK.row (fun b o hb => Has.sel sl hb)) (by omega)) ?_
          rintro v_152 hs_152 ⟨rfl, rfl⟩
          refine OT.pures hT 3 rfl (.alloc Tryz.zeroValue66 rfl rfl (fun b_9 => ?_))
          refine OT.store_all hT rfl rfl rfl rfl pl rfl rfl rfl (.inl (Nat.le_refl _)) ?_
          refine OT.pures hT 1 rfl (.nil (.seq (.seq (.region (.pures hT 2 rfl (.load rfl rfl (Ld.one hT rfl hz rfl) rfl ?_))))))
          refine OT.call Tryz.call26 rfl rfl rfl rfl (Fun.pull pl (tk_Del hS (k := (cutTOp x).key))) ?_
          rintro v_159 hs_159 ⟨HS3, g3, rfl, rfl, hS3, hg3, _⟩
          have hSS := hS3
          refine OT.pures hT 5 rfl (.nil (.seq (.seq (.seq (.region (.pures hT 4 rfl (.split 165 rfl (fun g165 => ?_) (fun g165 => ?_))))))))
          ·
            exact absurd g165 (by simp)
          ·
            refine OT.pures hT 3 rfl (.nil (.seq (.cond_false rfl (.skip (.seq (.region (.pures hT 2 rfl (.load rfl rfl (Ld.one hT rfl hz rfl) rfl ?_))))))))
            refine OT.call Tryz.call33 rfl rfl rfl rfl (Fun.pull pl (law14_del (k := (cutTOp x).key) hoK (by omega))) ?_
            rintro v_172 hs_172 ⟨KD, rfl, hoD⟩
            rw [← hg3] at hoD
            refine OT.pures hT 1 rfl (.nil (.blk (.seq (.seq (.region (.pures hT 1 rfl (.mkiface Tryz.underlying23 rfl rfl rfl rfl (.pures hT 1 rfl (.call Tryz.call37 rfl rfl rfl rfl (Fun.pull pl (law14_same hSS (Row.mono (hoD).row (fun b o hb => Has.sel sl hb)) (by rw [hg3]; exact hO.cut _))) ?_)))))))))
            rintro v_208 hs_208 ⟨HS9, rfl, rfl, hS9⟩
            refine OT.pures hT 1 rfl (.nil (.seq (.cond_false rfl (.skip (.blk (.seq (.region (.pures hT 3 rfl (.nil (.loop (i + 1, v_172, KD, HS9, g3) ?_ ?_ (SubR.cons rfl (SubR.cons rfl (SubR.cons rfl (SubR.cons' rfl (by (try dsimp only); exact (int_eq (by rw [wrap_i64 (by omega) (by omega)]; omega))) (SubR.nil _))))) sl))))))))))
            · dsimp only
              exact ⟨by omega, hS9, by rw [hg3]; exact hO.cut _, hoD⟩
            · dsimp only
              omega
        ·
          have c146 := beq_eq_false_iff_ne.1 c146
          refine TT.seq (.region (.pures hT 2 rfl (.nil (.seq (.cond rfl (fun c173 => ?_) (fun c173 => ?_))))))
          ·
            have c173 := beq_iff_eq.1 c173
            refine TT.seq (.region (.pures hT 2 rfl (.load rfl rfl (Ld.one hT rfl hz rfl) rfl ?_)))
            refine OT.call Tryz.call32 rfl rfl rfl rfl (law14_find (k := (cutTOp x).key) (Row.mono hoK.row (fun b o hb => Has.sel sl hb)) (by omega)) ?_
            rintro v_179 hs_179 ⟨rfl, rfl⟩
            refine OT.pures hT 3 rfl (.alloc Tryz.zeroValue66 rfl rfl (fun b_13 => ?_))
            refine OT.store_all hT rfl rfl rfl rfl pl rfl rfl rfl (.inl (Nat.le_refl _)) ?_
            refine OT.pures hT 1 rfl (.nil (.seq (.seq (.region (.pures hT 1 rfl (.mkiface Tryz.underlying23 rfl rfl rfl rfl (.pures hT 1 rfl (.load rfl rfl (Ld.one hT rfl hz rfl) rfl ?_))))))))
            refine OT.call Tryz.call18 rfl rfl rfl rfl (Fun.pull pl (tk_Get hS (k := (cutTOp x).key))) ?_
            rintro v_187 hs_187 ⟨HS4, rfl, rfl, hS4⟩
            have hSS := hS4
            have hgf := getC_fl hO (cutTOp x).key
            refine OT.pures hT 4 rfl (.alloc Tryz.zeroValue38 rfl rfl (fun b_15 => ?_))
            refine OT.store_all hT rfl rfl rfl rfl pl rfl rfl rfl (.inl (Nat.le_refl _)) ?_
            refine OT.pures hT 2 rfl (.nil (.seq (.seq (.draw (([(b_13, blk (encCell ((getC g.2 (cutTOp x).key).getD noCell)) 66 (0, 0))] :: [(b_15, blk (encCell ((getC g.2 (cutTOp x).key).getD noCell)) 38 (0, 0))] :: hs)) mixed (.takes (fuel := 10) hT [0, 1, 2, 3] kr kr rfl (.split 194 rfl (fun g194 => ?_) (fun g194 => ?_)))))))
            ·
              exact absurd g194 (by simp)
            ·
              refine AT.takes (fuel := 6) hT [4, 5, 6, 7] kr kr rfl (.take (fuel := 5) hT 8 rfl rfl kr kr kr rfl (.load rfl (Ld.struct_all hT rfl hz rfl)) rfl ?_)
              refine AT.take (fuel := 4) hT 10 rfl rfl kr kr kr rfl (.load rfl (Ld.struct_all hT rfl hz rfl)) rfl ?_
              refine AT.op (fuel := 3) 9 kr rfl sl (.call Tryz.call35 rfl rfl rfl rfl (law10_Back) ?_)
              rintro v_200 hs_200 ⟨rfl, rfl⟩
              refine OT.nil (.any (.op (fuel := 2) 11 kr rfl sl (.call Tryz.call34 rfl rfl rfl rfl (ref10_Eq hgf hgf) ?_)))
              rintro v_202 hs_202 ⟨rfl, rfl⟩
              refine OT.nil (.any (.takes (fuel := 0) hT [12, 13] kr kr rfl (.done kr sl (.seq (.cond rfl (fun c204 => ?_) (fun c204 => ?_))))))
              ·
                exact absurd c204 (by rw [eqCell_self]; simp)
              ·
                refine TT.skip (.blk (.seq (.seq (.region (.pures hT 1 rfl (.mkiface Tryz.underlying23 rfl rfl rfl rfl (.pures hT 1 rfl (.call Tryz.call37 rfl rfl rfl rfl (Fun.pull pl (law14_same hSS (Row.mono (hoK).row (fun b o hb => Has.sel sl hb)) (hO))) ?_))))))))
                rintro v_208 hs_208 ⟨HS9, rfl, rfl, hS9⟩
                refine OT.pures hT 1 rfl (.nil (.seq (.cond_false rfl (.skip (.blk (.seq (.region (.pures hT 3 rfl (.nil (.loop (i + 1, _, K, HS9, g) ?_ ?_ (SubR.cons rfl (SubR.cons rfl (SubR.cons rfl (SubR.cons' rfl (by (try dsimp only); exact (int_eq (by rw [wrap_i64 (by omega) (by omega)]; omega))) (SubR.nil _))))) sl))))))))))
                · dsimp only
                  exact ⟨by omega, hS9, hO, hoK⟩
                · dsimp only
                  omega
          ·
            have c173 := beq_eq_false_iff_ne.1 c173
            refine TT.seq (.region (.pures hT 1 rfl (.mkiface Tryz.underlying23 rfl rfl rfl rfl (.pures hT 1 rfl (.load rfl rfl (Ld.one hT rfl hz rfl) rfl ?_)))))
            refine OT.pures hT 1 rfl (.load rfl rfl (Ld.one hT rfl hz rfl) rfl ?_)
            refine OT.call Tryz.call24 rfl rfl rfl rfl (Fun.pull pl (tk_Scan hS (s := (cutTOp x).key) (t := (cutTOp x).to))) ?_
            rintro v_64 hs_64 ⟨HS5, K5, v5, rfl, rfl, ho5, hS5⟩
            have hSS := hS5
            obtain ⟨a5, c5, hv5⟩ := (ho5.row (hs := [])).len
            subst hv5
            have hfw := List.length_filter_le (fun c => keyIn c.key (cutTOp x).key (cutTOp x).to) g.2
            refine OT.pures hT 5 rfl (.nil (.seq (.seq (.region (.pures hT 1 rfl (.nil (.seq (.seq (.seq (.region (.pures hT 1 rfl (.nil (.seq (.block (.loop (ι := Nat) (fun j => (j) ≤ g.2.length) (fun j => g.2.length - (j)) (fun j => [(0, .slice a0 ops.length c0), (4, .pointer (some ⟨b1, 0, none⟩)), (5, .slice aL g.2.length cL), (6, .int .i64 (i : Nat)), (7, .pointer (some ⟨b_7, 0, none⟩)), (18, .slice a5 (g.2.filter (fun c => keyIn c.key (cutTOp x).key (cutTOp x).to)).length c5), (19, .int .i64 0), (20, .int .i64 (((g.2.take (j)).filter (fun c => keyIn c.key (cutTOp x).key (cutTOp x).to)).length : Nat)), (21, .int .i64 ((j) : Nat))]) (fun j => HS5 :: K5 :: [(b_7, blk (encTOp (cutTOp x)) 68 (0, 0))] :: K :: hs) (0) ?_ (SubR.cons rfl (SubR.cons rfl (SubR.cons rfl (SubR.cons rfl (SubR.cons rfl (SubR.cons rfl (SubR.cons rfl (SubR.cons rfl (SubR.cons rfl (SubR.nil _)))))))))) sl ?_)))))))))))))))
            · exact Nat.zero_le _
            rintro j hj
            show TT _ _ _ [(0, .slice a0 ops.length c0), (4, .pointer (some ⟨b1, 0, none⟩)), (5, .slice aL g.2.length cL), (6, .int .i64 (i : Nat)), (7, .pointer (some ⟨b_7, 0, none⟩)), (18, .slice a5 (g.2.filter (fun c => keyIn c.key (cutTOp x).key (cutTOp x).to)).length c5), (19, .int .i64 0), (20, .int .i64 (((g.2.take j).filter (fun c => keyIn c.key (cutTOp x).key (cutTOp x).to)).length : Nat)), (21, .int .i64 (j : Nat))] (HS5 :: K5 :: [(b_7, blk (encTOp (cutTOp x)) 68 (0, 0))] :: K :: hs)
            refine TT.seq (.seq (.region (.pures hT 4 rfl (.nil (.seq (.cond rfl (fun c70 => ?_) (fun c70 => ?_)))))))
            ·
              have c70 := of_decide_eq_true c70
              obtain ⟨y, hy⟩ := nth (l := g.2) (i := j) (by omega)
              have hyf := hO y (List.mem_of_getElem? hy)
              have hfew := filter_few g.2 (fun c => keyIn c.key (cutTOp x).key (cutTOp x).to) j
              refine TT.skip (.seq (.seq (.block (.seq (.draw (([(b_7, blk (encTOp (cutTOp x)) 68 (0, 0))] :: K :: hs)) mixed (.takes (fuel := 6) hT [0, 1, 5, 7] kr kr rfl (.take (fuel := 5) hT 6 rfl rfl kr kr kr rfl (.load rfl (Ld.one hT rfl hz rfl)) rfl ?_)))))))
              refine AT.take (fuel := 4) hT 8 rfl rfl kr kr kr rfl (.load rfl (Ld.one hT rfl hz rfl)) rfl ?_
              refine AT.index (fuel := 3) hT 2 rfl kr kr kr rfl rfl rfl rfl hoK.row.there (by omega) (by rw [Int.toNat_natCast]; exact hy) rfl (fun ad_75 hel_75 => ?_)
              obtain ⟨eb_75, eo_75, rfl, hfld_75⟩ := hel_75.at (P := Tryz.prog)
              refine AT.takes (fuel := 2) hT [3] kr kr rfl (.take (fuel := 1) hT 4 rfl rfl kr kr kr rfl (.load rfl (hfld_75 hT rfl rfl)) rfl (.op (fuel := 0) 9 kr rfl sl (.call Tryz.call36 rfl rfl rfl rfl (ref1_In) ?_)))
              rintro v_82 hs_82 ⟨rfl, rfl⟩
              refine OT.nil (.any (.done kr sl (.seq (.cond rfl (fun c82 => ?_) (fun c82 => ?_)))))
              ·
                obtain ⟨hfa, hfs⟩ := filter_at (p := (fun c => keyIn c.key (cutTOp x).key (cutTOp x).to)) hy c82
                have hlt := (List.getElem?_eq_some_iff.1 hfa).1
                refine TT.seq (.seq (.draw ((K5 :: K :: hs)) mixed (.takes (fuel := 12) hT [0, 1, 2, 3, 4] kr kr rfl (.split 87 rfl (fun g87 => ?_) (fun g87 => ?_)))))
                ·
                  have g87 := of_decide_eq_true g87; omega
                ·
                  refine AT.takes (fuel := 8) hT [5, 6, 10, 11] kr kr rfl (.index (fuel := 7) hT 7 rfl kr kr kr rfl rfl rfl rfl ho5.row (by omega) (by rw [Int.toNat_natCast]; exact hfa) rfl (fun ad_90 hel_90 => ?_))
                  refine AT.take (fuel := 6) hT 8 rfl rfl kr kr kr rfl (.load rfl (hel_90.ld_struct hT rfl)) rfl (.index (fuel := 5) hT 12 rfl kr kr kr rfl rfl rfl rfl hoK.row.there (by omega) (by rw [Int.toNat_natCast]; exact hy) rfl (fun ad_95 hel_95 => ?_))
                  refine AT.take (fuel := 4) hT 13 rfl rfl kr kr kr rfl (.load rfl (hel_95.ld_struct hT rfl)) rfl (.op (fuel := 3) 9 kr rfl sl (.call Tryz.call35 rfl rfl rfl rfl (law10_Back) ?_))
                  rintro v_92 hs_92 ⟨rfl, rfl⟩
                  refine OT.nil (.any (.op (fuel := 2) 14 kr rfl sl (.call Tryz.call34 rfl rfl rfl rfl (ref10_Eq hyf hyf) ?_)))
                  rintro v_97 hs_97 ⟨rfl, rfl⟩
                  refine OT.nil (.any (.takes (fuel := 0) hT [15, 16] kr kr rfl (.done kr sl (.seq (.cond rfl (fun c99 => ?_) (fun c99 => ?_))))))
                  ·
                    exact absurd c99 (by rw [eqCell_self]; simp)
                  ·
                    refine TT.skip (.seq (.region (.pures hT 3 rfl (.nil (.blk (.seq (.region (.pures hT 3 rfl (.nil (.loop (j + 1) ?_ ?_ (SubR.cons rfl (SubR.cons rfl (SubR.cons rfl (SubR.cons rfl (SubR.cons rfl (SubR.cons rfl (SubR.cons rfl (SubR.cons' rfl (by (try dsimp only); exact (int_eq (by rw [hfs, wrap_i64 (by omega) (by omega)]; omega))) (SubR.cons' rfl (by (try dsimp only); exact (int_eq (by rw [wrap_i64 (by omega) (by omega)]; omega))) (SubR.nil _)))))))))) sl))))))))))
                    · omega
                    · omega
              ·
                have hfs := filter_no (p := (fun c => keyIn c.key (cutTOp x).key (cutTOp x).to)) hy c82
                refine TT.skip (.blk (.seq (.region (.pures hT 3 rfl (.nil (.loop (j + 1) ?_ ?_ (SubR.cons rfl (SubR.cons rfl (SubR.cons rfl (SubR.cons rfl (SubR.cons rfl (SubR.cons rfl (SubR.cons rfl (SubR.cons' rfl (by (try dsimp only); exact (int_eq (by rw [hfs]))) (SubR.cons' rfl (by (try dsimp only); exact (int_eq (by rw [wrap_i64 (by omega) (by omega)]; omega))) (SubR.nil _)))))))))) sl))))))
                · omega
                · omega
            ·
              have c70 := of_decide_eq_false c70
              obtain rfl : j = g.2.length := by omega
              rw [List.take_of_length_le (Nat.le_refl _)]
              refine TT.exit (.seq (.loop (.here (.seq (.seq (.region (.pures hT 5 rfl (.split 106 rfl (fun g106 => ?_) (fun g106 => ?_)))))))))
              ·
                exact absurd g106 (by simp)
              ·
                refine OT.pures hT 3 rfl (.nil (.seq (.cond_false rfl (.skip (.blk (.seq (.seq (.region (.pures hT 1 rfl (.mkiface Tryz.underlying23 rfl rfl rfl rfl (.pures hT 1 rfl (.call Tryz.call37 rfl rfl rfl rfl (Fun.pull pl (law14_same hSS (Row.mono (hoK).row (fun b o hb => Has.sel sl hb)) (hO))) ?_))))))))))))
                rintro v_208 hs_208 ⟨HS9, rfl, rfl, hS9⟩
                refine OT.pures hT 1 rfl (.nil (.seq (.cond_false rfl (.skip (.blk (.seq (.region (.pures hT 3 rfl (.nil (.loop (i + 1, _, K, HS9, g) ?_ ?_ (SubR.cons rfl (SubR.cons rfl (SubR.cons rfl (SubR.cons' rfl (by (try dsimp only); exact (int_eq (by rw [wrap_i64 (by omega) (by omega)]; omega))) (SubR.nil _))))) sl))))))))))
                · dsimp only
                  exact ⟨by omega, hS9, hO, hoK⟩
                · dsimp only
                  omega
    ·
      have c36 := of_decide_eq_false c36
      refine TT.exit (.seq (.loop (.here (.seq (.seq (.region (.pures hT 1 rfl (.nil (.seq (.ret (.of (rs := [.tmp 2]) [_] hs rfl (.tmp rfl .nil) sl ?_)))))))))))
      try dsimp only [one]
      exact ⟨rfl, rfl⟩
  ·
    refine OT.pures hT 3 rfl (.nil (.seq (.cond_false rfl (.exit (.seq (.loop (.here (.seq (.seq (.region (.pures hT 1 rfl (.nil (.seq (.ret (.of (rs := [.tmp 2]) [_] hs rfl (.tmp rfl .nil) sl ?_)))))))))))))))
    try dsimp only [one]
    exact ⟨rfl, rfl⟩

end Go.Proofs.YtmkandddjcncfaaGreat.Sx
end
