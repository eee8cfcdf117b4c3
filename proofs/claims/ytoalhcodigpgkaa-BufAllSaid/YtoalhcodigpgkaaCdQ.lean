/- The first page; no pool; whose bytes are whose. Printed by a program of ours off the loaded program and our notes; Lean checks it. -/
import Derived.Test.YtoalhcodigpgkaaPgA
import Derived.Test.YtoalhcodigpgkaaSxT
import Derived.Test.YtoalhcodigpgkaaCdP
import Derived.Test.YtoalhcodigpgkaaSxL
namespace Go.Proofs.Ytoalhcodigpgkaa.Sx
open Go Go.Sx Go.Pl
variable [Outer]

set_option maxHeartbeats 8000000 in
set_option maxRecDepth 100000 in
theorem law18_begun {hs : List Chunk} : Fun Try.prog 8 [] hs (fun v' hs' => v' = .bool true ∧ hs = hs') := by
  refine Fun.enter 115 Try.func8 rfl Try.ntmps8 rfl ?_
  obtain ⟨l0, d1, l1, l2, d2, hm, ha, hput, hpage, hread, hflush, hread2, hforced, he0, ht1, ht2, hput96⟩ := begun_facts
  refine TT.seq (.region (.pures hT 1 rfl (.nil (.seq (.seq (.region (.call Try.call9 rfl rfl rfl rfl (dev_New (n := 1410)) ?_)))))))
  rintro v_16 hs_16 ⟨HD, rfl, hd⟩
  obtain ⟨bd, hpd⟩ := hd.ptr
  subst hpd
  refine OT.pures hT 1 rfl (.nil (.seq (.seq (.region (.pures hT 1 rfl (.call Try.call10 rfl rfl rfl rfl (wal_Make hd) ?_))))))
  rintro v_19 hs_19 ⟨q, HL, HD1, rfl, rfl, hopt, hd1⟩
  rw [hm] at hopt hd1 ⊢
  have hl : IsLog 5 2 98 72 q (.pointer (some ⟨bd, 0, none⟩)) l0 HL := hopt
  obtain ⟨bl, hql⟩ := hl.ptr
  subst hql
  refine OT.pures hT 5 rfl (.nil (.seq (.seq (.region (.pures hT 2 rfl (.call Try.call11 rfl rfl rfl rfl (buf_New) ?_))))))
  rintro v_24 hs_24 ⟨HP, rfl, hp⟩
  obtain ⟨bp, _, _, _, hpp, _⟩ := hp.is
  subst hpp
  refine OT.pures hT 1 rfl (.nil (.seq (.seq (.seq (.region (.pures hT 3 rfl (.pures hT 3 rfl (.nil (.seq (.cond_false rfl (.skip (.seq (.seq (.region (.pures hT 1 rfl (.buildSlice_raw (enc := Go.Sx.encB) (xs := ([120] : List UInt8)) (xos := [.const (.int .u8 (120))]) el31 rfl rfl rfl rfl rfl (by simp [Value.cells]) (fun _ _ => rfl) rfl (by decide) rfl (fun b_33 => ?_)))))))))))))))))
  refine OT.conv_same hT rfl rfl rfl rfl pl rfl ?_
  have ho34 : Own Go.Sx.encB 1 5 (.slice (some ⟨b_33, 0, none⟩) 1 1) [120] [(b_33, blk (([120] : List UInt8).flatMap Go.Sx.encB) 5 ((([120] : List UInt8).flatMap Go.Sx.encB).length, (([120] : List UInt8).flatMap Go.Sx.encB).length + 1))] := Own.marked (e := 5) (fun _ _ => rfl) rfl
  refine OT.call Try.call15 rfl rfl rfl rfl (Fun.pull (A := HL) pl (wal_Append hl ho34.row (by decide) (by rw [he0]; decide))) ?_
  rintro v_35 hs_35 ⟨HL1, rfl, rfl, hl1⟩
  rw [ha] at hl1 ⊢
  refine OT.pures hT 5 rfl (.nil (.seq (.seq (.region (.pures hT 1 rfl (.buildSlice_raw (enc := Go.Sx.encB) (xs := ([97] : List UInt8)) (xos := [.const (.int .u8 (97))]) el31 rfl rfl rfl rfl rfl (by simp [Value.cells]) (fun _ _ => rfl) rfl (by decide) rfl (fun b_39 => ?_)))))))
  refine OT.conv_same hT rfl rfl rfl rfl pl rfl ?_
  have ho40 : Own Go.Sx.encB 1 5 (.slice (some ⟨b_39, 0, none⟩) 1 1) [97] [(b_39, blk (([97] : List UInt8).flatMap Go.Sx.encB) 5 ((([97] : List UInt8).flatMap Go.Sx.encB).length, (([97] : List UInt8).flatMap Go.Sx.encB).length + 1))] := Own.marked (e := 5) (fun _ _ => rfl) rfl
  refine OT.call Try.call12 rfl rfl rfl rfl (law9_Of ho40.row (by decide)) ?_
  rintro v_41 hs_41 ⟨HB, rfl, hoB⟩
  refine OT.pures hT 1 rfl (.call Try.call13 rfl rfl rfl rfl (Fun.weaken (hs' := HP :: HL1 :: HD1 :: HB :: hs) sl (buf_Put hp hl1 hd1 (by simp only [List.length_nil]; omega) (by simp) hoB.row (by rw [pageOf_length (by decide)]; decide))) ?_)
  rintro v_43 hs_43 ⟨HP1, HL2, HD2, rfl, rfl, hp1, hl2, hd2⟩
  rw [hput] at hp1 hl2 hd2 ⊢
  refine OT.pures hT 1 rfl (.nil (.seq (.seq (.region (.pures hT 1 rfl (.call Try.call14 rfl rfl rfl rfl (buf_Page hp1 hl2 hd2 (by simp only [List.length_cons, List.length_nil]; omega) (by simp)) ?_))))))
  rintro v_46 hs_46 ⟨w8, HW, HP2, HL3, HD3, rfl, rfl, hoW, hp2, hl3, hd3⟩
  rw [hpage] at hoW hp2 hl3 hd3 ⊢
  dsimp only at hoW hp2 hl3 hd3 ⊢
  obtain ⟨a8, c8, hv8⟩ := (hoW.row (hs := hs)).len
  subst hv8
  refine OT.pures hT 5 rfl (.nil (.seq (.seq (.region (.pures hT 1 rfl (.call Try.call24 rfl rfl rfl rfl (Fun.pull (A := HD3) pl (page_Read hd3)) ?_))))))
  rintro v_51 hs_51 ⟨w10, HC, rfl, rfl, hoC⟩
  rw [hread] at hoC ⊢
  dsimp only at hoC ⊢
  obtain ⟨a10, c10, hv10⟩ := (hoC.row (hs := hs)).len
  subst hv10
  refine OT.pures hT 5 rfl (.nil (.seq (.seq (.region (.pures hT 1 rfl (.call Try.call18 rfl rfl rfl rfl (Fun.pull (A := HP2) pl (buf_Dirty hp2)) ?_))))))
  rintro v_55 hs_55 ⟨HI, rfl, hoI⟩
  rw [dirty_one] at hoI
  obtain ⟨a12, c12, hv12⟩ := (hoI.row (hs := hs)).len
  subst hv12
  refine OT.pures hT 2 rfl (.nil (.seq (.seq (.region (.pures hT 1 rfl (.call Try.call16 rfl rfl rfl rfl (Fun.weaken (hs' := HP2 :: HL3 :: HD3 :: HW :: HC :: HI :: hs) sl (buf_Flush hp2 hl3 hd3 (by simp only [List.length_cons, List.length_nil]; omega) (by simp))) ?_))))))
  rintro v_58 hs_58 ⟨HP3, HL4, HD4, rfl, rfl, hp3, hl4, hd4⟩
  rw [hflush] at hp3 hl4 hd4 ⊢
  dsimp only at hp3 hl4 hd4 ⊢
  refine OT.pures hT 1 rfl (.nil (.seq (.seq (.region (.pures hT 1 rfl (.call Try.call21 rfl rfl rfl rfl (Fun.pull (A := HD4) pl (dev_Crash hd4 (ks := []) Row.nil)) ?_))))))
  rintro v_61 hs_61 ⟨HX, rfl, hdx⟩
  obtain ⟨bx, hpx⟩ := hdx.ptr
  subst hpx
  refine OT.call Try.call24 rfl rfl rfl rfl (page_Read hdx) ?_
  rintro v_62 hs_62 ⟨w14, HH, rfl, rfl, hoH⟩
  rw [hread2] at hoH ⊢
  dsimp only at hoH ⊢
  obtain ⟨a14, c14, hv14⟩ := (hoH.row (hs := hs)).len
  subst hv14
  refine OT.pures hT 5 rfl (.nil (.seq (.seq (.region (.pures hT 3 rfl (.split 67 rfl (fun g67 => ?_) (fun g67 => ?_)))))))
  ·
    refine OT.pures hT 4 rfl (.split 71 rfl (fun g71 => ?_) (fun g71 => ?_))
    ·
      refine OT.pures hT 1 rfl (.index hT rfl rfl rfl rfl ro (by omega) (show (pageOf [97])[0]? = some 97 from rfl) rfl (fun ad_73 hel_73 => ?_))
      refine OT.load rfl rfl (hel_73.ld_one hT rfl rfl) rfl (.pures hT 3 rfl (.split 77 rfl (fun g77 => ?_) (fun g77 => ?_)))
      ·
        refine OT.pures hT 1 rfl (.index hT rfl rfl rfl rfl ro (by omega) (show (noughts 256)[0]? = some 0 from rfl) rfl (fun ad_79 hel_79 => ?_))
        refine OT.load rfl rfl (hel_79.ld_one hT rfl rfl) rfl (.pures hT 3 rfl (.split 83 rfl (fun g83 => ?_) (fun g83 => ?_)))
        ·
          refine OT.pures hT 4 rfl (.split 87 rfl (fun g87 => ?_) (fun g87 => ?_))
          ·
            refine OT.pures hT 4 rfl (.split 91 rfl (fun g91 => ?_) (fun g91 => ?_))
            ·
              refine OT.pures hT 1 rfl (.index hT rfl rfl rfl rfl ro (by omega) (show (pageOf [97])[0]? = some 97 from rfl) rfl (fun ad_93 hel_93 => ?_))
              refine OT.load rfl rfl (hel_93.ld_one hT rfl rfl) rfl (.pures hT 3 rfl (.split 97 rfl (fun g97 => ?_) (fun g97 => ?_)))
              ·
                refine OT.pures hT 1 rfl (.call Try.call18 rfl rfl rfl rfl (Fun.pull (A := HP3) pl (buf_Dirty hp3)) ?_)
                rintro v_99 hs_99 ⟨HJ, rfl, hoJ⟩
                rw [dirty_none] at hoJ
                obtain ⟨a99, c99, hv99⟩ := (hoJ.row (hs := hs)).len
                subst hv99
                refine OT.pures hT 4 rfl (.split 103 rfl (fun g103 => ?_) (fun g103 => ?_))
                ·
                  refine OT.pures hT 1 rfl (.call Try.call25 rfl rfl rfl rfl (Fun.pull (A := HL4) pl (wal_Forced hl4)) ?_)
                  rintro v_105 hs_105 ⟨rfl, rfl⟩
                  rw [hforced]
                  refine OT.pures hT 4 rfl (.split 109 rfl (fun g109 => ?_) (fun g109 => ?_))
                  ·
                    refine OT.pures hT 2 rfl (.call Try.call13 rfl rfl rfl rfl (Fun.weaken (hs' := HP3 :: HL4 :: HD4 :: HH :: hs) sl (buf_Put hp3 hl4 hd4 (by simp only [List.length_cons, List.length_nil]; omega) (by simp) hoH.row (by rw [pageOf_length (by decide)]; decide))) ?_)
                    rintro v_112 hs_112 ⟨HP5, HL5, HD5, rfl, rfl, hp5, hl5, hd5⟩
                    rw [hput96] at hp5 hl5 hd5 ⊢
                    dsimp only at hp5 hl5 hd5 ⊢
                    refine OT.pures hT 3 rfl (.nil (.seq (.ret (.of (rs := [.tmp 0]) [_] hs rfl (.tmp rfl .nil) sl ?_))))
                    dsimp only [one]
                    exact ⟨rfl, rfl⟩
                  ·
                    exact absurd g109 (by decide)
                ·
                  exact absurd g103 (by decide)
              ·
                exact absurd g97 (by decide)
            ·
              exact absurd g91 (by decide)
          ·
            exact absurd g87 (by decide)
        ·
          exact absurd g83 (by decide)
      ·
        exact absurd g77 (by decide)
    ·
      exact absurd g71 (by decide)
  ·
    exact absurd g67 (by decide)

set_option maxHeartbeats 2000000 in
set_option maxRecDepth 100000 in
theorem law_BufNone {hs : List Chunk} : Fun Try.prog 5 [] hs (fun v' hs' => v' = .bool true ∧ hs = hs') := by
  refine Fun.enter 41 Try.func5 rfl Try.ntmps5 rfl ?_
  refine TT.seq (.region (.pures hT 1 rfl (.nil (.seq (.seq (.region (.pures hT 1 rfl (.nil (.seq (.seq (.region (.pures hT 1 rfl (.call Try.call14 rfl rfl rfl rfl (buf_Page0) ?_)))))))))))))
  rintro v_6 hs_6 ⟨rfl, rfl⟩
  refine OT.pures hT 5 rfl (.nil (.seq (.seq (.region (.call Try.call8 rfl rfl rfl rfl (law18_begun) ?_)))))
  rintro v_9 hs_9 ⟨rfl, rfl⟩
  refine OT.pures hT 1 rfl (.split 10 rfl (fun g10 => ?_) (fun g10 => ?_))
  ·
    refine OT.pures hT 4 rfl (.split 14 rfl (fun g14 => ?_) (fun g14 => ?_))
    ·
      refine OT.pures hT 1 rfl ?_
      refine OT.make (enc := Go.Sx.encB) (z0 := (0 : UInt8)) (n := 256) el31 Try.zeroValue5 rfl rfl rfl rfl rfl (by decide) rfl (fun v_16 H_16 ho_16 => ?_)
      refine OT.call Try.call13 rfl rfl rfl rfl (buf_Put0) ?_
      rintro v_17 hs_17 ⟨rfl, rfl⟩
      refine OT.pures hT 3 rfl (.split 20 rfl (fun g20 => ?_) (fun g20 => ?_))
      ·
        refine OT.pures hT 1 rfl (.call Try.call16 rfl rfl rfl rfl (buf_Flush0) ?_)
        rintro v_22 hs_22 ⟨rfl, rfl⟩
        refine OT.pures hT 3 rfl (.split 25 rfl (fun g25 => ?_) (fun g25 => ?_))
        ·
          refine OT.pures hT 1 rfl (.call Try.call17 rfl rfl rfl rfl (buf_All0) ?_)
          rintro v_27 hs_27 ⟨rfl, rfl⟩
          refine OT.pures hT 3 rfl (.split 30 rfl (fun g30 => ?_) (fun g30 => ?_))
          ·
            refine OT.pures hT 1 rfl (.call Try.call18 rfl rfl rfl rfl (buf_Dirty0) ?_)
            rintro v_32 hs_32 ⟨rfl, rfl⟩
            refine OT.pures hT 4 rfl (.split 36 rfl (fun g36 => ?_) (fun g36 => ?_))
            ·
              refine OT.pures hT 1 rfl (.call Try.call20 rfl rfl rfl rfl (buf_Held0) ?_)
              rintro v_38 hs_38 ⟨rfl, rfl⟩
              refine OT.pures hT 3 rfl (.nil (.seq (.ret (.of (rs := [.tmp 0]) [_] hs rfl (.tmp rfl .nil) sl ?_))))
              dsimp only [one]
              exact ⟨rfl, rfl⟩
            ·
              exact absurd g36 (by decide)
          ·
            exact absurd g30 (by decide)
        ·
          exact absurd g25 (by decide)
      ·
        exact absurd g20 (by decide)
    ·
      exact absurd g14 (by decide)
  ·
    exact absurd g10 (by decide)

set_option maxHeartbeats 4000000 in
set_option maxRecDepth 100000 in
theorem law_BufOwn {x : UInt8} {hs : List Chunk} : Fun Try.prog 3 [.int .u8 x.toNat] hs (fun v' hs' => v' = .bool true ∧ hs = hs') := by
  refine Fun.enter 66 Try.func3 rfl Try.ntmps3 rfl ?_
  obtain ⟨l0, d1, hm, ht1, hput, hpage, hput255⟩ := own_facts x
  refine TT.seq (.region (.pures hT 1 rfl (.nil (.seq (.seq (.region (.call Try.call8 rfl rfl rfl rfl (law18_begun) ?_)))))))
  rintro v_13 hs_13 ⟨rfl, rfl⟩
  refine OT.pures hT 1 rfl (.nil (.seq (.seq (.seq (.region (.pures hT 2 rfl (.nil (.seq (.cond_false rfl (.skip (.seq (.seq (.region (.call Try.call9 rfl rfl rfl rfl (dev_New (n := 1410)) ?_))))))))))))))
  rintro v_16 hs_16 ⟨HD, rfl, hd⟩
  obtain ⟨bd, hpd⟩ := hd.ptr
  subst hpd
  refine OT.pures hT 1 rfl (.nil (.seq (.seq (.region (.pures hT 1 rfl (.call Try.call10 rfl rfl rfl rfl (wal_Make hd) ?_))))))
  rintro v_19 hs_19 ⟨q, HL, HD1, rfl, rfl, hopt, hd1⟩
  rw [hm] at hopt hd1 ⊢
  have hl : IsLog 5 2 98 72 q (.pointer (some ⟨bd, 0, none⟩)) l0 HL := hopt
  obtain ⟨bl, hql⟩ := hl.ptr
  subst hql
  refine OT.pures hT 5 rfl (.nil (.seq (.seq (.region (.pures hT 2 rfl (.call Try.call11 rfl rfl rfl rfl (buf_New) ?_))))))
  rintro v_24 hs_24 ⟨HP, rfl, hp⟩
  obtain ⟨bp, _, _, _, hpp, _⟩ := hp.is
  subst hpp
  refine OT.pures hT 1 rfl (.nil (.seq (.seq (.region (.pures hT 1 rfl ?_)))))
  refine OT.buildSlice (enc := Go.Sx.encB) (xs := [x]) (xos := [.tmp 25]) el31 rfl rfl rfl rfl rfl (by simp [Value.cells]) (fun _ _ => rfl) rfl (by decide) rfl (fun v_26 H_26 ho_26 => ?_)
  refine OT.call Try.call12 rfl rfl rfl rfl (law9_Of ho_26.row (by simp)) ?_
  rintro v_27 hs_27 ⟨HB, rfl, hoB⟩
  obtain ⟨eb, eo, ec, _, _, hvb, _⟩ := hoB.over (by rw [pageOf_length (by simp)]; decide)
  subst hvb
  have hbl : (pageOf [x]).length = 256 := pageOf_length (by simp)
  have hb0 : (pageOf [x])[0]? = some x := rfl
  refine OT.pures hT 1 rfl (.nil (.seq (.seq (.region (.pures hT 2 rfl (.call Try.call13 rfl rfl rfl rfl (Fun.weaken (hs' := HP :: HL :: HD1 :: HB :: hs) sl (buf_Put hp hl hd1 (by simp only [List.length_nil]; omega) (by simp) hoB.row (by omega))) ?_))))))
  rintro v_30 hs_30 ⟨HP1, HL2, HD2, rfl, rfl, hp1, hl2, hd2⟩
  rw [hput] at hp1 hl2 hd2 ⊢
  dsimp only at hp1 hl2 hd2 ⊢
  refine OT.nil (.seq (.seq (.region (.pures hT 1 rfl (.index_raw hT rfl rfl rfl rfl (by decide) (by omega) rfl (.load rfl rfl ((hoB.el_at (hs := hs) hb0).there.there.there.ld_one hT rfl rfl) rfl (.pures hT 1 rfl (.index_raw hT rfl rfl rfl rfl (by decide) (by omega) rfl (.reg 34 rfl (v := .int .u8 ((UInt8.ofNat (x.toNat + 1)).toNat : Int)) (int_eq (byte_of (x.toNat + 1))) (.store_el 0 0 hT rfl rfl rfl rfl pl hoB hb0 (by rfl) rfl (by decide) rfl (z' := UInt8.ofNat (x.toNat + 1)) (by rfl) (fun H_y ho_y => ?_)))))))))))
  refine OT.nil (.seq (.seq (.region (.pures hT 1 rfl (.call Try.call14 rfl rfl rfl rfl (Fun.weaken (hs' := HP1 :: HL2 :: HD2 :: hs) sl (buf_Page hp1 hl2 hd2 (by simp only [List.length_cons, List.length_nil]; omega) (by simp))) ?_)))))
  rintro v_38 hs_38 ⟨w9, HW, HP2, HL3, HD3, rfl, rfl, hoW, hp2, hl3, hd3⟩
  rw [hpage] at hoW hp2 hl3 hd3 ⊢
  dsimp only at hoW hp2 hl3 hd3 ⊢
  obtain ⟨fb, fo, fc, _, _, hvw, _⟩ := hoW.over (by omega)
  subst hvw
  refine OT.pures hT 5 rfl (.nil (.seq (.seq (.region (.pures hT 1 rfl (.index_raw hT rfl rfl rfl rfl (by decide) (by omega) rfl (.load rfl rfl ((hoW.el_at (hs := HP2 :: HL3 :: HD3 :: hs) hb0).ld_one hT rfl rfl) rfl (.pures hT 1 rfl (.index_raw hT rfl rfl rfl rfl (by decide) (by omega) rfl (.reg 44 rfl (v := .int .u8 ((UInt8.ofNat (x.toNat + 2)).toNat : Int)) (int_eq (byte_of (x.toNat + 2))) (.store_el 0 0 hT rfl rfl rfl rfl pl hoW hb0 (by rfl) rfl (by decide) rfl (z' := UInt8.ofNat (x.toNat + 2)) (by rfl) (fun H_z ho_z => ?_))))))))))))
  refine OT.nil (.seq (.seq (.region (.pures hT 1 rfl (.call Try.call14 rfl rfl rfl rfl (Fun.weaken (hs' := HP2 :: HL3 :: HD3 :: hs) sl (buf_Page hp2 hl3 hd3 (by simp only [List.length_cons, List.length_nil]; omega) (by simp))) ?_)))))
  rintro v_48 hs_48 ⟨w11, HV, HP3, HL4, HD4, rfl, rfl, hoV, hp3, hl4, hd4⟩
  rw [hpage] at hoV hp3 hl4 hd4 ⊢
  dsimp only at hoV hp3 hl4 hd4 ⊢
  obtain ⟨a11, c11, hv11⟩ := (hoV.row (hs := hs)).len
  subst hv11
  refine OT.pures hT 5 rfl (.nil (.seq (.seq (.region (.pures hT 3 rfl (.split 53 rfl (fun g53 => ?_) (fun g53 => ?_)))))))
  ·
    refine OT.pures hT 1 rfl (.index hT rfl rfl rfl rfl ro (by omega) hb0 rfl (fun ad_55 hel_55 => ?_))
    refine OT.load rfl rfl (hel_55.ld_one hT rfl rfl) rfl (.pures hT 4 rfl (.split 60 rfl (fun g60 => ?_) (fun g60 => ?_)))
    ·
      refine OT.pures hT 1 rfl ?_
      refine OT.make (enc := Go.Sx.encB) (z0 := (0 : UInt8)) (n := 255) el31 Try.zeroValue5 rfl rfl rfl rfl rfl (by decide) rfl (fun v_62 H_62 ho_62 => ?_)
      refine OT.call Try.call13 rfl rfl rfl rfl (Fun.weaken (hs' := HP3 :: HL4 :: HD4 :: H_62 :: hs) sl (buf_Put hp3 hl4 hd4 (by simp only [List.length_cons, List.length_nil]; omega) (by simp) ho_62.row (by simp))) ?_
      rintro v_63 hs_63 ⟨HP5, HL5, HD5, rfl, rfl, hp5, hl5, hd5⟩
      rw [hput255 _ (by simp)] at hp5 hl5 hd5 ⊢
      dsimp only at hp5 hl5 hd5 ⊢
      refine OT.pures hT 3 rfl (.nil (.seq (.ret (.of (rs := [.tmp 2]) [_] hs rfl (.tmp rfl .nil) sl ?_))))
      dsimp only [one]
      exact ⟨rfl, rfl⟩
    ·
      exact absurd g60 (by simp)
  ·
    exact absurd g53 (by simp)

end Go.Proofs.Ytoalhcodigpgkaa.Sx
