/- Several texts in one. Catalogs read back: what the program's Decode computes; the document's CatBytes. Printed by a program of ours off the loaded program and our notes; Lean checks it. What the laws of cow are made of: what a snapshot shows, changes of data pages, a change laid, a snapshot more. Printed by a program of ours off the loaded program and our notes; Lean checks it. Images by some bytes; the document's say on them; a page by some bytes. Printed by a program of ours off the loaded program and our notes; Lean checks it. What cow reads; what a snapshot needs. Printed by a program of ours off the loaded program and our notes; Lean checks it. What the laws of cow are made of: a snapshot's pages, changes of data pages, a change laid, a snapshot more. Printed by a program of ours off the loaded program and our notes; Lean checks it. What the document's MayCat and CatBytes compute. Printed by a program of ours off the loaded program and our notes; Lean checks it. What the document's CatBytes computes. Printed by a program of ours off the loaded program and our notes; Lean checks it. What a snapshot needs; its copies. Printed by a program of ours off the loaded program and our notes; Lean checks it. -/
import Derived.Test.YtnhkgchcdbideaaLC
import Derived.Test.YtnhkgchcdbideaaLE
import Derived.Test.YtnhkgchcdbideaaLD
import Derived.Test.YtnhkgchcdbideaaLB

section
namespace Go.Proofs.Ytnhkgchcdbideaa.Sx
open Go Go.Sx Go.Pl
variable [Outer]

set_option maxHeartbeats 1000000 in
set_option maxRecDepth 100000 in
theorem by_Equal {v w : Value} {xs ys : List UInt8} {hs : List Chunk} (hr : Row Go.Sx.encB 1 hs v xs) (hq : Row Go.Sx.encB 1 hs w ys) : Fun Try.prog 53 [v, w] hs (fun v' hs' => v' = .bool (decide (xs = ys)) ∧ hs = hs') := by
  refine Fun.enter 10 Try.func53 rfl Try.ntmps53 rfl ?_
  refine TT.seq ?_
  refine TT.region ?_
  refine OT.pures hT 1 rfl ?_
  refine OT.nil ?_
  refine KT.seq ?_
  refine TT.seq ?_
  refine TT.region ?_
  refine OT.pures hT 1 rfl ?_
  refine OT.conv_bs (fun _ => rfl) hT rfl rfl rfl rfl rfl hr rfl ?_
  refine OT.pures hT 1 rfl ?_
  refine OT.conv_bs (fun _ => rfl) hT rfl rfl rfl rfl rfl hq rfl ?_
  refine OT.pures hT 2 rfl ?_
  refine OT.nil ?_
  refine KT.seq ?_
  refine TT.ret ?_
  refine RT.of (rs := [.tmp 4]) [_] hs rfl (.tmp rfl .nil) (by repeat (first | exact Sel.refl _ | refine Sel.empty ?_ | refine Sel.pull (by repeat (first | exact Pull.head | apply Pull.tail)) ?_ | refine Sel.drop ?_)) ?_
  dsimp only [one]
  refine ⟨congrArg Value.bool (decide_eq_decide.2 ?_), rfl⟩
  constructor
  · intro h; injection h with h; injection h
  · intro h; rw [h]

set_option maxHeartbeats 4000000 in
set_option maxRecDepth 100000 in
theorem cat_one {v : Value} {xs : List UInt8} {hs : List Chunk} (hr : Row Go.Sx.encB 1 hs v xs) (hl : xs.length ≤ 1073741824) : Fun Try.prog 52 [v] hs (fun v' hs' => v' = .tuple ⟨[.agg ⟨encSnap (oneS xs).1⟩, .int .i64 (oneS xs).2]⟩ ∧ hs = hs') := by
  refine Fun.enter 68 Try.func52 rfl Try.ntmps52 rfl ?_
  obtain ⟨a0, c0, hv⟩ := hr.len
  subst hv
  have hk := @getText_k xs
  obtain ⟨res, hres⟩ : ∃ r, oneS xs = r := ⟨_, rfl⟩
  rw [hres]
  unfold oneS at hres
  generalize hg : getText xs = p at *
  obtain ⟨name, at_, e⟩ := p
  dsimp only at *
  refine TT.seq ?_
  refine TT.region ?_
  refine OT.alloc Try.zeroValue45 rfl rfl (fun b_2 => ?_)
  refine OT.pures hT 1 rfl ?_
  refine OT.nil ?_
  refine KT.seq ?_
  refine TT.seq ?_
  refine TT.region ?_
  refine OT.alloc Try.zeroValue45 rfl rfl (fun b_4 => ?_)
  refine OT.nil ?_
  refine KT.seq ?_
  refine TT.seq ?_
  refine TT.region ?_
  refine OT.pures hT 1 rfl ?_
  refine OT.call Try.call72 rfl rfl rfl rfl (num_GetText hr.there.there hl) ?_
  rintro v_13 hs_13 ⟨rfl, rfl⟩
  rw [hg]
  dsimp only
  refine OT.pures hT 7 rfl ?_
  refine OT.nil ?_
  refine KT.seq ?_
  refine TT.seq ?_
  refine TT.seq ?_
  refine TT.region ?_
  refine OT.pures hT 2 rfl ?_
  refine OT.nil ?_
  refine KT.seq ?_
  refine TT.cond rfl (fun c18 => ?_) (fun c18 => ?_)
  ·
    have c18 : ¬ e = 0 := by simpa using c18
    rw [if_pos c18] at hres
    refine TT.seq ?_
    refine TT.region ?_
    refine OT.load rfl rfl (Ld.struct_all hT rfl (by repeat (first | exact Has.one | apply Has.there)) rfl) rfl ?_
    refine OT.store_all hT rfl rfl rfl rfl (by repeat (first | exact Pull.head | apply Pull.tail)) rfl rfl rfl (.inl (Nat.le_refl _)) ?_
    refine OT.pures hT 1 rfl ?_
    refine OT.nil ?_
    refine KT.seq ?_
    refine TT.ret ?_
    refine RT.of (rs := [.cell 2 45, .tmp 3]) [_, _] hs rfl (.cell rfl (Ld.struct_all hT rfl (by repeat (first | exact Has.one | apply Has.there)) rfl) (.tmp rfl .nil)) (by repeat (first | exact Sel.refl _ | refine Sel.empty ?_ | refine Sel.pull (by repeat (first | exact Pull.head | apply Pull.tail)) ?_ | refine Sel.drop ?_)) ?_
    dsimp only [one]
    exact ⟨by rw [← hres]; rfl, rfl⟩
  ·
    have c18 : e = 0 := by simpa using c18
    rw [if_neg (by omega)] at hres
    have hk := hk c18
    have hk2 := @get_k (xs.drop at_.toNat)
    have hdl : (xs.drop at_.toNat).length = xs.length - at_.toNat := List.length_drop
    generalize hg2 : get (xs.drop at_.toNat) = q at *
    obtain ⟨id, n, e2⟩ := q
    dsimp only at *
    refine TT.skip ?_
    refine KT.seq ?_
    refine TT.seq ?_
    refine TT.region ?_
    refine OT.pures hT 2 rfl ?_
    refine OT.slice at_.toNat xs.length hT rfl rfl rfl rfl rfl hr.there.there (.inr ⟨.i64, by rw [Int.toNat_of_nonneg (by omega)]⟩) (.inl ⟨rfl, rfl⟩) (by omega) (by omega) rfl (fun v_23 hv_23 => ?_)
    refine OT.call Try.call51 rfl rfl rfl rfl (num_Get hv_23 (by rw [List.take_length, hdl]; omega)) ?_
    rintro v_24 hs_24 ⟨rfl, rfl⟩
    rw [List.take_length, hg2]
    dsimp only
    refine OT.pures hT 7 rfl ?_
    refine OT.nil ?_
    refine KT.seq ?_
    refine TT.seq ?_
    refine TT.region ?_
    refine OT.pures hT 4 rfl ?_
    refine OT.nil ?_
    refine KT.seq ?_
    refine TT.seq ?_
    refine TT.seq ?_
    refine TT.region ?_
    refine OT.pures hT 3 rfl ?_
    refine OT.split 33 rfl (fun g33 => ?_) (fun g33 => ?_)
    ·
      have g33 : ¬ e2 = 0 := by simpa using g33
      rw [if_pos (.inl g33)] at hres
      refine OT.pures hT 6 rfl ?_
      refine OT.nil ?_
      refine KT.seq ?_
      refine TT.cond_true rfl ?_
      refine TT.seq ?_
      refine TT.region ?_
      refine OT.load rfl rfl (Ld.struct_all hT rfl (by repeat (first | exact Has.one | apply Has.there)) rfl) rfl ?_
      refine OT.store_all hT rfl rfl rfl rfl (by repeat (first | exact Pull.head | apply Pull.tail)) rfl rfl rfl (.inl (Nat.le_refl _)) ?_
      refine OT.pures hT 1 rfl ?_
      refine OT.nil ?_
      refine KT.seq ?_
      refine TT.ret ?_
      refine RT.of (rs := [.cell 2 45, .tmp 3]) [_, _] hs rfl (.cell rfl (Ld.struct_all hT rfl (by repeat (first | exact Has.one | apply Has.there)) rfl) (.tmp rfl .nil)) (by repeat (first | exact Sel.refl _ | refine Sel.empty ?_ | refine Sel.pull (by repeat (first | exact Pull.head | apply Pull.tail)) ?_ | refine Sel.drop ?_)) ?_
      dsimp only [one]
      exact ⟨by rw [← hres]; rfl, rfl⟩
    ·
      have g33 : e2 = 0 := by simpa using g33
      have hk2 := hk2 g33
      refine OT.pures hT 6 rfl ?_
      refine OT.nil ?_
      refine KT.seq ?_
      refine TT.cond rfl (fun c39 => ?_) (fun c39 => ?_)
      ·
        have c39 := of_decide_eq_true c39
        rw [wrap_i64 (n := at_ + n) (by omega) (by omega), wrap_i64 (by omega) (by omega)] at c39
        rw [if_pos (.inr c39)] at hres
        refine TT.seq ?_
        refine TT.region ?_
        refine OT.load rfl rfl (Ld.struct_all hT rfl (by repeat (first | exact Has.one | apply Has.there)) rfl) rfl ?_
        refine OT.store_all hT rfl rfl rfl rfl (by repeat (first | exact Pull.head | apply Pull.tail)) rfl rfl rfl (.inl (Nat.le_refl _)) ?_
        refine OT.pures hT 1 rfl ?_
        refine OT.nil ?_
        refine KT.seq ?_
        refine TT.ret ?_
        refine RT.of (rs := [.cell 2 45, .tmp 3]) [_, _] hs rfl (.cell rfl (Ld.struct_all hT rfl (by repeat (first | exact Has.one | apply Has.there)) rfl) (.tmp rfl .nil)) (by repeat (first | exact Sel.refl _ | refine Sel.empty ?_ | refine Sel.pull (by repeat (first | exact Pull.head | apply Pull.tail)) ?_ | refine Sel.drop ?_)) ?_
        dsimp only [one]
        exact ⟨by rw [← hres]; rfl, rfl⟩
      ·
        have c39 := of_decide_eq_false c39
        rw [wrap_i64 (n := at_ + n) (by omega) (by omega), wrap_i64 (by omega) (by omega)] at c39
        rw [if_neg (by omega)] at hres
        refine TT.reg 6 rfl (int_eq (wrap_i64 (n := at_ + n) (by omega) (by omega))) ?_
        obtain ⟨c, hc⟩ := nth (l := xs) (i := (at_ + n).toNat) (by omega)
        have hb : ((c.toNat : Int) == 1) = decide (xs[(at_ + n).toNat]? = some 1) := by
          rw [hc]
          refine Bool.eq_iff_iff.2 ?_
          rw [beq_iff_eq, decide_eq_true_eq, Option.some.injEq]
          constructor
          · intro h; apply UInt8.toNat_inj.1; show c.toNat = 1; omega
          · intro h; rw [h]; rfl
        have hm : (mapOf (xs.drop ((at_ + n).toNat + 1))).length = 32 := mapOf_length (by rw [List.length_drop]; omega)
        refine TT.skip ?_
        refine KT.seq ?_
        refine TT.seq ?_
        refine TT.draw (hs) mixed ?_
        refine AT.takes (fuel := 8) hT [0, 1, 2, 3, 7] (by kernel_rfl) (by kernel_rfl) rfl ?_
        refine AT.index (fuel := 7) hT 4 rfl (by kernel_rfl) (by kernel_rfl) (by kernel_rfl) rfl rfl rfl rfl hr (by omega) hc rfl (fun ad_45 hel_45 => ?_)
        refine AT.take (fuel := 6) hT 5 rfl rfl (by kernel_rfl) (by kernel_rfl) (by kernel_rfl) rfl (.load rfl (hel_45.ld_one hT rfl rfl)) rfl ?_
        refine AT.takes (fuel := 5) hT [6] (by kernel_rfl) (by kernel_rfl) rfl ?_
        refine AT.op (fuel := 4) 8 (by kernel_rfl) rfl (by repeat (first | exact Sel.refl _ | refine Sel.empty ?_ | refine Sel.pull (by repeat (first | exact Pull.head | apply Pull.tail)) ?_ | refine Sel.drop ?_)) ?_
        refine OT.store hT rfl rfl rfl rfl (by repeat (first | exact Pull.head | apply Pull.tail)) rfl (Nat.le_of_ble_eq_true rfl) rfl (.inl (Nat.le_refl _)) (cs' := encSnap ⟨name, 0, false, List.replicate 32 0⟩) rfl ?_
        refine OT.nil ?_
        refine KT.any ?_
        refine AT.takes (fuel := 3) hT [9] (by kernel_rfl) (by kernel_rfl) rfl ?_
        refine AT.op (fuel := 2) 10 (by kernel_rfl) rfl (by repeat (first | exact Sel.refl _ | refine Sel.empty ?_ | refine Sel.pull (by repeat (first | exact Pull.head | apply Pull.tail)) ?_ | refine Sel.drop ?_)) ?_
        refine OT.store hT rfl rfl rfl rfl (by repeat (first | exact Pull.head | apply Pull.tail)) rfl (Nat.le_of_ble_eq_true rfl) rfl (.inl (Nat.le_refl _)) (cs' := encSnap ⟨name, id, false, List.replicate 32 0⟩) rfl ?_
        refine OT.nil ?_
        refine KT.any ?_
        refine AT.takes (fuel := 1) hT [11] (by kernel_rfl) (by kernel_rfl) rfl ?_
        refine AT.op (fuel := 0) 12 (by kernel_rfl) rfl (by repeat (first | exact Sel.refl _ | refine Sel.empty ?_ | refine Sel.pull (by repeat (first | exact Pull.head | apply Pull.tail)) ?_ | refine Sel.drop ?_)) ?_
        refine OT.store hT rfl rfl rfl rfl (by repeat (first | exact Pull.head | apply Pull.tail)) rfl (Nat.le_of_ble_eq_true rfl) rfl (.inl (Nat.le_refl _)) (cs' := encSnap ⟨name, id, decide (xs[(at_ + n).toNat]? = some 1), mapTo (mapOf (xs.drop ((at_ + n).toNat + 1))) 1⟩) (by rw [mapTo_one, ← hb]; rfl) ?_
        refine OT.nil ?_
        refine KT.any ?_
        refine AT.done (by kernel_rfl) (by repeat (first | exact Sel.refl _ | refine Sel.empty ?_ | refine Sel.pull (by repeat (first | exact Pull.head | apply Pull.tail)) ?_ | refine Sel.drop ?_)) ?_
        refine KT.seq ?_
        refine TT.seq ?_
        refine TT.seq ?_
        refine TT.region ?_
        refine OT.pures hT 1 rfl ?_
        refine OT.nil ?_
        refine KT.seq ?_
        refine TT.block ?_
        refine TT.loop (ι := Nat) (fun j => 1 ≤ (j) ∧ (j) ≤ 32) (fun j => 32 - (j)) (fun j => [(0, .slice a0 xs.length c0), (2, .pointer (some ⟨b_2, 0, none⟩)), (4, .pointer (some ⟨b_4, 0, none⟩)), (6, .int .i64 (at_ + n)), (10, .int .i64 ((j) : Nat))]) (fun j => [(b_4, blk (encSnap ⟨name, id, decide (xs[(at_ + n).toNat]? = some 1), mapTo (mapOf (xs.drop ((at_ + n).toNat + 1))) (j)⟩) 45 (0, 0))] :: [(b_2, blk (encSnap zeroSnap) 45 (0, 0))] :: hs) (1) ?_ (SubR.cons rfl (SubR.cons rfl (SubR.cons rfl (SubR.cons rfl (SubR.cons rfl (SubR.nil _)))))) (by repeat (first | exact Sel.refl _ | refine Sel.empty ?_ | refine Sel.pull (by repeat (first | exact Pull.head | apply Pull.tail)) ?_ | refine Sel.drop ?_)) ?_
        · exact ⟨by omega, by omega⟩
        rintro no ⟨hn1, hn2⟩
        show TT _ _ _ [(0, .slice a0 xs.length c0), (2, .pointer (some ⟨b_2, 0, none⟩)), (4, .pointer (some ⟨b_4, 0, none⟩)), (6, .int .i64 (at_ + n)), (10, .int .i64 (no : Nat))] ([(b_4, blk (encSnap ⟨name, id, decide (xs[(at_ + n).toNat]? = some 1), mapTo (mapOf (xs.drop ((at_ + n).toNat + 1))) no⟩) 45 (0, 0))] :: [(b_2, blk (encSnap zeroSnap) 45 (0, 0))] :: hs)
        refine TT.seq ?_
        refine TT.seq ?_
        refine TT.region ?_
        refine OT.pures hT 2 rfl ?_
        refine OT.nil ?_
        refine KT.seq ?_
        refine TT.cond rfl (fun c52 => ?_) (fun c52 => ?_)
        ·
          have c52 := of_decide_eq_true c52
          obtain ⟨c2, hc2⟩ := nth (l := xs) (i := (at_ + n).toNat + no) (by omega)
          have hm2 := mapOf_at hc2 hn1 (by omega)
          refine TT.skip ?_
          refine KT.seq ?_
          refine TT.seq ?_
          refine TT.block ?_
          refine TT.region ?_
          refine OT.pures hT 5 rfl ?_
          refine OT.index hT rfl rfl rfl rfl hr.there.there (by rw [wrap_i64 (by omega) (by omega)]; omega) (by rw [wrap_i64 (by omega) (by omega), show (at_ + n + (no : Int)).toNat = (at_ + n).toNat + no by omega]; exact hc2) rfl (fun ad_60 hel_60 => ?_)
          refine OT.load rfl rfl (hel_60.ld_one hT rfl rfl) rfl ?_
          refine OT.pures hT 1 rfl ?_
          have hcl := c2.toNat_lt
          refine OT.reg 62 rfl (int_eq (wrap_i64 (n := (c2.toNat : Int)) (by omega) (by omega))) ?_
          refine OT.pures hT 1 rfl ?_
          refine OT.index_at hT rfl rfl rfl rfl (by omega) (by omega) rfl ?_
          refine OT.store hT rfl rfl rfl rfl (by repeat (first | exact Pull.head | apply Pull.tail)) rfl (by rw [len_snap]; dsimp only; rw [mapTo_length hm hn2]; show 0 + 3 + (no : Int).toNat * 1 + 1 ≤ 32 + 3; omega) rfl (.inl (Nat.le_refl _)) (cs' := encSnap ⟨name, id, decide (xs[(at_ + n).toNat]? = some 1), mapTo (mapOf (xs.drop ((at_ + n).toNat + 1))) (no + 1)⟩) ((snap_set (by dsimp only; rw [mapTo_length hm hn2]; omega)).trans (by dsimp only; rw [mapTo_set hm2 (by omega) hm])) ?_
          refine OT.nil ?_
          refine KT.blk ?_
          refine KT.seq ?_
          refine TT.region ?_
          refine OT.pures hT 3 rfl ?_
          refine OT.nil ?_
          refine KT.loop (no + 1) ?_ ?_ (SubR.cons rfl (SubR.cons rfl (SubR.cons rfl (SubR.cons rfl (SubR.cons' rfl (by (try dsimp only); exact (int_eq (by rw [wrap_i64 (by omega) (by omega)]; omega))) (SubR.nil _)))))) (by repeat (first | exact Sel.refl _ | refine Sel.empty ?_ | refine Sel.pull (by repeat (first | exact Pull.head | apply Pull.tail)) ?_ | refine Sel.drop ?_))
          · exact ⟨by omega, by omega⟩
          · omega
        ·
          have c52 := of_decide_eq_false c52
          obtain rfl : no = 32 := by omega
          rw [mapTo_all hm]
          refine TT.exit ?_
          refine XT.seq ?_
          refine XT.loop ?_
          refine XT.here ?_
          refine KT.seq ?_
          refine TT.seq ?_
          refine TT.region ?_
          refine OT.load rfl rfl (Ld.struct_all hT rfl Has.one (by rw [len_snap]; dsimp only; rw [hm])) rfl ?_
          refine OT.pures hT 2 rfl ?_
          refine OT.store_all hT rfl rfl rfl rfl (by repeat (first | exact Pull.head | apply Pull.tail)) (by show (encSnap _).length = 35; rw [len_snap]; dsimp only; rw [hm]) rfl (ones_snap _) (.inl (Nat.le_refl _)) ?_
          refine OT.pures hT 1 rfl ?_
          refine OT.nil ?_
          refine KT.seq ?_
          refine TT.ret ?_
          refine RT.of (rs := [.cell 2 45, .tmp 3]) [_, _] hs rfl (.cell rfl (Ld.struct_all hT rfl Has.one (by show (encSnap _).length = 35; rw [len_snap]; dsimp only; rw [hm])) (.tmp rfl .nil)) (by repeat (first | exact Sel.refl _ | refine Sel.empty ?_ | refine Sel.pull (by repeat (first | exact Pull.head | apply Pull.tail)) ?_ | refine Sel.drop ?_)) ?_
          dsimp only [one]
          refine ⟨?_, rfl⟩
          rw [← hres, wrap_i64 (by omega) (by omega)]
          rfl

set_option maxHeartbeats 4000000 in
set_option maxRecDepth 100000 in
theorem cat_Decode {v : Value} {xs : List UInt8} {hs : List Chunk} (hr : Row Go.Sx.encB 1 hs v xs) (hl : xs.length ≤ 1073741824) : Fun Try.prog 24 [v] hs (fun v' hs' => ∃ w H', v' = .tuple ⟨[.agg ⟨[.int .i64 (decodeS xs).1.1, w]⟩, .int .i64 (decodeS xs).2]⟩ ∧ hs' = H' :: hs ∧ Own encSnap 35 45 w (decodeS xs).1.2 H') := by
  refine Fun.enter 89 Try.func24 rfl Try.ntmps24 rfl ?_
  obtain ⟨a0, c0, hv⟩ := hr.len
  subst hv
  have hk := @get_k xs
  obtain ⟨res, hres⟩ : ∃ r, decodeS xs = r := ⟨_, rfl⟩
  rw [hres]
  unfold decodeS at hres
  generalize hg : get xs = p at *
  obtain ⟨next, at_, e⟩ := p
  dsimp only at *
  refine TT.seq ?_
  refine TT.region ?_
  refine OT.alloc Try.zeroValue31 rfl rfl (fun b_2 => ?_)
  refine OT.pures hT 1 rfl ?_
  refine OT.nil ?_
  refine KT.seq ?_
  refine TT.seq ?_
  refine TT.seq ?_
  refine TT.region ?_
  refine OT.pures hT 3 rfl ?_
  refine OT.nil ?_
  refine KT.seq ?_
  refine TT.cond rfl (fun c16 => ?_) (fun c16 => ?_)
  ·
    have c16 : ¬ (xs.length : Int) = 256 := by simpa using c16
    rw [if_pos (by omega)] at hres
    refine TT.seq ?_
    refine TT.region ?_
    refine OT.build (cs := [.int .i64 0, .slice none 0 0]) hT rfl Try.zeroValue31 rfl rfl rfl rfl ?_
    refine OT.store_all hT rfl rfl rfl rfl (by repeat (first | exact Pull.head | apply Pull.tail)) rfl rfl rfl (.inl (Nat.le_refl _)) ?_
    refine OT.pures hT 1 rfl ?_
    refine OT.nil ?_
    refine KT.seq ?_
    refine TT.ret ?_
    refine RT.of (rs := [.cell 2 31, .tmp 3]) [_, _] ([] :: hs) rfl (.cell rfl (Ld.struct_all hT rfl (by repeat (first | exact Has.one | apply Has.there)) rfl) (.tmp rfl .nil)) (by repeat (first | exact Sel.refl _ | refine Sel.empty ?_ | refine Sel.pull (by repeat (first | exact Pull.head | apply Pull.tail)) ?_ | refine Sel.drop ?_)) ?_
    dsimp only [one]
    rw [← hres]
    exact ⟨_, [], rfl, rfl, Own.nil⟩
  ·
    have c16 : (xs.length : Int) = 256 := by simpa using c16
    rw [if_neg (by omega)] at hres
    refine TT.skip ?_
    refine KT.seq ?_
    refine TT.seq ?_
    refine TT.region ?_
    refine OT.pures hT 1 rfl ?_
    refine OT.call Try.call51 rfl rfl rfl rfl (num_Get hr.there hl) ?_
    rintro v_20 hs_20 ⟨rfl, rfl⟩
    rw [hg]
    dsimp only
    refine OT.pures hT 7 rfl ?_
    refine OT.nil ?_
    refine KT.seq ?_
    refine TT.seq ?_
    refine TT.seq ?_
    refine TT.region ?_
    refine OT.pures hT 2 rfl ?_
    refine OT.nil ?_
    refine KT.seq ?_
    refine TT.cond rfl (fun c25 => ?_) (fun c25 => ?_)
    ·
      have c25 : ¬ e = 0 := by simpa using c25
      rw [if_pos c25] at hres
      refine TT.seq ?_
      refine TT.region ?_
      refine OT.build (cs := [.int .i64 0, .slice none 0 0]) hT rfl Try.zeroValue31 rfl rfl rfl rfl ?_
      refine OT.store_all hT rfl rfl rfl rfl (by repeat (first | exact Pull.head | apply Pull.tail)) rfl rfl rfl (.inl (Nat.le_refl _)) ?_
      refine OT.pures hT 1 rfl ?_
      refine OT.nil ?_
      refine KT.seq ?_
      refine TT.ret ?_
      refine RT.of (rs := [.cell 2 31, .tmp 3]) [_, _] ([] :: hs) rfl (.cell rfl (Ld.struct_all hT rfl (by repeat (first | exact Has.one | apply Has.there)) rfl) (.tmp rfl .nil)) (by repeat (first | exact Sel.refl _ | refine Sel.empty ?_ | refine Sel.pull (by repeat (first | exact Pull.head | apply Pull.tail)) ?_ | refine Sel.drop ?_)) ?_
      dsimp only [one]
      rw [← hres]
      exact ⟨_, [], rfl, rfl, Own.nil⟩
    ·
      have c25 : e = 0 := by simpa using c25
      rw [if_neg (by omega)] at hres
      have hk := hk c25
      have hk2 := @get_k (xs.drop at_.toNat)
      have hdl : (xs.drop at_.toNat).length = xs.length - at_.toNat := List.length_drop
      generalize hg2 : get (xs.drop at_.toNat) = q at *
      obtain ⟨k, n, e2⟩ := q
      dsimp only at *
      refine TT.skip ?_
      refine KT.seq ?_
      refine TT.seq ?_
      refine TT.region ?_
      refine OT.pures hT 2 rfl ?_
      refine OT.slice at_.toNat xs.length hT rfl rfl rfl rfl rfl hr.there (.inr ⟨.i64, by rw [Int.toNat_of_nonneg (by omega)]⟩) (.inl ⟨rfl, rfl⟩) (by omega) (by omega) rfl (fun v_30 hv_30 => ?_)
      refine OT.call Try.call51 rfl rfl rfl rfl (num_Get hv_30 (by rw [List.take_length, hdl]; omega)) ?_
      rintro v_31 hs_31 ⟨rfl, rfl⟩
      rw [List.take_length, hg2]
      dsimp only
      refine OT.pures hT 7 rfl ?_
      refine OT.nil ?_
      refine KT.seq ?_
      refine TT.seq ?_
      refine TT.seq ?_
      refine TT.region ?_
      refine OT.pures hT 3 rfl ?_
      refine OT.split 37 rfl (fun g37 => ?_) (fun g37 => ?_)
      ·
        have g37 : ¬ e2 = 0 := by simpa using g37
        rw [if_pos (.inl g37)] at hres
        refine OT.pures hT 7 rfl ?_
        refine OT.nil ?_
        refine KT.seq ?_
        refine TT.cond_true rfl ?_
        refine TT.seq ?_
        refine TT.region ?_
        refine OT.build (cs := [.int .i64 0, .slice none 0 0]) hT rfl Try.zeroValue31 rfl rfl rfl rfl ?_
        refine OT.store_all hT rfl rfl rfl rfl (by repeat (first | exact Pull.head | apply Pull.tail)) rfl rfl rfl (.inl (Nat.le_refl _)) ?_
        refine OT.pures hT 1 rfl ?_
        refine OT.nil ?_
        refine KT.seq ?_
        refine TT.ret ?_
        refine RT.of (rs := [.cell 2 31, .tmp 3]) [_, _] ([] :: hs) rfl (.cell rfl (Ld.struct_all hT rfl (by repeat (first | exact Has.one | apply Has.there)) rfl) (.tmp rfl .nil)) (by repeat (first | exact Sel.refl _ | refine Sel.empty ?_ | refine Sel.pull (by repeat (first | exact Pull.head | apply Pull.tail)) ?_ | refine Sel.drop ?_)) ?_
        dsimp only [one]
        rw [← hres]
        exact ⟨_, [], rfl, rfl, Own.nil⟩
      ·
        have g37 : e2 = 0 := by simpa using g37
        have hk2 := hk2 g37
        refine OT.pures hT 4 rfl ?_
        refine OT.split 41 rfl (fun g41 => ?_) (fun g41 => ?_)
        ·
          have g41 := of_decide_eq_true g41
          rw [if_pos (.inr (.inl g41))] at hres
          refine OT.pures hT 3 rfl ?_
          refine OT.nil ?_
          refine KT.seq ?_
          refine TT.cond_true rfl ?_
          refine TT.seq ?_
          refine TT.region ?_
          refine OT.build (cs := [.int .i64 0, .slice none 0 0]) hT rfl Try.zeroValue31 rfl rfl rfl rfl ?_
          refine OT.store_all hT rfl rfl rfl rfl (by repeat (first | exact Pull.head | apply Pull.tail)) rfl rfl rfl (.inl (Nat.le_refl _)) ?_
          refine OT.pures hT 1 rfl ?_
          refine OT.nil ?_
          refine KT.seq ?_
          refine TT.ret ?_
          refine RT.of (rs := [.cell 2 31, .tmp 3]) [_, _] ([] :: hs) rfl (.cell rfl (Ld.struct_all hT rfl (by repeat (first | exact Has.one | apply Has.there)) rfl) (.tmp rfl .nil)) (by repeat (first | exact Sel.refl _ | refine Sel.empty ?_ | refine Sel.pull (by repeat (first | exact Pull.head | apply Pull.tail)) ?_ | refine Sel.drop ?_)) ?_
          dsimp only [one]
          rw [← hres]
          exact ⟨_, [], rfl, rfl, Own.nil⟩
        ·
          have g41 := of_decide_eq_false g41
          refine OT.pures hT 3 rfl ?_
          refine OT.nil ?_
          refine KT.seq ?_
          refine TT.cond rfl (fun c44 => ?_) (fun c44 => ?_)
          ·
            have c44 := of_decide_eq_true c44
            rw [if_pos (.inr (.inr c44))] at hres
            refine TT.seq ?_
            refine TT.region ?_
            refine OT.build (cs := [.int .i64 0, .slice none 0 0]) hT rfl Try.zeroValue31 rfl rfl rfl rfl ?_
            refine OT.store_all hT rfl rfl rfl rfl (by repeat (first | exact Pull.head | apply Pull.tail)) rfl rfl rfl (.inl (Nat.le_refl _)) ?_
            refine OT.pures hT 1 rfl ?_
            refine OT.nil ?_
            refine KT.seq ?_
            refine TT.ret ?_
            refine RT.of (rs := [.cell 2 31, .tmp 3]) [_, _] ([] :: hs) rfl (.cell rfl (Ld.struct_all hT rfl (by repeat (first | exact Has.one | apply Has.there)) rfl) (.tmp rfl .nil)) (by repeat (first | exact Sel.refl _ | refine Sel.empty ?_ | refine Sel.pull (by repeat (first | exact Pull.head | apply Pull.tail)) ?_ | refine Sel.drop ?_)) ?_
            dsimp only [one]
            rw [← hres]
            exact ⟨_, [], rfl, rfl, Own.nil⟩
          ·
            have c44 := of_decide_eq_false c44
            rw [if_neg (by omega)] at hres
            have hp : thenSeal xs next [] (readSnaps xs k.toNat (at_ + n).toNat) = res := by
              rw [← hres]
              cases readSnaps xs k.toNat (at_ + n).toNat <;> rfl
            clear hres
            refine TT.skip ?_
            refine KT.seq ?_
            refine TT.seq ?_
            refine TT.region ?_
            refine OT.pures hT 2 rfl ?_
            refine OT.pures hT 1 rfl ?_
            refine OT.reg 48 rfl (v := .int .i64 (((at_ + n).toNat : Nat) : Int)) (int_eq (by rw [wrap_i64 (by omega) (by omega)]; omega)) ?_
            refine OT.pures hT 1 rfl ?_
            refine OT.nil ?_
            refine KT.seq ?_
            refine TT.seq ?_
            refine TT.region ?_
            refine OT.pures hT 1 rfl ?_
            refine OT.build (cs := [.int .i64 next, .slice none 0 0]) hT rfl Try.zeroValue31 rfl rfl rfl rfl ?_
            refine OT.alloc Try.zeroValue31 rfl rfl (fun b_9 => ?_)
            refine OT.store_all hT rfl rfl rfl rfl (by repeat (first | exact Pull.head | apply Pull.tail)) rfl rfl rfl (.inl (Nat.le_refl _)) ?_
            refine OT.nil ?_
            refine KT.seq ?_
            refine TT.seq ?_
            refine TT.seq ?_
            refine TT.region ?_
            refine OT.pures hT 2 rfl ?_
            refine OT.nil ?_
            refine KT.seq ?_
            refine TT.block ?_
            refine TT.chunk0 ?_
            refine TT.loop (ι := Nat × Nat × (List Snap) × (Option Addr) × Nat × Nat × Chunk) (fun j => (j.1) ≤ k.toNat ∧ (j.2.1) ≤ xs.length ∧ (j.2.2.1).length = (j.1) ∧ Own encSnap 35 45 (.slice (j.2.2.2.1) (j.2.2.2.2.1) (j.2.2.2.2.2.1)) (j.2.2.1) (j.2.2.2.2.2.2) ∧ thenSeal xs next (j.2.2.1) (readSnaps xs (k.toNat - (j.1)) (j.2.1)) = res) (fun j => k.toNat - (j.1)) (fun j => [(0, .slice a0 xs.length c0), (2, .pointer (some ⟨b_2, 0, none⟩)), (5, .int .i64 ((j.2.1) : Nat)), (9, .pointer (some ⟨b_9, 0, none⟩)), (51, .int .i64 k), (52, .int .i64 ((j.1) : Nat))]) (fun j => [(b_9, blk [.int .i64 next, .slice (j.2.2.2.1) (j.2.2.2.2.1) (j.2.2.2.2.2.1)] 31 (0, 0))] :: [(b_2, blk [.int .i64 0, .slice none 0 0] 31 (0, 0))] :: (j.2.2.2.2.2.2) :: hs) (0, (at_ + n).toNat, [], none, 0, 0, []) ?_ (SubR.cons rfl (SubR.cons rfl (SubR.cons rfl (SubR.cons rfl (SubR.cons rfl (SubR.cons rfl (SubR.nil _))))))) (by repeat (first | exact Sel.refl _ | refine Sel.empty ?_ | refine Sel.pull (by repeat (first | exact Pull.head | apply Pull.tail)) ?_ | refine Sel.drop ?_)) ?_
            · dsimp only
              exact ⟨by omega, by omega, rfl, Own.nil, hp⟩
            rintro ⟨i, a, acc, sa, sn, sc, K⟩ hI
            dsimp only at hI
            obtain ⟨hi, ha, hal, hO, hp⟩ := hI
            show TT _ _ _ [(0, .slice a0 xs.length c0), (2, .pointer (some ⟨b_2, 0, none⟩)), (5, .int .i64 (a : Nat)), (9, .pointer (some ⟨b_9, 0, none⟩)), (51, .int .i64 k), (52, .int .i64 (i : Nat))] ([(b_9, blk [.int .i64 next, .slice sa sn sc] 31 (0, 0))] :: [(b_2, blk [.int .i64 0, .slice none 0 0] 31 (0, 0))] :: K :: hs)
            refine TT.seq ?_
            refine TT.region ?_
            refine OT.pures hT 1 rfl ?_
            refine OT.nil ?_
            refine KT.seq ?_
            refine TT.seq ?_
            refine TT.cond rfl (fun c53 => ?_) (fun c53 => ?_)
            ·
              have c53 := of_decide_eq_true c53
              rw [show k.toNat - i = (k.toNat - (i + 1)) + 1 by omega, readSnaps] at hp
              have hk1 := oneS_k (xs.drop a)
              have h35 := oneS_len (xs.drop a)
              have hdl2 : (xs.drop a).length = xs.length - a := List.length_drop
              generalize hg3 : oneS (xs.drop a) = o at *
              obtain ⟨s, m⟩ := o
              dsimp only at *
              refine TT.skip ?_
              refine KT.seq ?_
              refine TT.seq ?_
              refine TT.block ?_
              refine TT.seq ?_
              refine TT.region ?_
              refine OT.pures hT 2 rfl ?_
              refine OT.slice a xs.length hT rfl rfl rfl rfl rfl hr.there.there.there (.inr ⟨_, rfl⟩) (.inl ⟨rfl, rfl⟩) (by omega) (by omega) rfl (fun v_57 hv_57 => ?_)
              refine OT.call Try.call52 rfl rfl rfl rfl (cat_one hv_57 (by rw [List.take_length, hdl2]; omega)) ?_
              rintro v_58 hs_58 ⟨rfl, rfl⟩
              rw [List.take_length, hg3]
              dsimp only
              refine OT.pures hT 3 rfl ?_
              refine OT.alloc Try.zeroValue45 rfl rfl (fun b_10 => ?_)
              refine OT.store_all hT rfl rfl rfl rfl (by repeat (first | exact Pull.head | apply Pull.tail)) (by exact h35) rfl (ones_snap s) (.inl (Nat.le_refl _)) ?_
              refine OT.pures hT 1 rfl ?_
              refine OT.nil ?_
              refine KT.seq ?_
              refine TT.seq ?_
              refine TT.seq ?_
              refine TT.region ?_
              refine OT.pures hT 2 rfl ?_
              refine OT.nil ?_
              refine KT.seq ?_
              refine TT.cond rfl (fun c62 => ?_) (fun c62 => ?_)
              ·
                have c62 : m = 0 := by simpa using c62
                rw [if_pos c62] at hp
                refine TT.seq ?_
                refine TT.region ?_
                refine OT.build (cs := [.int .i64 0, .slice none 0 0]) hT rfl Try.zeroValue31 rfl rfl rfl rfl ?_
                refine OT.store_all hT rfl rfl rfl rfl (by repeat (first | exact Pull.head | apply Pull.tail)) rfl rfl rfl (.inl (Nat.le_refl _)) ?_
                refine OT.pures hT 1 rfl ?_
                refine OT.nil ?_
                refine KT.seq ?_
                refine TT.ret ?_
                refine RT.of (rs := [.cell 2 31, .tmp 3]) [_, _] ([] :: hs) rfl (.cell rfl (Ld.struct_all hT rfl (by repeat (first | exact Has.one | apply Has.there)) rfl) (.tmp rfl .nil)) (by repeat (first | exact Sel.refl _ | refine Sel.empty ?_ | refine Sel.pull (by repeat (first | exact Pull.head | apply Pull.tail)) ?_ | refine Sel.drop ?_)) ?_
                dsimp only [one]
                rw [← hp]
                exact ⟨_, [], rfl, rfl, Own.nil⟩
              ·
                have c62 : ¬ m = 0 := by simpa using c62
                rw [if_neg c62, thenSeal_cons] at hp
                refine TT.skip ?_
                refine KT.seq ?_
                refine TT.seq ?_
                refine TT.region ?_
                refine OT.pures hT 1 rfl ?_
                refine OT.load rfl rfl (Ld.slc hT rfl (by repeat (first | exact Has.one | apply Has.there)) rfl) rfl ?_
                refine OT.load rfl rfl (Ld.struct_all hT rfl Has.one (by exact h35)) rfl ?_
                refine OT.buildSlice (enc := encSnap) (xs := [s]) (xos := [.tmp 66]) el29 rfl rfl rfl rfl rfl (by intro v hv; simp only [List.mem_singleton] at hv; subst hv; exact h35) (by intro x hx; simp only [List.mem_singleton] at hx; subst hx; exact h35) rfl (by decide) rfl (fun v_67 H_67 ho_67 => ?_)
                refine OT.append hT el29 rfl rfl rfl rfl (by repeat (first | exact Pull.head | apply Pull.tail)) hO ho_67.row (ones_snaps _) (by simp only [List.length_cons, List.length_nil]; omega) rfl (fun v_68 H_68 ho_68 => ?_)
                obtain ⟨a_68, c_68, hv68⟩ := (ho_68.row (hs := hs)).len
                generalize hn68 : (acc ++ [s]).length = n_68 at hv68
                subst hv68
                refine OT.pures hT 1 rfl ?_
                refine OT.store hT rfl rfl rfl rfl (by repeat (first | exact Pull.head | apply Pull.tail)) rfl (Nat.le_of_ble_eq_true rfl) rfl (.inl (Nat.le_refl _)) (cs' := [.int .i64 next, .slice a_68 n_68 c_68]) rfl ?_
                refine OT.nil ?_
                refine KT.seq ?_
                refine TT.region ?_
                refine OT.pures hT 4 rfl ?_
                refine OT.nil ?_
                refine KT.blk ?_
                refine KT.seq ?_
                refine TT.region ?_
                refine OT.pures hT 2 rfl ?_
                refine OT.nil ?_
                refine KT.loop (i + 1, a + m.toNat, acc ++ [s], a_68, n_68, c_68, H_68) ?_ ?_ (SubR.cons rfl (SubR.cons rfl (SubR.cons' rfl (by (try dsimp only); exact (int_eq (by rw [wrap_i64 (by omega) (by omega)]; omega))) (SubR.cons rfl (SubR.cons rfl (SubR.cons' rfl (by (try dsimp only); exact (int_eq (by rw [wrap_i64 (by omega) (by omega)]; omega))) (SubR.nil _))))))) (by repeat (first | exact Sel.refl _ | refine Sel.empty ?_ | refine Sel.pull (by repeat (first | exact Pull.head | apply Pull.tail)) ?_ | refine Sel.drop ?_))
                · dsimp only
                  refine ⟨by omega, by omega, by rw [List.length_append, hal]; rfl, ho_68, ?_⟩
                  rw [← hp]
                · dsimp only
                  omega
            ·
              have c53 := of_decide_eq_false c53
              rw [show k.toNat - i = 0 by omega, readSnaps] at hp
              dsimp only [thenSeal] at hp
              rw [List.append_nil] at hp
              unfold sealed at hp
              refine TT.exit ?_
              refine XT.seq ?_
              refine XT.loop ?_
              refine XT.here ?_
              refine KT.seq ?_
              refine TT.seq ?_
              refine TT.seq ?_
              refine TT.region ?_
              refine OT.load rfl rfl (Ld.struct_all hT rfl (by repeat (first | exact Has.one | apply Has.there)) rfl) rfl ?_
              refine OT.call Try.call12 rfl rfl rfl rfl (cat_Encode ((hO.row (hs := hs)).there.there) (by omega)) ?_
              rintro v_76 hs_76 ⟨w1, H1, rfl, rfl, hE⟩
              refine OT.pures hT 5 rfl ?_
              refine OT.nil ?_
              refine KT.seq ?_
              refine TT.seq ?_
              refine TT.region ?_
              refine OT.pures hT 3 rfl ?_
              refine OT.split 81 rfl (fun g81 => ?_) (fun g81 => ?_)
              ·
                have g81 : ¬ (encode next acc).2 = 0 := by simpa using g81
                rw [if_pos (.inl g81)] at hp
                refine OT.pures hT 5 rfl ?_
                refine OT.nil ?_
                refine KT.seq ?_
                refine TT.cond_true rfl ?_
                refine TT.seq ?_
                refine TT.region ?_
                refine OT.build (cs := [.int .i64 0, .slice none 0 0]) hT rfl Try.zeroValue31 rfl rfl rfl rfl ?_
                refine OT.store_all hT rfl rfl rfl rfl (by repeat (first | exact Pull.head | apply Pull.tail)) rfl rfl rfl (.inl (Nat.le_refl _)) ?_
                refine OT.pures hT 1 rfl ?_
                refine OT.nil ?_
                refine KT.seq ?_
                refine TT.ret ?_
                refine RT.of (rs := [.cell 2 31, .tmp 3]) [_, _] ([] :: hs) rfl (.cell rfl (Ld.struct_all hT rfl (by repeat (first | exact Has.one | apply Has.there)) rfl) (.tmp rfl .nil)) (by repeat (first | exact Sel.refl _ | refine Sel.empty ?_ | refine Sel.pull (by repeat (first | exact Pull.head | apply Pull.tail)) ?_ | refine Sel.drop ?_)) ?_
                dsimp only [one]
                rw [← hp]
                exact ⟨_, [], rfl, rfl, Own.nil⟩
              ·
                have g81 : (encode next acc).2 = 0 := by simpa using g81
                refine OT.pures hT 2 rfl ?_
                refine OT.call Try.call53 rfl rfl rfl rfl (by_Equal hE.row hr.there.there.there.there) ?_
                rintro v_84 hs_84 ⟨rfl, rfl⟩
                refine OT.pures hT 2 rfl ?_
                refine OT.nil ?_
                refine KT.seq ?_
                refine TT.cond rfl (fun c86 => ?_) (fun c86 => ?_)
                ·
                  have c86 : ¬ (encode next acc).1 = xs := by simpa using c86
                  rw [if_pos (.inr c86)] at hp
                  refine TT.seq ?_
                  refine TT.region ?_
                  refine OT.build (cs := [.int .i64 0, .slice none 0 0]) hT rfl Try.zeroValue31 rfl rfl rfl rfl ?_
                  refine OT.store_all hT rfl rfl rfl rfl (by repeat (first | exact Pull.head | apply Pull.tail)) rfl rfl rfl (.inl (Nat.le_refl _)) ?_
                  refine OT.pures hT 1 rfl ?_
                  refine OT.nil ?_
                  refine KT.seq ?_
                  refine TT.ret ?_
                  refine RT.of (rs := [.cell 2 31, .tmp 3]) [_, _] ([] :: hs) rfl (.cell rfl (Ld.struct_all hT rfl (by repeat (first | exact Has.one | apply Has.there)) rfl) (.tmp rfl .nil)) (by repeat (first | exact Sel.refl _ | refine Sel.empty ?_ | refine Sel.pull (by repeat (first | exact Pull.head | apply Pull.tail)) ?_ | refine Sel.drop ?_)) ?_
                  dsimp only [one]
                  rw [← hp]
                  exact ⟨_, [], rfl, rfl, Own.nil⟩
                ·
                  have c86 : (encode next acc).1 = xs := by simpa using c86
                  rw [if_neg (by rintro (h | h) <;> exact h (by assumption))] at hp
                  refine TT.skip ?_
                  refine KT.seq ?_
                  refine TT.seq ?_
                  refine TT.region ?_
                  refine OT.load rfl rfl (Ld.struct_all hT rfl (by repeat (first | exact Has.one | apply Has.there)) rfl) rfl ?_
                  refine OT.store_all hT rfl rfl rfl rfl (by repeat (first | exact Pull.head | apply Pull.tail)) rfl rfl rfl (.inl (Nat.le_refl _)) ?_
                  refine OT.pures hT 1 rfl ?_
                  refine OT.nil ?_
                  refine KT.seq ?_
                  refine TT.ret ?_
                  refine RT.of (rs := [.cell 2 31, .tmp 3]) [_, _] (K :: hs) rfl (.cell rfl (Ld.struct_all hT rfl (by repeat (first | exact Has.one | apply Has.there)) rfl) (.tmp rfl .nil)) (by repeat (first | exact Sel.refl _ | refine Sel.empty ?_ | refine Sel.pull (by repeat (first | exact Pull.head | apply Pull.tail)) ?_ | refine Sel.drop ?_)) ?_
                  dsimp only [one]
                  rw [← hp]
                  exact ⟨_, K, rfl, rfl, hO⟩

end Go.Proofs.Ytnhkgchcdbideaa.Sx
end

section
namespace Go.Proofs.Ytnhkgchcdbideaa.Sx
open Go Go.Sx Go.Pl
variable [Outer]

omit [Outer] in
theorem ones_ps {p : Option Addr} {s : Snap} : ones (.pointer p :: encSnap s) = true := by
  have := ones_snap s
  unfold ones at *
  rw [List.all_cons, this]; rfl

omit [Outer] in
theorem pg0 {Q : Pages} {no : Int} (h : mayPage no) : pgOf Q no = (0, Q no) := by unfold pgOf; rw [if_pos h]

set_option maxHeartbeats 1000000 in
set_option maxRecDepth 100000 in
theorem law21_show {b : Nat} {Q : Pages} {n : Int} {xs : List Snap} {H : Chunk} {r : List Chunk} (hB : BkAt 28 b Q H) (hst : CowSt Q n xs) {nm : ByteArray} : Fun Try.prog 16 [.pointer (some ⟨b, 0, none⟩), .string nm] (H :: r) (fun v' hs' => hs' = H :: r ∧ ∃ cs, v' = .tuple ⟨[.agg ⟨cs⟩, .bool (shownOf xs nm).isSome]⟩ ∧ cs.length = 36 ∧ ones cs = true ∧ ∀ s, shownOf xs nm = some s → cs = .pointer (some ⟨b, 0, none⟩) :: encSnap s) := by
  refine Fun.enter 46 Try.func16 rfl Try.ntmps16 rfl ?_
  refine TT.seq (.region (.alloc Try.zeroValue47 rfl rfl (fun b_4 => ?_)))
  refine OT.pures hT 1 rfl (.nil (.seq (.seq (.region (.pures hT 1 rfl (.call Try.call23 rfl rfl rfl rfl (Fun.pull pl (book_Page hB)) ?_))))))
  rintro v_13 hs_13 ⟨K1, w1, rfl, rfl, ho1⟩
  rw [pg0 (by unfold mayPage; omega)] at ho1 ⊢
  dsimp only at ho1
  refine OT.pures hT 5 rfl (.nil (.seq (.seq (.region (.pures hT 1 rfl (.call Try.call24 rfl rfl rfl rfl (cat_Decode ro (by rw [hst.long 0 (by unfold mayPage; omega)]; omega)) ?_))))))
  rintro v_18 hs_18 ⟨w2, HS, rfl, rfl, hoS⟩
  rw [hst.cat] at hoS ⊢
  dsimp only at hoS
  obtain ⟨a2, c2, hw2⟩ := (hoS.row (hs := [])).len
  subst hw2
  have hgc := hst.good
  have hfew := hgc.few
  refine OT.pures hT 3 rfl (.alloc Try.zeroValue31 rfl rfl (fun b_8 => ?_))
  refine OT.store_all hT rfl rfl rfl rfl pl rfl rfl rfl (.inl (Nat.le_refl _)) ?_
  refine OT.pures hT 1 rfl (.nil (.seq (.seq (.region (.load rfl rfl (Ld.struct_all hT rfl hz rfl) rfl ?_)))))
  refine OT.pures hT 1 rfl (.call Try.call31 rfl rfl rfl rfl (cat_Find ro (by omega)) ?_)
  rintro v_23 hs_23 ⟨rfl, rfl⟩
  refine OT.pures hT 1 rfl (.nil (.seq (.seq (.seq (.region (.pures hT 3 rfl (.pures hT 4 rfl (.split 30 rfl (fun g30 => ?_) (fun g30 => ?_)))))))))
  ·
    have g30 := of_decide_eq_true g30
    have hsh : shownOf xs nm = none := by unfold shownOf; rw [if_pos g30]
    refine OT.pures hT 7 rfl (.nil (.seq (.cond_true rfl (.seq (.region (.build (cs := _) hT rfl Try.zeroValue47 rfl rfl rfl rfl (.store_all hT rfl rfl rfl rfl pl rfl rfl rfl (.inl (Nat.le_refl _)) ?_)))))))
    refine OT.pures hT 1 rfl (.nil (.seq (.ret (.of (rs := [.cell 4 47, .tmp 5]) [_, _] (H :: r) rfl (.cell rfl (Ld.struct_all hT rfl hz rfl) (.tmp rfl .nil)) sl ?_))))
    dsimp only [one]
    exact ⟨rfl, _, by rw [hsh]; rfl, by kernel_rfl, by kernel_rfl, fun s h => by rw [hsh] at h; cases h⟩
  ·
    have g30 := of_decide_eq_false g30
    have hfl := (findAt_lt (named nm) xs 0).1
    obtain ⟨k, hfk⟩ : ∃ k : Nat, findAt (named nm) 0 xs = k := ⟨(findAt (named nm) 0 xs).toNat, by omega⟩
    obtain ⟨s, hs⟩ := nth (l := xs) (i := k) (by omega)
    have h35 := hst.h35 s (List.mem_of_getElem? hs)
    have hsh : shownOf xs nm = if s.inv = true then none else some s := by unfold shownOf; rw [if_neg g30, hfk, Int.toNat_natCast, hs]
    refine OT.reg 10 rfl (int_eq hfk) (.pures hT 1 rfl (.load rfl rfl (Ld.slc hT rfl hz rfl) rfl ?_))
    refine OT.pures hT 1 rfl (.index hT rfl rfl rfl rfl ro (by omega) (by rw [Int.toNat_natCast]; exact hs) rfl (fun ad_34 hel_34 => ?_))
    obtain ⟨eb_34, eo_34, rfl, hfld_34⟩ := hel_34.at (P := Try.prog)
    refine OT.pures hT 1 rfl (.load rfl rfl (hfld_34 hT rfl rfl) rfl (.pures hT 1 rfl (.nil (.seq (.cond rfl (fun c37 => ?_) (fun c37 => ?_))))))
    ·
      refine TT.seq (.region (.build (cs := _) hT rfl Try.zeroValue47 rfl rfl rfl rfl (.store_all hT rfl rfl rfl rfl pl rfl rfl rfl (.inl (Nat.le_refl _)) ?_)))
      refine OT.pures hT 1 rfl (.nil (.seq (.ret (.of (rs := [.cell 4 47, .tmp 5]) [_, _] (H :: r) rfl (.cell rfl (Ld.struct_all hT rfl hz rfl) (.tmp rfl .nil)) sl ?_))))
      dsimp only [one]
      rw [c37, if_pos rfl] at hsh
      exact ⟨rfl, _, by rw [hsh]; rfl, by kernel_rfl, by kernel_rfl, fun s h => by rw [hsh] at h; cases h⟩
    ·
      refine TT.skip (.seq (.seq (.region (.pures hT 2 rfl (.load rfl rfl (Ld.slc hT rfl hz rfl) rfl ?_)))))
      refine OT.pures hT 1 rfl (.index hT rfl rfl rfl rfl ro (by omega) (by rw [Int.toNat_natCast]; exact hs) rfl (fun ad_43 hel_43 => ?_))
      refine OT.load rfl rfl (hel_43.ld_struct hT rfl) rfl (.build (cs := .pointer (some ⟨b, 0, none⟩) :: encSnap s) hT rfl Try.zeroValue47 rfl rfl (snap_fill rfl h35 kr) rfl (.store_all hT rfl rfl rfl rfl pl (by show (encSnap s).length + 1 = 36; rw [h35]) rfl ones_ps (.inl (Nat.le_refl _)) ?_))
      refine OT.pures hT 1 rfl (.nil (.seq (.ret (.of (rs := [.cell 4 47, .tmp 5]) [_, _] (H :: r) rfl (.cell rfl (Ld.struct_all hT rfl hz (by show (encSnap s).length + 1 = 36; rw [h35])) (.tmp rfl .nil)) sl ?_))))
      dsimp only [one]
      rw [c37, if_neg (by simp)] at hsh
      exact ⟨rfl, _, by rw [hsh]; rfl, by show (encSnap s).length + 1 = 36; rw [h35], ones_ps, fun t h => by rw [hsh] at h; cases h; rfl⟩

end Go.Proofs.Ytnhkgchcdbideaa.Sx
end

section
namespace Go.Proofs.Ytnhkgchcdbideaa.Sx
open Go Go.Sx Go.Pl
variable [Outer]

set_option maxHeartbeats 1000000 in
set_option maxRecDepth 100000 in
theorem law9_Of {vb : Value} {bs : List UInt8} {r : List Chunk} (hr : Row Go.Sx.encB 1 r vb bs) (hl : bs.length ≤ 256) : Fun Try.prog 21 [vb] r (fun v' hs' => ∃ H', hs' = H' :: r ∧ Own Go.Sx.encB 1 5 v' (pageOf bs) H') := by
  refine Fun.enter 9 Try.func21 rfl Try.ntmps21 rfl ?_
  refine TT.seq (.region (.pures hT 1 rfl (.nil (.seq (.seq (.region ?_))))))
  refine OT.make (enc := Go.Sx.encB) (z0 := (0 : UInt8)) (n := 256) el22 Try.zeroValue5 rfl rfl rfl rfl rfl (by omega) rfl (fun v_4 H_4 ho_4 => ?_)
  obtain ⟨eb, eo, ec, _, _, hva, _⟩ := ho_4.over (by simp)
  rw [List.length_replicate] at hva
  subst hva
  obtain ⟨ab, cb, hvb⟩ := hr.len
  subst hvb
  refine OT.pures hT 1 rfl (.nil (.seq (.seq (.region (.pures hT 2 rfl (.copy_own 0 hT rfl rfl rfl rfl pl ho_4 hr.there (by simp; omega) (by simp) (ones_bytes _) rfl (fun H_7 ho_7 => ?_)))))))
  refine OT.nil (.seq (.seq (.region (.pures hT 2 rfl (.nil (.seq (.ret (.of (rs := [.tmp 2]) [_] (H_7 :: r) rfl (.tmp rfl .nil) sl ?_))))))))
  dsimp only [one]
  refine ⟨_, rfl, ?_⟩
  have e : over (List.replicate 256 (0 : UInt8)) 0 (bs.take 256) = pageOf bs := by
    unfold over pageOf noughts
    rw [show bs.take 256 = bs from List.take_of_length_le (by omega), List.take_zero, List.nil_append, Nat.zero_add, List.drop_replicate]
  rw [← e]; exact ho_7

set_option maxHeartbeats 1000000 in
set_option maxRecDepth 100000 in
theorem law1_ShortAll {v : Value} {xs : List UInt8} {n : Nat} {hs : List Chunk} (hr : Row Go.Sx.encB 1 hs v xs) : Fun Try.prog 66 [v, .int .i64 (n : Int)] hs (fun v' hs' => (∀ hs0, Row Go.Sx.encB 1 hs0 v xs → Row Go.Sx.encB 1 hs0 v' (xs.take n)) ∧ hs = hs') := by
  refine Fun.enter 13 Try.func66 rfl Try.ntmps66 rfl ?_
  obtain ⟨a0, c0, hv⟩ := hr.len
  subst hv
  refine TT.seq (.region (.pures hT 1 rfl (.nil (.seq (.seq (.seq (.region (.pures hT 4 rfl (.nil (.seq (.cond rfl (fun c8 => ?_) (fun c8 => ?_))))))))))))
  ·
    have c8 := of_decide_eq_true c8
    refine TT.seq (.region (.pures hT 2 rfl (.slice_val 0 n hT rfl rfl rfl rfl rfl (.inl ⟨rfl, rfl⟩) (.inr ⟨_, rfl⟩) (by omega) (by have := hr.cap_le; omega) rfl ?_)))
    refine OT.pures hT 1 rfl (.nil (.seq (.ret (.of (rs := [.tmp 4]) [_] hs rfl (.tmp rfl .nil) sl ?_))))
    dsimp only [one]
    exact ⟨fun hs0 h0 => h0.sub (L := 0) (M := n) (by omega) (by omega), rfl⟩
  ·
    have c8 := of_decide_eq_false c8
    refine TT.skip (.seq (.seq (.region (.pures hT 2 rfl (.nil (.seq (.ret (.of (rs := [.tmp 4]) [_] hs rfl (.tmp rfl .nil) sl ?_))))))))
    dsimp only [one]
    exact ⟨fun hs0 h0 => by rw [List.take_of_length_le (by omega)]; exact h0, rfl⟩

set_option maxHeartbeats 4000000 in
set_option maxRecDepth 100000 in
theorem law16_Images {v : Value} {ts : List Raw} {n : Nat} {hs hs0 : List Chunk} (hi : RawsAt hs0 v ts) (hsub : ∀ b o, Has hs0 b o → Has hs b o) (hn : n ≤ 1000) : Fun Try.prog 39 [v, .int .i64 (n : Nat)] hs (fun v' hs' => ∃ K E, hs' = K :: E :: hs ∧ MixAt 66 hs0 v' (rawImgs ts n) K E) := by
  refine Fun.enter 49 Try.func39 rfl Try.ntmps39 rfl ?_
  have hr := hi.row.mono hsub
  have hfew := hi.few
  obtain ⟨a0, c0, hv⟩ := hr.len
  subst hv
  refine TT.seq (.region (.pures hT 1 rfl (.nil (.seq (.seq (.region (.pures hT 1 rfl (.nil (.seq (.seq (.seq (.region (.pures hT 1 rfl (.nil (.seq (.block (.chunk0 (.chunk0 (.loop (ι := Nat × Value × Chunk × Chunk) (fun j => (j.1) ≤ ts.length ∧ (j.1) ≤ n ∧ MixAt 66 hs0 (j.2.1) (rawImgs ts (j.1)) (j.2.2.1) (j.2.2.2)) (fun j => ts.length - (j.1)) (fun j => [(0, .slice a0 ts.length c0), (1, .int .i64 (n : Nat)), (5, (j.2.1)), (6, .int .i64 ((j.1) : Nat))]) (fun j => (j.2.2.1) :: (j.2.2.2) :: hs) (0, .slice none 0 0, [], []) ?_ (SubR.cons rfl (SubR.cons rfl (SubR.cons rfl (SubR.cons rfl (SubR.nil _))))) sl ?_)))))))))))))))))))
  · dsimp only
    exact ⟨by omega, by omega, ⟨[], rfl, Own.nil, by simp⟩⟩
  rintro ⟨i, w, K, E⟩ hI
  dsimp only at hI
  obtain ⟨hin, hi2, hM⟩ := hI
  show TT _ _ _ [(0, .slice a0 ts.length c0), (1, .int .i64 (n : Nat)), (5, w), (6, .int .i64 (i : Nat))] (K :: E :: hs)
  refine TT.seq (.seq (.region (.pures hT 5 rfl (.split 12 rfl (fun g12 => ?_) (fun g12 => ?_)))))
  ·
    have g12 := of_decide_eq_true g12
    refine OT.pures hT 4 rfl (.nil (.seq (.cond rfl (fun c16 => ?_) (fun c16 => ?_))))
    ·
      have c16 := of_decide_eq_true c16
      obtain ⟨t, ht⟩ := nth (l := ts) (i := i) (by omega)
      have hmem := List.mem_of_getElem? ht
      obtain ⟨us, hus, hK, hE⟩ := hM.is
      have hul : us.length = i := by have := congrArg List.length hus; rw [imgs_length] at this; rw [this]; unfold rawImgs; rw [List.length_map, List.length_take]; omega
      refine TT.skip (.seq (.seq (.block (.seq (.region (.pures hT 2 rfl (.index hT rfl rfl rfl rfl hr.there.there (by omega) ht rfl (fun ad_21 hel_21 => ?_))))))))
      obtain ⟨eb_21, eo_21, rfl, hfld_21, hfls_21⟩ := Go.Pl.El.at2 (P := Try.prog) hel_21
      refine OT.pures hT 1 rfl (.load rfl rfl (hfls_21 hT rfl rfl) rfl (.call Try.call66 rfl rfl rfl rfl (law1_ShortAll (n := 260) ((hi.each t hmem).mono hsub).there.there) ?_))
      rintro v_24 hs_24 ⟨hvA, rfl⟩
      have hs24 := hvA hs0 (hi.each t hmem)
      obtain ⟨aS, cS, hvS⟩ := hs24.len
      subst hvS
      refine OT.pures hT 1 rfl (.nil (.seq (.cut (ι := (Option Addr) × Nat × Chunk) (fun j => Row Go.Sx.encB 1 ((j.2.2) :: hs0) (.slice (j.1) (rawBytes t).length (j.2.1)) (rawBytes t)) (fun j => [(0, .slice a0 ts.length c0), (1, .int .i64 (n : Nat)), (5, w), (6, .int .i64 (i : Nat)), (7, .slice (j.1) (rawBytes t).length (j.2.1))]) (fun j => (j.2.2) :: K :: E :: hs) ?_ ?_)))
      ·
        refine TT.seq (.region (.pures hT 2 rfl (.index hT rfl rfl rfl rfl hr.there.there (by omega) ht rfl (fun ad_27 hel_27 => ?_))))
        obtain ⟨eb_27, eo_27, rfl, hfld_27, hfls_27⟩ := Go.Pl.El.at2 (P := Try.prog) hel_27
        refine OT.pures hT 1 rfl (.load rfl rfl (hfld_27 hT rfl rfl) rfl (.pures hT 2 rfl (.split 31 rfl (fun g31 => ?_) (fun g31 => ?_))))
        ·
          have g31 : t.odd = false := by simpa using g31
          refine OT.pures hT 4 rfl (.nil (.seq (.cond rfl (fun c35 => ?_) (fun c35 => ?_))))
          ·
            have c35 := of_decide_eq_true c35
            refine TT.region (.pures hT 1 rfl (.call Try.call21 rfl rfl rfl rfl (law9_Of (hs24.mono hsub).there.there (by omega)) ?_))
            rintro v_37 hs_37 ⟨HB, rfl, hoB⟩
            obtain ⟨aB, cB, hvB⟩ := (hoB.row (hs := [])).len
            subst hvB
            refine OT.pures hT 1 rfl (.nil ?_)
            have hrb : rawBytes t = pageOf (t.b.take 260) := by unfold rawBytes; rw [if_pos ⟨g31, by omega⟩]
            refine KT.cut (aB, cB, HB) ?_ (SubR.cons rfl (SubR.cons rfl (SubR.cons rfl (SubR.cons rfl (SubR.cons' rfl (by (try dsimp only); exact (by rw [hrb])) (SubR.nil _)))))) sl
            · dsimp only
              show Row Go.Sx.encB 1 (HB :: hs0) (.slice aB (rawBytes t).length cB) (rawBytes t)
              rw [hrb]; exact hoB.row
          ·
            have c35 := of_decide_eq_false c35
            refine TT.skip (.chunk0 ?_)
            have hrb : rawBytes t = t.b.take 260 := by unfold rawBytes; rw [if_neg (fun h => by omega)]
            refine KT.cut (aS, cS, []) ?_ (SubR.cons rfl (SubR.cons rfl (SubR.cons rfl (SubR.cons rfl (SubR.cons' rfl (by (try dsimp only); exact (by rw [hrb])) (SubR.nil _)))))) sl
            · dsimp only
              show Row Go.Sx.encB 1 ([] :: hs0) (.slice aS (rawBytes t).length cS) (rawBytes t)
              rw [hrb]; exact hs24.there
        ·
          have g31 : t.odd = true := by simpa using g31
          refine OT.pures hT 4 rfl (.nil (.seq (.cond_false rfl (.skip (.chunk0 ?_)))))
          have hrb : rawBytes t = t.b.take 260 := by unfold rawBytes; rw [if_neg (fun h => by rw [g31] at h; cases h.1)]
          refine KT.cut (aS, cS, []) ?_ (SubR.cons rfl (SubR.cons rfl (SubR.cons rfl (SubR.cons rfl (SubR.cons' rfl (by (try dsimp only); exact (by rw [hrb])) (SubR.nil _)))))) sl
          · dsimp only
            show Row Go.Sx.encB 1 ([] :: hs0) (.slice aS (rawBytes t).length cS) (rawBytes t)
            rw [hrb]; exact hs24.there
      ·
        rintro ⟨aw, cw, B⟩ hI
        dsimp only at hI
        have hB := hI
        show TT _ _ _ [(0, .slice a0 ts.length c0), (1, .int .i64 (n : Nat)), (5, w), (6, .int .i64 (i : Nat)), (7, .slice aw (rawBytes t).length cw)] (B :: K :: E :: hs)
        refine TT.region (.pures hT 3 rfl (.index hT rfl rfl rfl rfl hr.there.there.there (by omega) ht rfl (fun ad_41 hel_41 => ?_)))
        obtain ⟨eb_41, eo_41, rfl, hfld_41, hfls_41⟩ := Go.Pl.El.at2 (P := Try.prog) hel_41
        refine OT.pures hT 1 rfl (.load rfl rfl (hfld_41 hT rfl rfl) rfl (.pures hT 1 rfl (.build (cs := [.int .i64 t.no, .slice aw (rawBytes t).length cw]) hT rfl Try.zeroValue66 rfl rfl rfl rfl ?_)))
        refine OT.buildSlice (enc := encIm) (xs := [(⟨t.no, .slice aw (rawBytes t).length cw, rawBytes t⟩ : Im)]) (xos := [.tmp 45]) el37 rfl rfl rfl rfl rfl (by simp [Value.cells]) (fun _ _ => rfl) rfl (by decide) rfl (fun v_46 H_46 ho_46 => ?_)
        refine OT.append hT el37 rfl rfl rfl rfl pl hK ro rfl (by simp only [List.length_cons, List.length_nil]; omega) rfl (fun v_47 H_47 ho_47 => ?_)
        refine OT.pures hT 1 rfl (.nil (.blk (.seq (.region (.pures hT 3 rfl (.nil (.loop (i + 1, v_47, H_47, B ++ E) ?_ ?_ (SubR.cons rfl (SubR.cons rfl (SubR.cons rfl (SubR.cons' rfl (by (try dsimp only); exact (int_eq (by rw [wrap_i64 (by omega) (by omega)]; omega))) (SubR.nil _))))) sl)))))))
        · dsimp only
          refine ⟨by omega, by omega, ⟨us ++ [⟨t.no, .slice aw (rawBytes t).length cw, rawBytes t⟩], ?_, ho_47, ?_⟩⟩
          · rw [imgs_append, hus, rawImgs_succ ht]; rfl
          · intro u hu
            rcases List.mem_append.1 hu with hu | hu
            · exact Go.Pl.Row.last (hE u hu)
            · rw [List.mem_singleton] at hu; subst hu; exact Go.Pl.Row.more hB
        · dsimp only
          omega
    ·
      have c16 := of_decide_eq_false c16
      refine TT.exit (.seq (.loop (.here (.seq (.seq (.region (.pures hT 2 rfl (.nil (.seq (.ret (.of (rs := [.tmp 4]) [_] (K :: E :: hs) rfl (.tmp rfl .nil) sl ?_)))))))))))
      dsimp only [one]
      exact ⟨K, E, rfl, by rw [← rawImgs_end (i := i) (n := n) hin hi2 (.inr (by omega))]; exact hM⟩
  ·
    have g12 := of_decide_eq_false g12
    refine OT.pures hT 4 rfl (.nil (.seq (.cond_false rfl (.exit (.seq (.loop (.here (.seq (.seq (.region (.pures hT 2 rfl (.nil (.seq (.ret (.of (rs := [.tmp 4]) [_] (K :: E :: hs) rfl (.tmp rfl .nil) sl ?_)))))))))))))))
    dsimp only [one]
    exact ⟨K, E, rfl, by rw [← rawImgs_end (i := i) (n := n) hin hi2 (.inl (by omega))]; exact hM⟩

set_option maxHeartbeats 4000000 in
set_option maxRecDepth 100000 in
theorem ref_MayImages {v : Value} {ts : List Im} {hs : List Chunk} (hi : ImsAt hs v ts) : Fun Try.prog 27 [v] hs (fun v' hs' => v' = .bool (decide (MayImgs (imgs ts))) ∧ hs = hs') := by
  refine Fun.enter 59 Try.func27 rfl Try.ntmps27 rfl ?_
  have hr := hi.row
  have hfew := hi.few
  obtain ⟨a0, c0, hv⟩ := hr.len
  subst hv
  refine TT.seq (.region (.pures hT 1 rfl (.nil (.seq (.seq (.seq (.region (.pures hT 1 rfl (.nil (.seq (.block (.loop (ι := Nat) (fun j => (j) ≤ ts.length ∧ MayTo (imgs ts) (j)) (fun j => ts.length - (j)) (fun j => [(0, .slice a0 ts.length c0), (3, .int .i64 ((j) : Nat))]) (fun j => hs) (0) ?_ (SubR.cons rfl (SubR.cons rfl (SubR.nil _))) sl ?_))))))))))))
  · exact ⟨by omega, MayTo.zero _⟩
  rintro i ⟨hin, hp⟩
  show TT _ _ _ [(0, .slice a0 ts.length c0), (3, .int .i64 (i : Nat))] (hs)
  refine TT.seq (.seq (.region (.pures hT 4 rfl (.nil (.seq (.cond rfl (fun c7 => ?_) (fun c7 => ?_)))))))
  ·
    have c7 := of_decide_eq_true c7
    obtain ⟨t, ht⟩ := nth (l := ts) (i := i) (by omega)
    have hit := imgs_at ht
    have hmem := List.mem_of_getElem? ht
    have hmi : t.img ∈ imgs ts := List.mem_of_getElem? hit
    obtain ⟨ab, cb, hvb⟩ := (hi.each t hmem).len
    have hbl := hi.len t hmem
    refine TT.skip (.seq (.seq (.block (.seq (.draw (hs) mixed (.takes (fuel := 39) hT [0, 1] kr kr rfl (.index (fuel := 38) hT 2 rfl kr kr kr rfl rfl rfl rfl hr (by omega) ht rfl (fun ad_12 hel_12 => ?_))))))))
    obtain ⟨eb_12, eo_12, rfl, hfld_12, hfls_12⟩ := Go.Pl.El.at2 (P := Try.prog) hel_12
    refine AT.takes (fuel := 37) hT [3] kr kr rfl (.take (fuel := 36) hT 4 rfl rfl kr kr kr rfl (.load rfl (hfld_12 hT rfl rfl)) rfl (.takes (fuel := 34) hT [5, 6] kr kr rfl (.split 16 rfl (fun g16 => ?_) (fun g16 => ?_))))
    ·
      have g16 := of_decide_eq_true g16
      refine AT.takes (fuel := 0) hT [7, 8, 9, 10, 11, 12, 13, 14, 15, 16, 17, 18, 19, 20, 21, 22, 23, 24, 25, 26, 27, 28, 29, 30, 31, 32, 33, 34, 35, 36, 37, 38, 39, 40] kr kr rfl (.done kr sl (.seq (.cond_true rfl (.seq (.region (.pures hT 1 rfl (.nil (.seq (.ret (.of (rs := [.tmp 2]) [_] hs rfl (.tmp rfl .nil) sl ?_))))))))))
      dsimp only [one]
      exact ⟨congrArg Value.bool (decide_eq_false (fun h => by have := (h.2.1 _ hmi).1.1; have : 0 ≤ t.no := this; omega)).symm, rfl⟩
    ·
      have g16 := of_decide_eq_false g16
      refine AT.takes (fuel := 32) hT [7, 8] kr kr rfl (.index (fuel := 31) hT 9 rfl kr kr kr rfl rfl rfl rfl hr (by omega) ht rfl (fun ad_19 hel_19 => ?_))
      obtain ⟨eb_19, eo_19, rfl, hfld_19, hfls_19⟩ := Go.Pl.El.at2 (P := Try.prog) hel_19
      refine AT.takes (fuel := 30) hT [10] kr kr rfl (.take (fuel := 29) hT 11 rfl rfl kr kr kr rfl (.load rfl (hfld_19 hT rfl rfl)) rfl (.takes (fuel := 26) hT [12, 13, 14] kr kr rfl (.split 24 rfl (fun g24 => ?_) (fun g24 => ?_))))
      ·
        have g24 := of_decide_eq_true g24
        refine AT.takes (fuel := 0) hT [15, 16, 17, 18, 19, 20, 21, 22, 23, 24, 25, 26, 27, 28, 29, 30, 31, 32, 33, 34, 35, 36, 37, 38, 39, 40] kr kr rfl (.done kr sl (.seq (.cond_true rfl (.seq (.region (.pures hT 1 rfl (.nil (.seq (.ret (.of (rs := [.tmp 2]) [_] hs rfl (.tmp rfl .nil) sl ?_))))))))))
        dsimp only [one]
        exact ⟨congrArg Value.bool (decide_eq_false (fun h => by have := (h.2.1 _ hmi).1.2; have : t.no < 96 := this; omega)).symm, rfl⟩
      ·
        have g24 := of_decide_eq_false g24
        refine AT.takes (fuel := 24) hT [15, 16] kr kr rfl (.index (fuel := 23) hT 17 rfl kr kr kr rfl rfl rfl rfl hr (by omega) ht rfl (fun ad_27 hel_27 => ?_))
        obtain ⟨eb_27, eo_27, rfl, hfld_27, hfls_27⟩ := Go.Pl.El.at2 (P := Try.prog) hel_27
        refine AT.takes (fuel := 22) hT [18] kr kr rfl (.take (fuel := 21) hT 19 rfl rfl kr kr kr rfl (.load rfl (hfls_27 hT rfl (by unfold encIm; rw [hvb]; rfl))) rfl ?_)
        refine AT.takes (fuel := 17) hT [20, 21, 22, 23] kr kr rfl (.split 33 rfl (fun g33 => ?_) (fun g33 => ?_))
        ·
          have g33 : ¬ t.b.length = 256 := by simp at g33; omega
          refine AT.takes (fuel := 0) hT [24, 25, 26, 27, 28, 29, 30, 31, 32, 33, 34, 35, 36, 37, 38, 39, 40] kr kr rfl (.done kr sl (.seq (.cond_true rfl (.seq (.region (.pures hT 1 rfl (.nil (.seq (.ret (.of (rs := [.tmp 2]) [_] hs rfl (.tmp rfl .nil) sl ?_))))))))))
          dsimp only [one]
          exact ⟨congrArg Value.bool (decide_eq_false (fun h => g33 (h.2.1 _ hmi).2)).symm, rfl⟩
        ·
          have g33 : t.b.length = 256 := by simp at g33; omega
          refine AT.takes (fuel := 14) hT [24, 25, 26] kr kr rfl (.split 36 rfl (fun g36 => ?_) (fun g36 => ?_))
          ·
            have g36 := of_decide_eq_true g36
            obtain ⟨u, hu⟩ := nth (l := ts) (i := i - 1) (by omega)
            have hiu := imgs_at hu
            refine AT.takes (fuel := 9) hT [27, 28, 32, 33, 34] kr kr rfl (.index (fuel := 8) hT 29 rfl kr kr kr rfl rfl rfl rfl hr (by omega) ht rfl (fun ad_39 hel_39 => ?_))
            obtain ⟨eb_39, eo_39, rfl, hfld_39, hfls_39⟩ := Go.Pl.El.at2 (P := Try.prog) hel_39
            refine AT.takes (fuel := 7) hT [30] kr kr rfl (.take (fuel := 6) hT 31 rfl rfl kr kr kr rfl (.load rfl (hfld_39 hT rfl rfl)) rfl (.reg 44 rfl (v := .int .i64 ((i - 1 : Nat) : Int)) (int_eq (by rw [wrap_i64 (by omega) (by omega)]; omega)) (.index (fuel := 5) hT 35 rfl kr kr kr rfl rfl rfl rfl hr (by omega) (by rw [Int.toNat_natCast]; exact hu) rfl (fun ad_45 hel_45 => ?_))))
            obtain ⟨eb_45, eo_45, rfl, hfld_45, hfls_45⟩ := Go.Pl.El.at2 (P := Try.prog) hel_45
            refine AT.takes (fuel := 4) hT [36] kr kr rfl (.take (fuel := 3) hT 37 rfl rfl kr kr kr rfl (.load rfl (hfld_45 hT rfl rfl)) rfl (.takes (fuel := 0) hT [38, 39, 40] kr kr rfl (.done kr sl (.seq (.cond rfl (fun c50 => ?_) (fun c50 => ?_))))))
            ·
              have c50 := of_decide_eq_true c50
              refine TT.seq (.region (.pures hT 1 rfl (.nil (.seq (.ret (.of (rs := [.tmp 2]) [_] hs rfl (.tmp rfl .nil) sl ?_))))))
              dsimp only [one]
              exact ⟨congrArg Value.bool (decide_eq_false (fun h => by have := h.adj hiu (by rw [show i - 1 + 1 = i by omega]; exact hit); have : u.no < t.no := this; omega)).symm, rfl⟩
            ·
              have c50 := of_decide_eq_false c50
              refine TT.skip (.blk (.seq (.region (.pures hT 3 rfl (.nil (.loop (i + 1) ?_ ?_ (SubR.cons rfl (SubR.cons' rfl (by (try dsimp only); exact (int_eq (by rw [wrap_i64 (by omega) (by omega)]; omega))) (SubR.nil _))) sl))))))
              · exact ⟨by omega, hp.step hit ⟨by show 0 ≤ t.no; omega, by show t.no < 96; omega⟩ g33 fun j y hj hy => by
                  have : j = i - 1 := by omega
                  subst this
                  rw [hiu] at hy
                  obtain rfl := Option.some.inj hy
                  show u.no < t.no; omega⟩
              · omega
          ·
            have g36 := of_decide_eq_false g36
            refine AT.takes (fuel := 0) hT [27, 28, 29, 30, 31, 32, 33, 34, 35, 36, 37, 38, 39, 40] kr kr rfl (.done kr sl (.seq (.cond_false rfl (.skip (.blk (.seq (.region (.pures hT 3 rfl (.nil (.loop (i + 1) ?_ ?_ (SubR.cons rfl (SubR.cons' rfl (by (try dsimp only); exact (int_eq (by rw [wrap_i64 (by omega) (by omega)]; omega))) (SubR.nil _))) sl))))))))))
            · exact ⟨by omega, hp.step hit ⟨by show 0 ≤ t.no; omega, by show t.no < 96; omega⟩ g33 fun j y hj hy => by omega⟩
            · omega
  ·
    have c7 := of_decide_eq_false c7
    obtain rfl : i = ts.length := by omega
    refine TT.exit (.seq (.loop (.here (.seq (.seq (.region (.pures hT 4 rfl (.split 54 rfl (fun g54 => ?_) (fun g54 => ?_)))))))))
    ·
      have g54 := of_decide_eq_true g54
      refine OT.pures hT 5 rfl (.nil (.seq (.ret (.of (rs := [.tmp 2]) [_] hs rfl (.tmp rfl .nil) sl ?_))))
      dsimp only [one]
      refine ⟨congrArg Value.bool (decide_eq_decide.2 ⟨fun h => MayTo.all (by rw [imgs_length]; exact hp) (by rw [imgs_length]; omega), fun h => ?_⟩), rfl⟩
      have := h.few
      rw [imgs_length] at this; omega
    ·
      have g54 := of_decide_eq_false g54
      refine OT.pures hT 5 rfl (.nil (.seq (.ret (.of (rs := [.tmp 2]) [_] hs rfl (.tmp rfl .nil) sl ?_))))
      dsimp only [one]
      exact ⟨congrArg Value.bool (decide_eq_false (fun h => by have := h.pos; rw [imgs_length] at this; omega)).symm, rfl⟩

end Go.Proofs.Ytnhkgchcdbideaa.Sx
end

section
namespace Go.Proofs.Ytnhkgchcdbideaa.Sx
open Go Go.Sx Go.Pl
variable [Outer]

theorem guard_CheckB {b : Bool} {e : Int} {hs : List Chunk} : FunP Try.prog 49 [.bool b, .int .i64 e] hs (fun v' hs' => b = true ∧ v' = .tuple ⟨[]⟩ ∧ hs = hs') (fun v' hs' => b = false ∧ v' = flt (brk e) ∧ hs = hs') := by
  cases b with
  | true => exact (FunP.of guard_Check).mono (fun _ _ h => ⟨rfl, h⟩) fun _ _ h => h
  | false => exact guard_Fails.mono (fun _ _ h => h.1.elim) fun _ _ h => ⟨rfl, h⟩

omit [Outer] in
theorem brk_same {e : Int} (h : e ≠ 0) : brk e = e := by unfold brk; rw [if_neg h]

set_option maxHeartbeats 1000000 in
set_option maxRecDepth 100000 in
theorem cow_page {ti : Nat} {ui : Value} {I : Chunk → Prop} {E : Int → Chunk → Prop} {Q : Pages} {H : Chunk} {r : List Chunk} (hP : Pgs Try.prog 5 (.iface ti ui) I E (pgOf Q)) (hI : I H) {no : Int} (hno : mayPage no) : FunP Try.prog 50 [(.iface ti ui), .int .i64 no] (H :: r) (fun v' hs' => ∃ H' K, hs' = H' :: K :: r ∧ Own Go.Sx.encB 1 5 v' (Q no) K ∧ I H') (fun v' hs' => ∃ e H', v' = flt e ∧ e ≠ 0 ∧ E e H' ∧ hs' = H' :: r) := by
  refine FunP.enter 21 Try.func50 rfl Try.ntmps50 rfl ?_
  have hno2 := hno
  unfold mayPage at hno2
  refine TT.seq (.region (.pures hT 1 rfl (.nil (.seq (.seq (.region (.pures hT 2 rfl (.call Try.call49 rfl rfl rfl rfl (guard_Check) ?_))))))))
  rintro v_9 hs_9 ⟨rfl, rfl⟩
  refine OT.nil (.seq (.seq (.region (.pures hT 2 rfl (.page hP rfl rfl rfl rfl pl hI (by omega) (by omega) (fun H_13 K_13 w_13 e_13 bs_13 ho_13 hq_13 => ?_))))))
  refine OT.pures hT 5 rfl (.nil (.seq (.seq (.region (.pures hT 3 rfl ?_)))))
  refine OT.callP Try.call49 rfl rfl rfl rfl (guard_CheckB) (fun _ _ h => by
    obtain ⟨hb, rfl, rfl⟩ := h
    have hb := beq_eq_false_iff_ne.1 hb
    rcases hq_13 with ⟨h, _⟩ | ⟨_, _, ⟨h, _⟩ | h⟩
    · exact absurd h hb
    · unfold pgOf at h; rw [if_pos hno] at h; exact absurd h.symm hb
    · exact PP.of ⟨e_13, H_13, by rw [brk_same hb], hb, h, rfl⟩ sl) ?_
  rintro v_19 hs_19 ⟨hb, rfl, rfl⟩
  have hb := beq_iff_eq.1 hb
  rcases hq_13 with ⟨_, h, hI1⟩ | ⟨h, _⟩
  rotate_left
  · exact absurd hb h
  unfold pgOf at h
  rw [if_pos hno] at h
  cases h
  refine OT.nil (.seq (.seq (.region (.pures hT 2 rfl (.nil (.seq (.ret (.ofP (rs := [.tmp 4]) [_] (H_13 :: K_13 :: r) rfl (.tmp rfl .nil) sl ?_))))))))
  dsimp only [one]
  exact ⟨_, _, rfl, ho_13, hI1⟩

set_option maxHeartbeats 1000000 in
set_option maxRecDepth 100000 in
theorem cow_read {ti : Nat} {ui : Value} {I : Chunk → Prop} {E : Int → Chunk → Prop} {Q : Pages} {H : Chunk} {r : List Chunk} (hP : Pgs Try.prog 5 (.iface ti ui) I E (pgOf Q)) (hI : I H) {n : Int} {xs : List Snap} (hd : decodeS (Q 0) = ((n, xs), 0)) (hl : (Q 0).length = 256) : FunP Try.prog 43 [(.iface ti ui)] (H :: r) (fun v' hs' => ∃ H' w HS, v' = .agg ⟨[.int .i64 n, w]⟩ ∧ hs' = H' :: HS :: r ∧ Own encSnap 35 45 w xs HS ∧ I H') (fun v' hs' => ∃ e H', v' = flt e ∧ e ≠ 0 ∧ E e H' ∧ hs' = H' :: r) := by
  refine FunP.enter 16 Try.func43 rfl Try.ntmps43 rfl ?_
  refine TT.seq (.region (.alloc Try.zeroValue31 rfl rfl (fun b_2 => ?_)))
  refine OT.nil (.seq (.seq (.region (.pures hT 1 rfl ?_))))
  refine OT.callP Try.call50 rfl rfl rfl rfl (FunP.pull pl (cow_page hP hI (no := 0) (by unfold mayPage; omega))) (fun _ _ h => by
    obtain ⟨e, H', rfl, h1, h2, rfl⟩ := h
    exact PP.of ⟨e, H', rfl, h1, h2, rfl⟩ sl) ?_
  rintro v_7 hs_7 ⟨H1, K1, rfl, ho1, hI1⟩
  refine OT.call Try.call24 rfl rfl rfl rfl (cat_Decode (ho1.row.there) (by omega)) ?_
  rintro v_8 hs_8 ⟨w8, HS, rfl, rfl, hoS⟩
  rw [hd] at hoS ⊢
  dsimp only at hoS
  obtain ⟨a8, c8, hw8⟩ := (hoS.row (hs := [])).len
  subst hw8
  refine OT.pures hT 3 rfl (.alloc Try.zeroValue31 rfl rfl (fun b_3 => ?_))
  refine OT.store_all hT rfl rfl rfl rfl pl rfl rfl rfl (.inl (Nat.le_refl _)) ?_
  refine OT.pures hT 1 rfl (.nil (.seq (.seq (.region (.pures hT 3 rfl (.call Try.call49 rfl rfl rfl rfl (guard_Check) ?_))))))
  rintro v_14 hs_14 ⟨rfl, rfl⟩
  refine OT.nil (.seq (.seq (.region (.load rfl rfl (Ld.struct_all hT rfl hz rfl) rfl ?_))))
  refine OT.store_all hT rfl rfl rfl rfl pl rfl rfl rfl (.inl (Nat.le_refl _)) ?_
  refine OT.nil (.seq (.ret (.ofP (rs := [.cell 2 31]) [_] (H1 :: HS :: r) rfl (.cell rfl (Ld.struct_all hT rfl hz rfl) .nil) sl ?_)))
  dsimp only [one]
  exact ⟨H1, _, HS, rfl, rfl, hoS, hI1⟩

omit [Outer] in
/-- a view's chunk, above what it stands on -/
def ViewI (bv ti : Nat) (ui : Value) (s : Snap) (I : Chunk → Prop) (HV : Chunk) : Prop := ∃ H, HV = [(bv, blk (.iface ti ui :: encSnap s) 162 (0, 0))] ++ H ∧ I H

omit [Outer] in
theorem view_at {P : Value} {s : Snap} {n : Nat} {x : Int} (h : s.map[n]? = some x) : (P :: encSnap s)[0 + 1 + 3 + (n : Int).toNat * 1]? = some (.int .i64 x) := by
  have := snap_at h
  rw [show 0 + 1 + 3 + (n : Int).toNat * 1 = (0 + 3 + (n : Int).toNat * 1) + 1 by omega, List.getElem?_cons_succ]
  exact this

omit [Outer] in
theorem PgRes.view {bv ti : Nat} {ui : Value} {s : Snap} {I : Chunk → Prop} {E : Int → Chunk → Prop} {x : Int × List UInt8} {e : Int} {bs : List UInt8} {H : Chunk} (h : PgRes I E x e bs H) : PgRes (ViewI bv ti ui s I) (fun e => ViewI bv ti ui s (E e)) x e bs ([(bv, blk (.iface ti ui :: encSnap s) 162 (0, 0))] ++ H) := by
  rcases h with ⟨h1, h2, h3⟩ | ⟨h1, h2, ⟨h3, h4⟩ | h3⟩
  · exact .inl ⟨h1, h2, H, rfl, h3⟩
  · exact .inr ⟨h1, h2, .inl ⟨h3, H, rfl, h4⟩⟩
  · exact .inr ⟨h1, h2, .inr ⟨H, rfl, h3⟩⟩

set_option maxHeartbeats 1000000 in
set_option maxRecDepth 100000 in
theorem view_Page {bv ti : Nat} {ui : Value} {s : Snap} {I : Chunk → Prop} {E : Int → Chunk → Prop} {pg : Int → Int × List UInt8} {H : Chunk} {r : List Chunk} (hP : Pgs Try.prog 5 (.iface ti ui) I E pg) (hI : I H) (h35 : (encSnap s).length = 35) (hsd : s.side) {no : Int} (h1 : -9223372036854775808 ≤ no) (h2 : no ≤ 9223372036854775807) : Fun Try.prog 116 [.pointer (some ⟨bv, 0, none⟩), .int .i64 no] (([(bv, blk (.iface ti ui :: encSnap s) 162 (0, 0))] ++ H) :: r) (fun v' hs' => ∃ H' K w e bs, hs' = H' :: K :: r ∧ v' = .tuple ⟨[w, .int .i64 e]⟩ ∧ Own Go.Sx.encB 1 5 w bs K ∧ PgRes (ViewI bv ti ui s I) (fun e => ViewI bv ti ui s (E e)) (viewPg s pg no) e bs H') := by
  refine Fun.enter 47 Try.func116 rfl Try.ntmps116 rfl ?_
  have h32 := map32 h35
  refine TT.split (.seq (.region (.pures hT 2 rfl (.nil (.seq (.seq (.block (.seq (.region (.pures hT 3 rfl (.pures hT 3 rfl (.load rfl rfl (Ld.one hT rfl hz rfl) rfl ?_))))))))))))
  refine OT.pures hT 3 rfl (.nil (.seq (.cond_false rfl (.seq (.region (.pures hT 3 rfl (.split 19 rfl (fun g19 => ?_) (fun g19 => ?_))))))))
  ·
    have g19 := of_decide_eq_true g19
    refine OT.pures hT 4 rfl (.nil (.seq (.cond_true rfl (.seq (.region (.pures hT 2 rfl (.nil (.seq (.ret (.of (rs := [.tmp 4, .tmp 5]) [_, _] (([(bv, blk (.iface ti ui :: encSnap s) 162 (0, 0))] ++ H) :: [] :: r) rfl (.tmp rfl (.tmp rfl .nil)) sl ?_))))))))))
    dsimp only [one]
    exact ⟨[(bv, blk (.iface ti ui :: encSnap s) 162 (0, 0))] ++ H, [], _, 3, [], rfl, rfl, Own.nil, .inr ⟨by decide, rfl, .inl ⟨by unfold viewPg; rw [if_pos (by omega)], H, rfl, hI⟩⟩⟩
  ·
    have g19 := of_decide_eq_false g19
    refine OT.pures hT 4 rfl (.nil (.seq (.cond rfl (fun c16 => ?_) (fun c16 => ?_))))
    ·
      have c16 := of_decide_eq_true c16
      refine TT.seq (.region (.pures hT 2 rfl (.nil (.seq (.ret (.of (rs := [.tmp 4, .tmp 5]) [_, _] (([(bv, blk (.iface ti ui :: encSnap s) 162 (0, 0))] ++ H) :: [] :: r) rfl (.tmp rfl (.tmp rfl .nil)) sl ?_))))))
      dsimp only [one]
      exact ⟨[(bv, blk (.iface ti ui :: encSnap s) 162 (0, 0))] ++ H, [], _, 3, [], rfl, rfl, Own.nil, .inr ⟨by decide, rfl, .inl ⟨by unfold viewPg; rw [if_pos (by omega)], H, rfl, hI⟩⟩⟩
    ·
      have c16 := of_decide_eq_false c16
      obtain ⟨n, rfl⟩ : ∃ n : Nat, no = n := ⟨no.toNat, by omega⟩
      obtain ⟨x, hx⟩ := nth (l := s.map) (i := n) (by omega)
      have hxs := hsd x (List.mem_of_getElem? hx)
      refine TT.seq (.region (.pures hT 5 rfl (.index_at hT rfl rfl rfl rfl (by omega) (by omega) rfl (.load rfl rfl (Ld.one hT rfl hz (view_at hx)) rfl ?_))))
      refine OT.pures hT 2 rfl (.nil (.seq (.cond rfl (fun c23 => ?_) (fun c23 => ?_))))
      ·
        have c23 := bne_iff_ne.1 c23
        refine TT.region (.pures hT 5 rfl (.index_at hT rfl rfl rfl rfl (by omega) (by omega) rfl (.load rfl rfl (Ld.one hT rfl hz (view_at hx)) rfl ?_)))
        refine OT.pures hT 1 rfl (.nil (.blk (.seq (.seq (.region (.pures hT 3 rfl (.load rfl rfl (Ld.one hT rfl hz rfl) rfl ?_)))))))
        refine OT.pures hT 1 rfl (.page hP rfl rfl rfl rfl pl hI (by omega) (by omega) (fun H_44 K_44 w_44 e_44 bs_44 ho_44 hq_44 => ?_))
        refine OT.pures hT 4 rfl (.nil (.seq (.ret (.of (rs := [.tmp 4, .tmp 5]) [_, _] (([(bv, blk (.iface ti ui :: encSnap s) 162 (0, 0))] ++ H_44) :: K_44 :: r) rfl (.tmp rfl (.tmp rfl .nil)) sl ?_))))
        dsimp only [one]
        have hv : viewPg s pg (n : Nat) = pg x := by unfold viewPg viewNo; rw [if_neg (by omega), Snap.at_some hx]; rw [if_pos c23]
        exact ⟨_, K_44, _, _, _, rfl, rfl, ho_44, by rw [hv]; exact PgRes.view hq_44⟩
      ·
        have c23 := bne_eq_false_iff_eq.1 c23
        refine TT.skip (.blk (.seq (.seq (.region (.pures hT 3 rfl (.load rfl rfl (Ld.one hT rfl hz rfl) rfl ?_))))))
        refine OT.pures hT 1 rfl (.page hP rfl rfl rfl rfl pl hI (by omega) (by omega) (fun H_44 K_44 w_44 e_44 bs_44 ho_44 hq_44 => ?_))
        refine OT.pures hT 4 rfl (.nil (.seq (.ret (.of (rs := [.tmp 4, .tmp 5]) [_, _] (([(bv, blk (.iface ti ui :: encSnap s) 162 (0, 0))] ++ H_44) :: K_44 :: r) rfl (.tmp rfl (.tmp rfl .nil)) sl ?_))))
        dsimp only [one]
        have hv : viewPg s pg (n : Nat) = pg (n : Nat) := by unfold viewPg viewNo; rw [if_neg (by omega), Snap.at_some hx]; rw [if_neg (fun h => h c23)]
        exact ⟨_, K_44, _, _, _, rfl, rfl, ho_44, by rw [hv]; exact PgRes.view hq_44⟩

theorem view_Pgs {bv ti : Nat} {ui : Value} {s : Snap} {I : Chunk → Prop} {E : Int → Chunk → Prop} {pg : Int → Int × List UInt8} (hP : Pgs Try.prog 5 (.iface ti ui) I E pg) (h35 : (encSnap s).length = 35) (hsd : s.side) : Pgs Try.prog 5 (.iface 153 (.pointer (some ⟨bv, 0, none⟩))) (ViewI bv ti ui s I) (fun e => ViewI bv ti ui s (E e)) (viewPg s pg) :=
  ⟨153, _, 116, .pointer (some ⟨bv, 0, none⟩), rfl, fun w => by kernel_rfl, Try.call116, fun no HV r h1 h2 ⟨H, e, hI⟩ => by subst e; exact view_Page hP hI h35 hsd h1 h2⟩

end Go.Proofs.Ytnhkgchcdbideaa.Sx
end

section
namespace Go.Proofs.Ytnhkgchcdbideaa.Sx
open Go Go.Sx Go.Pl
variable [Outer]

set_option maxHeartbeats 1000000 in
set_option maxRecDepth 100000 in
theorem shown_Page {b : Nat} {Q : Pages} {H : Chunk} {r : List Chunk} (hB : BkAt 28 b Q H) {s : Snap} (h35 : (encSnap s).length = 35) (hsd : s.side) {no : Int} : Fun Try.prog 18 [.agg ⟨(.pointer (some ⟨b, 0, none⟩) :: encSnap s)⟩, .int .i64 no] (H :: r) (fun v' hs' => ∃ K w, hs' = H :: K :: r ∧ v' = .tuple ⟨[w, .int .i64 (viewPg s (pgOf Q) no).1]⟩ ∧ Own Go.Sx.encB 1 5 w (viewPg s (pgOf Q) no).2 K) := by
  refine Fun.enter 34 Try.func18 rfl Try.ntmps18 rfl ?_
  have h32 := map32 h35
  refine TT.seq (.region (.box rfl rfl rfl (fun b_2 => ?_)))
  refine OT.pures hT 2 rfl (.nil (.seq (.seq (.seq (.region (.pures hT 3 rfl (.split 8 rfl (fun g8 => ?_) (fun g8 => ?_))))))))
  ·
    have g8 := of_decide_eq_true g8
    refine OT.pures hT 3 rfl (.nil (.seq (.cond_true rfl (.seq (.region (.pures hT 2 rfl (.nil (.seq (.ret (.of (rs := [.tmp 4, .tmp 5]) [_, _] (H :: [] :: r) rfl (.tmp rfl (.tmp rfl .nil)) sl ?_))))))))))
    dsimp only [one]
    have hv : (viewPg s (pgOf Q) no) = (3, []) := by unfold viewPg; rw [if_pos (by omega)]
    exact ⟨[], _, rfl, by rw [hv], by rw [hv]; exact Own.nil⟩
  ·
    have g8 := of_decide_eq_false g8
    refine OT.pures hT 3 rfl (.nil (.seq (.cond rfl (fun c11 => ?_) (fun c11 => ?_))))
    ·
      have c11 := of_decide_eq_true c11
      refine TT.seq (.region (.pures hT 2 rfl (.nil (.seq (.ret (.of (rs := [.tmp 4, .tmp 5]) [_, _] (H :: [] :: r) rfl (.tmp rfl (.tmp rfl .nil)) sl ?_))))))
      dsimp only [one]
      have hv : (viewPg s (pgOf Q) no) = (3, []) := by unfold viewPg; rw [if_pos (by omega)]
      exact ⟨[], _, rfl, by rw [hv], by rw [hv]; exact Own.nil⟩
    ·
      have c11 := of_decide_eq_false c11
      obtain ⟨n, rfl⟩ : ∃ n : Nat, no = n := ⟨no.toNat, by omega⟩
      obtain ⟨x, hx⟩ := nth (l := s.map) (i := n) (by omega)
      have hxs := hsd x (List.mem_of_getElem? hx)
      refine TT.skip (.seq (.seq (.seq (.region (.pures hT 3 rfl (.index_at hT rfl rfl rfl rfl (by omega) (by omega) rfl (.load rfl rfl (Ld.one hT rfl hz (view_at hx)) rfl ?_)))))))
      refine OT.pures hT 1 rfl (.nil (.seq (.cond rfl (fun c17 => ?_) (fun c17 => ?_))))
      ·
        have c17 := bne_iff_ne.1 c17
        refine TT.seq (.draw (([(b_2, blk (.pointer (some ⟨b, 0, none⟩) :: encSnap s) 47 (0, 0))] :: r)) mixed (.takes (fuel := 8) hT [0, 2, 3, 4] kr kr rfl (.take (fuel := 7) hT 1 rfl rfl kr kr kr rfl (.load rfl (Ld.one hT rfl hz rfl)) rfl ?_)))
        refine AT.index_at (fuel := 6) hT 5 rfl kr kr kr rfl rfl rfl rfl (by omega) (by omega) rfl (.take (fuel := 5) hT 6 rfl rfl kr kr kr rfl (.load rfl (Ld.one hT rfl hz (view_at hx))) rfl ?_)
        refine AT.op (fuel := 4) 7 kr rfl sl (.call Try.call23 rfl rfl rfl rfl (Fun.pull pl (book_Page hB)) ?_)
        rintro v_25 hs_25 ⟨K_25, w_25, rfl, rfl, ho_25⟩
        refine OT.nil (.any (.takes (fuel := 0) hT [8, 9, 10, 11] kr kr rfl (.done kr sl (.seq (.ret (.of (rs := [.tmp 4, .tmp 5]) [_, _] (H :: K_25 :: r) rfl (.tmp rfl (.tmp rfl .nil)) sl ?_))))))
        dsimp only [one]
        have hv : viewPg s (pgOf Q) (n : Nat) = pgOf Q x := by unfold viewPg viewNo; rw [if_neg (by omega), Snap.at_some hx]; rw [if_pos c17]
        exact ⟨K_25, _, rfl, by rw [hv], by rw [hv]; exact ho_25⟩
      ·
        have c17 := bne_eq_false_iff_eq.1 c17
        refine TT.skip (.seq (.seq (.region (.pures hT 1 rfl (.load rfl rfl (Ld.one hT rfl hz rfl) rfl ?_)))))
        refine OT.pures hT 1 rfl (.call Try.call23 rfl rfl rfl rfl (Fun.pull pl (book_Page hB)) ?_)
        rintro v_31 hs_31 ⟨K_31, w_31, rfl, rfl, ho_31⟩
        refine OT.pures hT 4 rfl (.nil (.seq (.ret (.of (rs := [.tmp 4, .tmp 5]) [_, _] (H :: K_31 :: r) rfl (.tmp rfl (.tmp rfl .nil)) sl ?_))))
        dsimp only [one]
        have hv : viewPg s (pgOf Q) (n : Nat) = pgOf Q (n : Nat) := by unfold viewPg viewNo; rw [if_neg (by omega), Snap.at_some hx]; rw [if_neg (fun h => h c17)]
        exact ⟨K_31, _, rfl, by rw [hv], by rw [hv]; exact ho_31⟩

theorem shown_PgsI {b : Nat} {Q : Pages} {s : Snap} {I : Chunk → Prop} (hI : ∀ H, I H → BkAt 28 b Q H) (h35 : (encSnap s).length = 35) (hsd : s.side) : Pgs Try.prog 5 (.iface 47 (.agg ⟨(.pointer (some ⟨b, 0, none⟩) :: encSnap s)⟩)) I (fun _ _ => False) (viewPg s (pgOf Q)) :=
  ⟨47, _, 18, _, rfl, fun w => by kernel_rfl, Try.call18, fun no H r _ _ hB => (shown_Page (hI H hB) h35 hsd).mono fun v' hs' ⟨K, w, h1, h2, h3⟩ => ⟨H, K, w, _, _, h1, h2, h3, by
    by_cases hm : (viewPg s (pgOf Q) no).1 = 0
    · exact .inl ⟨hm, by rw [← hm], hB⟩
    · refine .inr ⟨hm, ?_, .inl ⟨rfl, hB⟩⟩
      unfold viewPg pgOf at hm ⊢
      split
      · rfl
      · rename_i h1; rw [if_neg h1] at hm; split
        · rename_i h2; rw [if_pos h2] at hm; exact absurd rfl hm
        · rfl⟩⟩

theorem shown_Pgs {b : Nat} {Q : Pages} {s : Snap} (h35 : (encSnap s).length = 35) (hsd : s.side) : Pgs Try.prog 5 (.iface 47 (.agg ⟨(.pointer (some ⟨b, 0, none⟩) :: encSnap s)⟩)) (BkAt 28 b Q) (fun _ _ => False) (viewPg s (pgOf Q)) := shown_PgsI (fun _ h => h) h35 hsd
omit [Outer] in
theorem used_ok {I : Chunk → Prop} {x : Int × List UInt8} {no e : Int} {b : Bool} {H : Chunk} (h : UsRes I (fun _ _ => False) x no b e H) (hx : x.1 = 0) (hl : x.2.length = 256) : b = hasB x.2 no ∧ I H := by
  have hw : whole256 x = x := by unfold whole256; rw [if_neg (by rw [hx]; simp), if_neg (by rw [hl]; simp)]
  rcases h with ⟨_, _, h1, h2⟩ | ⟨h0, _, h1 | h1⟩
  · rw [hw] at h1; exact ⟨h1, h2⟩
  · rw [hw, hx] at h1; exact absurd h1.1.symm h0
  · exact h1.elim

set_option maxHeartbeats 4000000 in
set_option maxRecDepth 100000 in
theorem law21_data {v : Value} {ts : List Raw} {hs hs0 : List Chunk} (hi : RawsAt hs0 v ts) (hsub : ∀ b o, Has hs0 b o → Has hs b o) : Fun Try.prog 13 [v] hs (fun v' hs' => ∃ K E, hs' = K :: E :: hs ∧ MixAt 66 hs0 v' (dataL (rawImgs ts 8)) K E) := by
  refine Fun.enter 65 Try.func13 rfl Try.ntmps13 rfl ?_
  refine TT.seq (.region (.pures hT 1 rfl (.nil (.seq (.seq (.region (.pures hT 1 rfl (.nil (.seq (.seq (.region (.pures hT 1 rfl (.call Try.call39 rfl rfl rfl rfl (law16_Images (n := 8) hi hsub (by decide)) ?_)))))))))))))
  rintro v_7 hs_7 ⟨K0, E, rfl, hM0⟩
  obtain ⟨us, hus, hK, hE⟩ := hM0.is
  obtain ⟨a7, c7, hv7⟩ := (hK.row (hs := [])).len
  subst hv7
  have hul : us.length ≤ 8 := by rw [← imgs_length, hus]; unfold rawImgs; rw [List.length_map, List.length_take]; omega
  refine OT.pures hT 1 rfl (.nil (.seq (.seq (.seq (.region (.pures hT 1 rfl (.nil (.seq (.block (.chunk0 (.loop (ι := Nat × Value × Chunk) (fun j => (j.1) ≤ us.length ∧ ∃ os, imgs os = dataL ((imgs us).take (j.1)) ∧ Own encIm 2 66 (j.2.1) os (j.2.2) ∧ ∀ t ∈ os, Row Go.Sx.encB 1 (E :: hs0) t.v t.b) (fun j => us.length - (j.1)) (fun j => [(3, (j.2.1)), (4, .slice a7 us.length c7), (5, .int .i64 ((j.1) : Nat))]) (fun j => (j.2.2) :: K0 :: E :: hs) (0, .slice none 0 0, []) ?_ (SubR.cons rfl (SubR.cons rfl (SubR.cons rfl (SubR.nil _)))) sl ?_)))))))))))
  · dsimp only
    exact ⟨by omega, [], rfl, Own.nil, by simp⟩
  rintro ⟨i, w, K⟩ hI
  dsimp only at hI
  obtain ⟨hin, hM⟩ := hI
  show TT _ _ _ [(3, w), (4, .slice a7 us.length c7), (5, .int .i64 (i : Nat))] (K :: K0 :: E :: hs)
  refine TT.seq (.seq (.region (.pures hT 4 rfl (.nil (.seq (.cond rfl (fun c11 => ?_) (fun c11 => ?_)))))))
  ·
    have c11 := of_decide_eq_true c11
    obtain ⟨t, ht⟩ := nth (l := us) (i := i) (by omega)
    have hmem := List.mem_of_getElem? ht
    obtain ⟨os, hos, hOw, hOr⟩ := hM
    obtain ⟨aw, cw, hw⟩ := (hOw.row (hs := [])).len
    subst hw
    obtain ⟨ab, cb, hvb⟩ := (hE t hmem).len
    have hol : os.length ≤ i := by have := dataL_len ((imgs us).take i); rw [← imgs_length, hos]; rw [List.length_take] at this; omega
    refine TT.skip (.seq (.seq (.block (.seq (.draw ((K :: K0 :: E :: hs)) mixed (.takes (fuel := 41) hT [0, 1] kr kr rfl (.index (fuel := 40) hT 2 rfl kr kr kr rfl rfl rfl rfl (hK.row.mono fun b o hb => Has.sel sl hb) (by omega) (by exact ht) rfl (fun ad_16 hel_16 => ?_))))))))
    obtain ⟨eb_16, eo_16, rfl, hfld_16, hfls_16⟩ := Go.Pl.El.at2 (P := Try.prog) hel_16
    refine AT.takes (fuel := 39) hT [3] kr kr rfl (.take (fuel := 38) hT 4 rfl rfl kr kr kr rfl (.load rfl (hfld_16 hT rfl rfl)) rfl (.takes (fuel := 36) hT [5, 6] kr kr rfl (.split 20 rfl (fun g20 => ?_) (fun g20 => ?_))))
    ·
      have g20 := of_decide_eq_true g20
      refine AT.takes (fuel := 34) hT [7, 8] kr kr rfl (.index (fuel := 33) hT 9 rfl kr kr kr rfl rfl rfl rfl (hK.row.mono fun b o hb => Has.sel sl hb) (by omega) (by exact ht) rfl (fun ad_23 hel_23 => ?_))
      obtain ⟨eb_23, eo_23, rfl, hfld_23, hfls_23⟩ := Go.Pl.El.at2 (P := Try.prog) hel_23
      refine AT.takes (fuel := 32) hT [10] kr kr rfl (.take (fuel := 31) hT 11 rfl rfl kr kr kr rfl (.load rfl (hfld_23 hT rfl rfl)) rfl (.takes (fuel := 28) hT [12, 13, 14] kr kr rfl (.split 28 rfl (fun g28 => ?_) (fun g28 => ?_))))
      ·
        have g28 := of_decide_eq_true g28
        refine AT.takes (fuel := 26) hT [15, 16] kr kr rfl (.index (fuel := 25) hT 17 rfl kr kr kr rfl rfl rfl rfl (hK.row.mono fun b o hb => Has.sel sl hb) (by omega) (by exact ht) rfl (fun ad_31 hel_31 => ?_))
        obtain ⟨eb_31, eo_31, rfl, hfld_31, hfls_31⟩ := Go.Pl.El.at2 (P := Try.prog) hel_31
        refine AT.takes (fuel := 24) hT [18] kr kr rfl (.take (fuel := 23) hT 19 rfl rfl kr kr kr rfl (.load rfl (hfls_31 hT rfl (by unfold encIm; rw [hvb]; rfl))) rfl ?_)
        refine AT.takes (fuel := 19) hT [20, 21, 22, 23] kr kr rfl (.split 37 rfl (fun g37 => ?_) (fun g37 => ?_))
        ·
          have g37 := beq_iff_eq.1 g37
          refine AT.takes (fuel := 15) hT [24, 25, 26, 27] kr kr rfl (.split 41 rfl (fun g41 => ?_) (fun g41 => ?_))
          ·
            have g41 := beq_iff_eq.1 g41
            refine AT.takes (fuel := 0) hT [28, 29, 30, 31, 32, 33, 34, 35, 36, 37, 38, 39, 40, 41, 42] kr kr rfl (.done kr sl (.seq (.cond_true rfl (.region (.pures hT 3 rfl (.index hT rfl rfl rfl rfl (hK.row.mono fun b o hb => Has.sel sl hb) (by omega) (by rw [Int.toNat_natCast]; exact ht) rfl (fun ad_60 hel_60 => ?_)))))))
            refine OT.load rfl rfl (hel_60.ld_struct hT rfl) rfl ?_
            refine OT.buildSlice (enc := encIm) (xs := [t]) (xos := [.tmp 61]) el37 rfl rfl rfl rfl rfl (by simp [Value.cells]; rfl) (fun _ _ => rfl) rfl (by decide) rfl (fun v_62 H_62 ho_62 => ?_)
            refine OT.append hT el37 rfl rfl rfl rfl pl hOw ro (by show ones ([t].flatMap encIm) = true; unfold encIm; rw [List.flatMap_singleton, hvb]; rfl) (by simp only [List.length_cons, List.length_nil]; omega) rfl (fun v_63 H_63 ho_63 => ?_)
            refine OT.pures hT 1 rfl (.nil (.blk (.seq (.region (.pures hT 3 rfl (.nil (.loop (i + 1, v_63, H_63) ?_ ?_ (SubR.cons rfl (SubR.cons rfl (SubR.cons' rfl (by (try dsimp only); exact (int_eq (by rw [wrap_i64 (by omega) (by omega)]; omega))) (SubR.nil _)))) sl)))))))
            · dsimp only
              refine ⟨by omega, os ++ [t], ?_, ho_63, fun u hu => ?_⟩
              · rw [dataL_succ (imgs_at ht), imgs_append, hos]
                unfold dataStep
                rw [if_pos ?_]
                · rfl
                · unfold okAfter Im.img
                  rw [decide_eq_true (show 1 ≤ t.no by omega), decide_eq_true (show t.no < 32 by omega), decide_eq_true (show t.b.length = 256 by omega)]
                  rw [show (dataL ((imgs us).take i)).getLast? = none by rw [← hos, List.getLast?_eq_none_iff, ← List.length_eq_zero_iff, imgs_length]; omega]
                  rfl
              · rcases List.mem_append.1 hu with hu | hu
                · exact hOr u hu
                · rw [List.mem_singleton] at hu; subst hu; exact hE u hmem
            · dsimp only
              omega
          ·
            have g41 := beq_eq_false_iff_ne.1 g41
            obtain ⟨u, hu⟩ := nth (l := os) (i := os.length - 1) (by omega)
            refine AT.takes (fuel := 9) hT [28, 29, 33, 34, 35, 36] kr kr rfl (.index (fuel := 8) hT 30 rfl kr kr kr rfl rfl rfl rfl (hK.row.mono fun b o hb => Has.sel sl hb) (by omega) (by exact ht) rfl (fun ad_44 hel_44 => ?_))
            obtain ⟨eb_44, eo_44, rfl, hfld_44, hfls_44⟩ := Go.Pl.El.at2 (P := Try.prog) hel_44
            refine AT.takes (fuel := 7) hT [31] kr kr rfl (.take (fuel := 6) hT 32 rfl rfl kr kr kr rfl (.load rfl (hfld_44 hT rfl rfl)) rfl (.reg 50 rfl (v := .int .i64 ((os.length - 1 : Nat) : Int)) (int_eq (by rw [wrap_i64 (by omega) (by omega)]; omega)) (.index (fuel := 5) hT 37 rfl kr kr kr rfl rfl rfl rfl (hOw.row.mono fun b o hb => Has.sel sl hb) (by omega) (by rw [Int.toNat_natCast]; exact hu) rfl (fun ad_51 hel_51 => ?_))))
            obtain ⟨eb_51, eo_51, rfl, hfld_51, hfls_51⟩ := Go.Pl.El.at2 (P := Try.prog) hel_51
            refine AT.takes (fuel := 4) hT [38] kr kr rfl (.take (fuel := 3) hT 39 rfl rfl kr kr kr rfl (.load rfl (hfld_51 hT rfl rfl)) rfl (.takes (fuel := 0) hT [40, 41, 42] kr kr rfl (.done kr sl (.seq (.cond rfl (fun c56 => ?_) (fun c56 => ?_))))))
            ·
              have c56 := of_decide_eq_true c56
              refine TT.region (.pures hT 3 rfl (.index hT rfl rfl rfl rfl (hK.row.mono fun b o hb => Has.sel sl hb) (by omega) (by rw [Int.toNat_natCast]; exact ht) rfl (fun ad_60 hel_60 => ?_)))
              refine OT.load rfl rfl (hel_60.ld_struct hT rfl) rfl ?_
              refine OT.buildSlice (enc := encIm) (xs := [t]) (xos := [.tmp 61]) el37 rfl rfl rfl rfl rfl (by simp [Value.cells]; rfl) (fun _ _ => rfl) rfl (by decide) rfl (fun v_62 H_62 ho_62 => ?_)
              refine OT.append hT el37 rfl rfl rfl rfl pl hOw ro (by show ones ([t].flatMap encIm) = true; unfold encIm; rw [List.flatMap_singleton, hvb]; rfl) (by simp only [List.length_cons, List.length_nil]; omega) rfl (fun v_63 H_63 ho_63 => ?_)
              refine OT.pures hT 1 rfl (.nil (.blk (.seq (.region (.pures hT 3 rfl (.nil (.loop (i + 1, v_63, H_63) ?_ ?_ (SubR.cons rfl (SubR.cons rfl (SubR.cons' rfl (by (try dsimp only); exact (int_eq (by rw [wrap_i64 (by omega) (by omega)]; omega))) (SubR.nil _)))) sl)))))))
              · dsimp only
                refine ⟨by omega, os ++ [t], ?_, ho_63, fun u hu => ?_⟩
                · rw [dataL_succ (imgs_at ht), imgs_append, hos]
                  unfold dataStep
                  rw [if_pos ?_]
                  · rfl
                  · unfold okAfter Im.img
                    rw [decide_eq_true (show 1 ≤ t.no by omega), decide_eq_true (show t.no < 32 by omega), decide_eq_true (show t.b.length = 256 by omega)]
                    rw [show (dataL ((imgs us).take i)).getLast? = some u.img by rw [← hos, List.getLast?_eq_getElem?, imgs_length, imgs_at hu]]
                    show (true && (true && (true && decide (u.no < t.no)))) = true
                    rw [decide_eq_true (show u.no < t.no by omega)]
                    rfl
                · rcases List.mem_append.1 hu with hu | hu
                  · exact hOr u hu
                  · rw [List.mem_singleton] at hu; subst hu; exact hE u hmem
              · dsimp only
                omega
            ·
              have c56 := of_decide_eq_false c56
              refine TT.skip (.blk (.seq (.region (.pures hT 3 rfl (.nil (.loop (i + 1, .slice aw os.length cw, K) ?_ ?_ (SubR.cons rfl (SubR.cons rfl (SubR.cons' rfl (by (try dsimp only); exact (int_eq (by rw [wrap_i64 (by omega) (by omega)]; omega))) (SubR.nil _)))) sl))))))
              · dsimp only
                refine ⟨by omega, os, ?_, hOw, hOr⟩
                rw [dataL_succ (imgs_at ht), hos]
                unfold dataStep
                rw [if_neg (fun h => ?_)]
                unfold okAfter at h
                rw [Bool.and_eq_true, Bool.and_eq_true, Bool.and_eq_true, decide_eq_true_eq, decide_eq_true_eq, decide_eq_true_eq] at h
                obtain ⟨x1, x2, x3, x4⟩ := h
                unfold Im.img at x1 x2 x3 x4
                dsimp only at x1 x2 x3
                rw [show (dataL ((imgs us).take i)).getLast? = some u.img by rw [← hos, List.getLast?_eq_getElem?, imgs_length, imgs_at hu]] at x4
                have x4 := of_decide_eq_true x4
                unfold Im.img at x4
                dsimp only at x4
                omega
              · dsimp only
                omega
        ·
          have g37 := beq_eq_false_iff_ne.1 g37
          refine AT.takes (fuel := 0) hT [24, 25, 26, 27, 28, 29, 30, 31, 32, 33, 34, 35, 36, 37, 38, 39, 40, 41, 42] kr kr rfl (.done kr sl (.seq (.cond_false rfl (.skip (.blk (.seq (.region (.pures hT 3 rfl (.nil (.loop (i + 1, .slice aw os.length cw, K) ?_ ?_ (SubR.cons rfl (SubR.cons rfl (SubR.cons' rfl (by (try dsimp only); exact (int_eq (by rw [wrap_i64 (by omega) (by omega)]; omega))) (SubR.nil _)))) sl))))))))))
          · dsimp only
            refine ⟨by omega, os, ?_, hOw, hOr⟩
            rw [dataL_succ (imgs_at ht), hos]
            unfold dataStep
            rw [if_neg (fun h => ?_)]
            unfold okAfter at h
            rw [Bool.and_eq_true, Bool.and_eq_true, Bool.and_eq_true, decide_eq_true_eq, decide_eq_true_eq, decide_eq_true_eq] at h
            obtain ⟨x1, x2, x3, x4⟩ := h
            unfold Im.img at x1 x2 x3 x4
            dsimp only at x1 x2 x3
            omega
          · dsimp only
            omega
      ·
        have g28 := of_decide_eq_false g28
        refine AT.takes (fuel := 0) hT [15, 16, 17, 18, 19, 20, 21, 22, 23, 24, 25, 26, 27, 28, 29, 30, 31, 32, 33, 34, 35, 36, 37, 38, 39, 40, 41, 42] kr kr rfl (.done kr sl (.seq (.cond_false rfl (.skip (.blk (.seq (.region (.pures hT 3 rfl (.nil (.loop (i + 1, .slice aw os.length cw, K) ?_ ?_ (SubR.cons rfl (SubR.cons rfl (SubR.cons' rfl (by (try dsimp only); exact (int_eq (by rw [wrap_i64 (by omega) (by omega)]; omega))) (SubR.nil _)))) sl))))))))))
        · dsimp only
          refine ⟨by omega, os, ?_, hOw, hOr⟩
          rw [dataL_succ (imgs_at ht), hos]
          unfold dataStep
          rw [if_neg (fun h => ?_)]
          unfold okAfter at h
          rw [Bool.and_eq_true, Bool.and_eq_true, Bool.and_eq_true, decide_eq_true_eq, decide_eq_true_eq, decide_eq_true_eq] at h
          obtain ⟨x1, x2, x3, x4⟩ := h
          unfold Im.img at x1 x2 x3 x4
          dsimp only at x1 x2 x3
          omega
        · dsimp only
          omega
    ·
      have g20 := of_decide_eq_false g20
      refine AT.takes (fuel := 0) hT [7, 8, 9, 10, 11, 12, 13, 14, 15, 16, 17, 18, 19, 20, 21, 22, 23, 24, 25, 26, 27, 28, 29, 30, 31, 32, 33, 34, 35, 36, 37, 38, 39, 40, 41, 42] kr kr rfl (.done kr sl (.seq (.cond_false rfl (.skip (.blk (.seq (.region (.pures hT 3 rfl (.nil (.loop (i + 1, .slice aw os.length cw, K) ?_ ?_ (SubR.cons rfl (SubR.cons rfl (SubR.cons' rfl (by (try dsimp only); exact (int_eq (by rw [wrap_i64 (by omega) (by omega)]; omega))) (SubR.nil _)))) sl))))))))))
      · dsimp only
        refine ⟨by omega, os, ?_, hOw, hOr⟩
        rw [dataL_succ (imgs_at ht), hos]
        unfold dataStep
        rw [if_neg (fun h => ?_)]
        unfold okAfter at h
        rw [Bool.and_eq_true, Bool.and_eq_true, Bool.and_eq_true, decide_eq_true_eq, decide_eq_true_eq, decide_eq_true_eq] at h
        obtain ⟨x1, x2, x3, x4⟩ := h
        unfold Im.img at x1 x2 x3 x4
        dsimp only at x1 x2 x3
        omega
      · dsimp only
        omega
  ·
    have c11 := of_decide_eq_false c11
    rw [List.take_of_length_le (by rw [imgs_length]; omega)] at hM
    refine TT.exit (.seq (.loop (.here (.seq (.seq (.region (.pures hT 2 rfl (.nil (.seq (.ret (.of (rs := [.tmp 2]) [_] (K :: E :: hs) rfl (.tmp rfl .nil) sl ?_)))))))))))
    dsimp only [one]
    obtain ⟨os, h1, h2, h3⟩ := hM
    exact ⟨K, E, rfl, os, by rw [h1, hus], h2, h3⟩

end Go.Proofs.Ytnhkgchcdbideaa.Sx
end

section
namespace Go.Proofs.Ytnhkgchcdbideaa.Sx
open Go Go.Sx Go.Pl
variable [Outer]

omit [Outer] in
theorem z65 : ∀ w, (zeroValue 135).run Try.prog w = .ok (.agg ⟨Lb (List.replicate 96 false)⟩) w := by
  intro w
  have e : Try.zeroCells135 = ⟨Lb (List.replicate 96 false)⟩ := by kernel_rfl
  rw [← e]
  exact Try.zeroValue135 w

set_option maxHeartbeats 4000000 in
set_option maxRecDepth 100000 in
theorem ref_MayCat {next : Int} {v : Value} {xs : List Snap} {hs : List Chunk} (hr : Row encSnap 35 hs v xs) (hl : xs.length ≤ 1073741824) : Fun Try.prog 55 [.agg ⟨[.int .i64 next, v]⟩] hs (fun v' hs' => v' = .bool (refMay next xs) ∧ hs = hs') := by
  refine Fun.enter 114 Try.func55 rfl Try.ntmps55 rfl ?_
  obtain ⟨a0, c0, hv⟩ := hr.len
  subst hv
  refine TT.seq ?_
  refine TT.region ?_
  refine OT.box rfl rfl rfl (fun b_1 => ?_)
  refine OT.pures hT 1 rfl ?_
  refine OT.nil ?_
  refine KT.seq ?_
  refine TT.seq ?_
  refine TT.seq ?_
  refine TT.region ?_
  refine OT.pures hT 1 rfl ?_
  refine OT.load rfl rfl (Ld.one hT rfl (by repeat (first | exact Has.one | apply Has.there)) rfl) rfl ?_
  refine OT.pures hT 2 rfl ?_
  refine OT.split 12 rfl (fun g12 => ?_) (fun g12 => ?_)
  ·
    have g12 := of_decide_eq_true g12
    refine OT.pures hT 10 rfl ?_
    refine OT.nil ?_
    refine KT.seq ?_
    refine TT.cond_true rfl ?_
    refine TT.seq ?_
    refine TT.region ?_
    refine OT.pures hT 1 rfl ?_
    refine OT.nil ?_
    refine KT.seq ?_
    refine TT.ret ?_
    refine RT.of (rs := [.tmp 2]) [_] hs rfl (.tmp rfl .nil) (by repeat (first | exact Sel.refl _ | refine Sel.empty ?_ | refine Sel.pull (by repeat (first | exact Pull.head | apply Pull.tail)) ?_ | refine Sel.drop ?_)) ?_
    dsimp only [one]
    exact ⟨by unfold refMay; rw [if_pos (by omega)], rfl⟩
  ·
    have g12 := of_decide_eq_false g12
    refine OT.pures hT 1 rfl ?_
    refine OT.load rfl rfl (Ld.one hT rfl (by repeat (first | exact Has.one | apply Has.there)) rfl) rfl ?_
    refine OT.pures hT 3 rfl ?_
    refine OT.split 17 rfl (fun g17 => ?_) (fun g17 => ?_)
    ·
      have g17 := of_decide_eq_true g17
      refine OT.pures hT 5 rfl ?_
      refine OT.nil ?_
      refine KT.seq ?_
      refine TT.cond_true rfl ?_
      refine TT.seq ?_
      refine TT.region ?_
      refine OT.pures hT 1 rfl ?_
      refine OT.nil ?_
      refine KT.seq ?_
      refine TT.ret ?_
      refine RT.of (rs := [.tmp 2]) [_] hs rfl (.tmp rfl .nil) (by repeat (first | exact Sel.refl _ | refine Sel.empty ?_ | refine Sel.pull (by repeat (first | exact Pull.head | apply Pull.tail)) ?_ | refine Sel.drop ?_)) ?_
      dsimp only [one]
      exact ⟨by unfold refMay; rw [if_pos (by omega)], rfl⟩
    ·
      have g17 := of_decide_eq_false g17
      refine OT.pures hT 1 rfl ?_
      refine OT.load rfl rfl (Ld.slc hT rfl (by repeat (first | exact Has.one | apply Has.there)) rfl) rfl ?_
      refine OT.pures hT 3 rfl ?_
      refine OT.nil ?_
      refine KT.seq ?_
      refine TT.cond rfl (fun c22 => ?_) (fun c22 => ?_)
      ·
        have c22 := of_decide_eq_true c22
        refine TT.seq ?_
        refine TT.region ?_
        refine OT.pures hT 1 rfl ?_
        refine OT.nil ?_
        refine KT.seq ?_
        refine TT.ret ?_
        refine RT.of (rs := [.tmp 2]) [_] hs rfl (.tmp rfl .nil) (by repeat (first | exact Sel.refl _ | refine Sel.empty ?_ | refine Sel.pull (by repeat (first | exact Pull.head | apply Pull.tail)) ?_ | refine Sel.drop ?_)) ?_
        dsimp only [one]
        exact ⟨by unfold refMay; rw [if_pos (by omega)], rfl⟩
      ·
        have c22 := of_decide_eq_false c22
        have hp : refOut next xs 0 (List.replicate 96 false) xs = refMay next xs := by unfold refMay; rw [if_neg (by omega)]
        refine TT.skip ?_
        refine KT.seq ?_
        refine TT.seq ?_
        refine TT.region ?_
        refine OT.alloc z65 rfl rfl (fun b_3 => ?_)
        refine OT.nil ?_
        refine KT.seq ?_
        refine TT.seq ?_
        refine TT.seq ?_
        refine TT.region ?_
        refine OT.pures hT 1 rfl ?_
        refine OT.nil ?_
        refine KT.seq ?_
        refine TT.block ?_
        refine TT.loop (ι := Nat × (List Bool)) (fun j => (j.1) ≤ xs.length ∧ (j.2).length = 96 ∧ refOut next xs (j.1) (j.2) (xs.drop (j.1)) = refMay next xs) (fun j => xs.length - (j.1)) (fun j => [(1, .pointer (some ⟨b_1, 0, none⟩)), (3, .pointer (some ⟨b_3, 0, none⟩)), (4, .int .i64 ((j.1) : Nat))]) (fun j => [(b_3, blk (Lb (j.2)) 135 (0, 0))] :: [(b_1, blk [.int .i64 next, .slice a0 xs.length c0] 74 (0, 0))] :: hs) (0, List.replicate 96 false) ?_ (SubR.cons rfl (SubR.cons rfl (SubR.cons rfl (SubR.nil _)))) (by repeat (first | exact Sel.refl _ | refine Sel.empty ?_ | refine Sel.pull (by repeat (first | exact Pull.head | apply Pull.tail)) ?_ | refine Sel.drop ?_)) ?_
        · dsimp only
          exact ⟨by omega, by simp, hp⟩
        rintro ⟨i, L⟩ hI
        dsimp only at hI
        obtain ⟨hi, hL, hp⟩ := hI
        show TT _ _ _ [(1, .pointer (some ⟨b_1, 0, none⟩)), (3, .pointer (some ⟨b_3, 0, none⟩)), (4, .int .i64 (i : Nat))] ([(b_3, blk (Lb L) 135 (0, 0))] :: [(b_1, blk [.int .i64 next, .slice a0 xs.length c0] 74 (0, 0))] :: hs)
        refine TT.seq ?_
        refine TT.seq ?_
        refine TT.region ?_
        refine OT.pures hT 2 rfl ?_
        refine OT.load rfl rfl (Ld.slc hT rfl (by repeat (first | exact Has.one | apply Has.there)) rfl) rfl ?_
        refine OT.pures hT 2 rfl ?_
        refine OT.nil ?_
        refine KT.seq ?_
        refine TT.cond rfl (fun c27 => ?_) (fun c27 => ?_)
        ·
          have c27 := of_decide_eq_true c27
          obtain ⟨s, hy⟩ := nth (l := xs) (i := i) (by omega)
          rw [drop_cons hy, refOut] at hp
          have h35 := hr.1 s (List.mem_of_getElem? hy)
          have h32 := map32 h35
          obtain ⟨m0, hm0⟩ := nth (l := s.map) (i := 0) (by omega)
          have hh0 : s.map.head? = some m0 := by rw [List.head?_eq_getElem?]; exact hm0
          refine TT.skip ?_
          refine KT.seq ?_
          refine TT.seq ?_
          refine TT.block ?_
          refine TT.seq ?_
          refine TT.region ?_
          refine OT.pures hT 1 rfl ?_
          refine OT.load rfl rfl (Ld.slc hT rfl (by repeat (first | exact Has.one | apply Has.there)) rfl) rfl ?_
          refine OT.pures hT 1 rfl ?_
          refine OT.index hT rfl rfl rfl rfl hr.there.there (by omega) hy rfl (fun ad_33 hel_33 => ?_)
          refine OT.load rfl rfl (hel_33.ld_struct hT rfl) rfl ?_
          refine OT.alloc Try.zeroValue45 rfl rfl (fun b_5 => ?_)
          refine OT.store_all hT rfl rfl rfl rfl (by repeat (first | exact Pull.head | apply Pull.tail)) (by exact h35) rfl (ones_snap s) (.inl (Nat.le_refl _)) ?_
          refine OT.nil ?_
          refine KT.seq ?_
          refine TT.seq ?_
          refine TT.seq ?_
          refine TT.draw ([(b_5, blk (encSnap s) 45 (0, 0))] :: [(b_3, blk (Lb L) 135 (0, 0))] :: [(b_1, blk [.int .i64 next, .slice a0 xs.length c0] 74 (0, 0))] :: hs) mixed ?_
          refine AT.takes (fuel := 37) hT [0] (by kernel_rfl) (by kernel_rfl) rfl ?_
          refine AT.take (fuel := 36) hT 1 rfl rfl (by kernel_rfl) (by kernel_rfl) (by kernel_rfl) rfl (.load rfl (Ld.one hT rfl (by repeat (first | exact Has.one | apply Has.there)) rfl)) rfl ?_
          refine AT.op (fuel := 35) 2 (by kernel_rfl) rfl (by repeat (first | exact Sel.refl _ | refine Sel.empty ?_ | refine Sel.pull (by repeat (first | exact Pull.head | apply Pull.tail)) ?_ | refine Sel.drop ?_)) ?_
          refine OT.call Try.call75 rfl rfl rfl rfl (ref_Name) ?_
          rintro v_37 hs_37 ⟨rfl, rfl⟩
          refine OT.nil ?_
          refine KT.any ?_
          refine AT.takes (fuel := 33) hT [3, 4] (by kernel_rfl) (by kernel_rfl) rfl ?_
          refine AT.split 39 rfl (fun g39 => ?_) (fun g39 => ?_)
          ·
            have g39 : nameB s.name = false := by simpa using g39
            refine AT.takes (fuel := 0) hT [5, 6, 7, 8, 9, 10, 11, 12, 13, 14, 15, 16, 17, 18, 19, 20, 21, 22, 23, 24, 25, 26, 27, 28, 29, 30, 31, 32, 33, 34, 35, 36, 37] (by kernel_rfl) (by kernel_rfl) rfl ?_
            refine AT.done (by kernel_rfl) (by repeat (first | exact Sel.refl _ | refine Sel.empty ?_ | refine Sel.pull (by repeat (first | exact Pull.head | apply Pull.tail)) ?_ | refine Sel.drop ?_)) ?_
            refine KT.seq ?_
            refine TT.cond_true rfl ?_
            refine TT.seq ?_
            refine TT.region ?_
            refine OT.pures hT 1 rfl ?_
            refine OT.nil ?_
            refine KT.seq ?_
            refine TT.ret ?_
            refine RT.of (rs := [.tmp 2]) [_] hs rfl (.tmp rfl .nil) (by repeat (first | exact Sel.refl _ | refine Sel.empty ?_ | refine Sel.pull (by repeat (first | exact Pull.head | apply Pull.tail)) ?_ | refine Sel.drop ?_)) ?_
            dsimp only [one]
            rw [if_pos (.inl g39)] at hp
            exact ⟨by rw [← hp], rfl⟩
          ·
            have g39 : nameB s.name = true := by simpa using g39
            refine AT.takes (fuel := 32) hT [5] (by kernel_rfl) (by kernel_rfl) rfl ?_
            refine AT.take (fuel := 31) hT 6 rfl rfl (by kernel_rfl) (by kernel_rfl) (by kernel_rfl) rfl (.load rfl (Ld.one hT rfl (by repeat (first | exact Has.one | apply Has.there)) rfl)) rfl ?_
            refine AT.takes (fuel := 28) hT [7, 8, 9] (by kernel_rfl) (by kernel_rfl) rfl ?_
            refine AT.split 44 rfl (fun g44 => ?_) (fun g44 => ?_)
            ·
              have g44 := of_decide_eq_true g44
              refine AT.takes (fuel := 0) hT [10, 11, 12, 13, 14, 15, 16, 17, 18, 19, 20, 21, 22, 23, 24, 25, 26, 27, 28, 29, 30, 31, 32, 33, 34, 35, 36, 37] (by kernel_rfl) (by kernel_rfl) rfl ?_
              refine AT.done (by kernel_rfl) (by repeat (first | exact Sel.refl _ | refine Sel.empty ?_ | refine Sel.pull (by repeat (first | exact Pull.head | apply Pull.tail)) ?_ | refine Sel.drop ?_)) ?_
              refine KT.seq ?_
              refine TT.cond_true rfl ?_
              refine TT.seq ?_
              refine TT.region ?_
              refine OT.pures hT 1 rfl ?_
              refine OT.nil ?_
              refine KT.seq ?_
              refine TT.ret ?_
              refine RT.of (rs := [.tmp 2]) [_] hs rfl (.tmp rfl .nil) (by repeat (first | exact Sel.refl _ | refine Sel.empty ?_ | refine Sel.pull (by repeat (first | exact Pull.head | apply Pull.tail)) ?_ | refine Sel.drop ?_)) ?_
              dsimp only [one]
              rw [if_pos (.inr (.inl g44))] at hp
              exact ⟨by rw [← hp], rfl⟩
            ·
              have g44 := of_decide_eq_false g44
              refine AT.takes (fuel := 26) hT [10, 12] (by kernel_rfl) (by kernel_rfl) rfl ?_
              refine AT.take (fuel := 25) hT 11 rfl rfl (by kernel_rfl) (by kernel_rfl) (by kernel_rfl) rfl (.load rfl (Ld.one hT rfl (by repeat (first | exact Has.one | apply Has.there)) rfl)) rfl ?_
              refine AT.take (fuel := 24) hT 13 rfl rfl (by kernel_rfl) (by kernel_rfl) (by kernel_rfl) rfl (.load rfl (Ld.one hT rfl (by repeat (first | exact Has.one | apply Has.there)) rfl)) rfl ?_
              refine AT.takes (fuel := 21) hT [14, 15, 16] (by kernel_rfl) (by kernel_rfl) rfl ?_
              refine AT.split 51 rfl (fun g51 => ?_) (fun g51 => ?_)
              ·
                have g51 := of_decide_eq_true g51
                refine AT.takes (fuel := 0) hT [17, 18, 19, 20, 21, 22, 23, 24, 25, 26, 27, 28, 29, 30, 31, 32, 33, 34, 35, 36, 37] (by kernel_rfl) (by kernel_rfl) rfl ?_
                refine AT.done (by kernel_rfl) (by repeat (first | exact Sel.refl _ | refine Sel.empty ?_ | refine Sel.pull (by repeat (first | exact Pull.head | apply Pull.tail)) ?_ | refine Sel.drop ?_)) ?_
                refine KT.seq ?_
                refine TT.cond_true rfl ?_
                refine TT.seq ?_
                refine TT.region ?_
                refine OT.pures hT 1 rfl ?_
                refine OT.nil ?_
                refine KT.seq ?_
                refine TT.ret ?_
                refine RT.of (rs := [.tmp 2]) [_] hs rfl (.tmp rfl .nil) (by repeat (first | exact Sel.refl _ | refine Sel.empty ?_ | refine Sel.pull (by repeat (first | exact Pull.head | apply Pull.tail)) ?_ | refine Sel.drop ?_)) ?_
                dsimp only [one]
                rw [if_pos (.inr (.inr (.inl g51)))] at hp
                exact ⟨by rw [← hp], rfl⟩
              ·
                have g51 := of_decide_eq_false g51
                refine AT.takes (fuel := 18) hT [17, 18, 19] (by kernel_rfl) (by kernel_rfl) rfl ?_
                refine AT.split 54 rfl (fun g54 => ?_) (fun g54 => ?_)
                ·
                  have g54 := of_decide_eq_true g54
                  obtain ⟨p, hpp⟩ := nth (l := xs) (i := i - 1) (by omega)
                  refine AT.takes (fuel := 14) hT [20, 22, 24, 25] (by kernel_rfl) (by kernel_rfl) rfl ?_
                  refine AT.take (fuel := 13) hT 21 rfl rfl (by kernel_rfl) (by kernel_rfl) (by kernel_rfl) rfl (.load rfl (Ld.one hT rfl (by repeat (first | exact Has.one | apply Has.there)) rfl)) rfl ?_
                  refine AT.take (fuel := 12) hT 23 rfl rfl (by kernel_rfl) (by kernel_rfl) (by kernel_rfl) rfl (.load rfl (Ld.slc hT rfl (by repeat (first | exact Has.one | apply Has.there)) rfl)) rfl ?_
                  refine AT.index (fuel := 11) hT 26 rfl (by kernel_rfl) (by kernel_rfl) (by kernel_rfl) rfl rfl rfl rfl hr.there.there.there (by rw [wrap_i64 (by omega) (by omega)]; omega) (by rw [wrap_i64 (by omega) (by omega), show ((i : Int) - 1).toNat = i - 1 by omega]; exact hpp) rfl (fun ad_61 hel_61 => ?_)
                  obtain ⟨eb_61, eo_61, rfl, hfld_61⟩ := hel_61.at (P := Try.prog)
                  refine AT.takes (fuel := 10) hT [27] (by kernel_rfl) (by kernel_rfl) rfl ?_
                  refine AT.take (fuel := 9) hT 28 rfl rfl (by kernel_rfl) (by kernel_rfl) (by kernel_rfl) rfl (.load rfl (hfld_61 hT rfl rfl)) rfl ?_
                  refine AT.takes (fuel := 5) hT [29, 30, 31, 32] (by kernel_rfl) (by kernel_rfl) rfl ?_
                  refine AT.split 67 rfl (fun g67 => ?_) (fun g67 => ?_)
                  ·
                    have g67 := of_decide_eq_true g67
                    refine AT.takes (fuel := 0) hT [33, 34, 35, 36, 37] (by kernel_rfl) (by kernel_rfl) rfl ?_
                    refine AT.done (by kernel_rfl) (by repeat (first | exact Sel.refl _ | refine Sel.empty ?_ | refine Sel.pull (by repeat (first | exact Pull.head | apply Pull.tail)) ?_ | refine Sel.drop ?_)) ?_
                    refine KT.seq ?_
                    refine TT.cond_true rfl ?_
                    refine TT.seq ?_
                    refine TT.region ?_
                    refine OT.pures hT 1 rfl ?_
                    refine OT.nil ?_
                    refine KT.seq ?_
                    refine TT.ret ?_
                    refine RT.of (rs := [.tmp 2]) [_] hs rfl (.tmp rfl .nil) (by repeat (first | exact Sel.refl _ | refine Sel.empty ?_ | refine Sel.pull (by repeat (first | exact Pull.head | apply Pull.tail)) ?_ | refine Sel.drop ?_)) ?_
                    dsimp only [one]
                    rw [if_pos (.inr (.inr (.inr (.inl ⟨by omega, p, hpp, g67⟩))))] at hp
                    exact ⟨by rw [← hp], rfl⟩
                  ·
                    have g67 := of_decide_eq_false g67
                    refine AT.takes (fuel := 4) hT [33] (by kernel_rfl) (by kernel_rfl) rfl ?_
                    refine AT.index_at (fuel := 3) hT 34 rfl (by kernel_rfl) (by kernel_rfl) (by kernel_rfl) rfl rfl rfl rfl (by decide) (by decide) rfl ?_
                    refine AT.take (fuel := 2) hT 35 rfl rfl (by kernel_rfl) (by kernel_rfl) (by kernel_rfl) rfl (.load rfl (Ld.one hT rfl Has.one (snap_at (i := 0) hm0))) rfl ?_
                    refine AT.takes (fuel := 0) hT [36, 37] (by kernel_rfl) (by kernel_rfl) rfl ?_
                    refine AT.done (by kernel_rfl) (by repeat (first | exact Sel.refl _ | refine Sel.empty ?_ | refine Sel.pull (by repeat (first | exact Pull.head | apply Pull.tail)) ?_ | refine Sel.drop ?_)) ?_
                    refine KT.seq ?_
                    refine TT.cond rfl (fun c72 => ?_) (fun c72 => ?_)
                    ·
                      have c72 : ¬ m0 = 0 := by simpa using c72
                      refine TT.seq ?_
                      refine TT.region ?_
                      refine OT.pures hT 1 rfl ?_
                      refine OT.nil ?_
                      refine KT.seq ?_
                      refine TT.ret ?_
                      refine RT.of (rs := [.tmp 2]) [_] hs rfl (.tmp rfl .nil) (by repeat (first | exact Sel.refl _ | refine Sel.empty ?_ | refine Sel.pull (by repeat (first | exact Pull.head | apply Pull.tail)) ?_ | refine Sel.drop ?_)) ?_
                      dsimp only [one]
                      rw [if_pos (.inr (.inr (.inr (.inr (by rw [hh0]; intro h; exact c72 (Option.some.inj h))))))] at hp
                      exact ⟨by rw [← hp], rfl⟩
                    ·
                      have c72 : m0 = 0 := by simpa using c72
                      refine TT.skip ?_
                      refine KT.seq ?_
                      refine TT.seq ?_
                      refine TT.seq ?_
                      refine TT.region ?_
                      refine OT.pures hT 1 rfl ?_
                      have hno : ¬ (nameB s.name = false ∨ s.id < 1 ∨ next < s.id ∨ (0 < i ∧ ∃ p, xs[i - 1]? = some p ∧ s.id ≤ p.id) ∨ s.map.head? ≠ some 0) := by
                        rintro (h | h | h | ⟨h, q, hq, hq2⟩ | h)
                        · rw [g39] at h; cases h
                        · omega
                        · omega
                        · first | omega | (rw [hpp] at hq; obtain rfl := Option.some.inj hq; omega)
                        · rw [hh0, c72] at h; exact h rfl
                      rw [if_neg hno] at hp
                      refine OT.nil ?_
                      refine KT.seq ?_
                      refine TT.block ?_
                      refine TT.loop (ι := Nat) (fun j => (j) ≤ i ∧ (xs.take (j)).any (named s.name) = false) (fun j => i - (j)) (fun j => [(1, .pointer (some ⟨b_1, 0, none⟩)), (3, .pointer (some ⟨b_3, 0, none⟩)), (4, .int .i64 (i : Nat)), (5, .pointer (some ⟨b_5, 0, none⟩)), (6, .int .i64 ((j) : Nat))]) (fun j => [(b_5, blk (encSnap s) 45 (0, 0))] :: [(b_3, blk (Lb L) 135 (0, 0))] :: [(b_1, blk [.int .i64 next, .slice a0 xs.length c0] 74 (0, 0))] :: hs) (0) ?_ (SubR.cons rfl (SubR.cons rfl (SubR.cons rfl (SubR.cons rfl (SubR.cons rfl (SubR.nil _)))))) (by repeat (first | exact Sel.refl _ | refine Sel.empty ?_ | refine Sel.pull (by repeat (first | exact Pull.head | apply Pull.tail)) ?_ | refine Sel.drop ?_)) ?_
                      · exact ⟨by omega, by simp⟩
                      rintro k ⟨hk, hany⟩
                      show TT _ _ _ [(1, .pointer (some ⟨b_1, 0, none⟩)), (3, .pointer (some ⟨b_3, 0, none⟩)), (4, .int .i64 (i : Nat)), (5, .pointer (some ⟨b_5, 0, none⟩)), (6, .int .i64 (k : Nat))] ([(b_5, blk (encSnap s) 45 (0, 0))] :: [(b_3, blk (Lb L) 135 (0, 0))] :: [(b_1, blk [.int .i64 next, .slice a0 xs.length c0] 74 (0, 0))] :: hs)
                      refine TT.seq ?_
                      refine TT.seq ?_
                      refine TT.region ?_
                      refine OT.pures hT 3 rfl ?_
                      refine OT.nil ?_
                      refine KT.seq ?_
                      refine TT.cond rfl (fun c75 => ?_) (fun c75 => ?_)
                      ·
                        have c75 := of_decide_eq_true c75
                        obtain ⟨q, hq⟩ := nth (l := xs) (i := k) (by omega)
                        refine TT.skip ?_
                        refine KT.seq ?_
                        refine TT.seq ?_
                        refine TT.block ?_
                        refine TT.seq ?_
                        refine TT.draw ([(b_5, blk (encSnap s) 45 (0, 0))] :: [(b_3, blk (Lb L) 135 (0, 0))] :: [(b_1, blk [.int .i64 next, .slice a0 xs.length c0] 74 (0, 0))] :: hs) mixed ?_
                        refine AT.takes (fuel := 6) hT [0, 2, 6] (by kernel_rfl) (by kernel_rfl) rfl ?_
                        refine AT.take (fuel := 5) hT 1 rfl rfl (by kernel_rfl) (by kernel_rfl) (by kernel_rfl) rfl (.load rfl (Ld.slc hT rfl (by repeat (first | exact Has.one | apply Has.there)) rfl)) rfl ?_
                        refine AT.take (fuel := 4) hT 7 rfl rfl (by kernel_rfl) (by kernel_rfl) (by kernel_rfl) rfl (.load rfl (Ld.one hT rfl (by repeat (first | exact Has.one | apply Has.there)) rfl)) rfl ?_
                        refine AT.index (fuel := 3) hT 3 rfl (by kernel_rfl) (by kernel_rfl) (by kernel_rfl) rfl rfl rfl rfl hr.there.there.there (by omega) hq rfl (fun ad_81 hel_81 => ?_)
                        obtain ⟨eb_81, eo_81, rfl, hfld_81⟩ := hel_81.at (P := Try.prog)
                        refine AT.takes (fuel := 2) hT [4] (by kernel_rfl) (by kernel_rfl) rfl ?_
                        refine AT.take (fuel := 1) hT 5 rfl rfl (by kernel_rfl) (by kernel_rfl) (by kernel_rfl) rfl (.load rfl (hfld_81 hT rfl rfl)) rfl ?_
                        refine AT.takes (fuel := 0) hT [8] (by kernel_rfl) (by kernel_rfl) rfl ?_
                        refine AT.done (by kernel_rfl) (by repeat (first | exact Sel.refl _ | refine Sel.empty ?_ | refine Sel.pull (by repeat (first | exact Pull.head | apply Pull.tail)) ?_ | refine Sel.drop ?_)) ?_
                        refine KT.seq ?_
                        refine TT.cond rfl (fun c86 => ?_) (fun c86 => ?_)
                        ·
                          have c86 : named s.name q = true := c86
                          refine TT.seq ?_
                          refine TT.region ?_
                          refine OT.pures hT 1 rfl ?_
                          refine OT.nil ?_
                          refine KT.seq ?_
                          refine TT.ret ?_
                          refine RT.of (rs := [.tmp 2]) [_] hs rfl (.tmp rfl .nil) (by repeat (first | exact Sel.refl _ | refine Sel.empty ?_ | refine Sel.pull (by repeat (first | exact Pull.head | apply Pull.tail)) ?_ | refine Sel.drop ?_)) ?_
                          dsimp only [one]
                          have hany2 : (xs.take i).any (named s.name) = true := List.any_eq_true.2 ⟨q, List.mem_of_getElem? (i := k) (by rw [List.getElem?_take, if_pos (by omega)]; exact hq), c86⟩
                          rw [if_pos hany2] at hp
                          exact ⟨by rw [← hp], rfl⟩
                        ·
                          have c86 : named s.name q = false := c86
                          refine TT.skip ?_
                          refine KT.blk ?_
                          refine KT.seq ?_
                          refine TT.region ?_
                          refine OT.pures hT 3 rfl ?_
                          refine OT.nil ?_
                          refine KT.loop (k + 1) ?_ ?_ (SubR.cons rfl (SubR.cons rfl (SubR.cons rfl (SubR.cons rfl (SubR.cons' rfl (by (try dsimp only); exact (int_eq (by rw [wrap_i64 (by omega) (by omega)]; omega))) (SubR.nil _)))))) (by repeat (first | exact Sel.refl _ | refine Sel.empty ?_ | refine Sel.pull (by repeat (first | exact Pull.head | apply Pull.tail)) ?_ | refine Sel.drop ?_))
                          · refine ⟨by omega, ?_⟩
                            rw [take_succ hq, List.any_append, hany, Bool.false_or]
                            simpa using c86
                          · omega
                      ·
                        have c75 := of_decide_eq_false c75
                        have hki : k = i := by omega
                        subst hki
                        rw [if_neg (by rw [hany]; decide)] at hp
                        refine TT.exit ?_
                        refine XT.seq ?_
                        refine XT.loop ?_
                        refine XT.here ?_
                        refine KT.seq ?_
                        refine TT.seq ?_
                        refine TT.region ?_
                        refine OT.pures hT 1 rfl ?_
                        refine OT.nil ?_
                        refine KT.seq ?_
                        refine TT.block ?_
                        refine TT.loop (ι := Nat × (List Bool)) (fun j => 1 ≤ (j.1) ∧ (j.1) ≤ 32 ∧ (j.2).length = 96 ∧ (match refIn s.inv (s.map.drop (j.1)) (j.2) with | none => false | some seen' => refOut next xs (k + 1) seen' (xs.drop (k + 1))) = refMay next xs) (fun j => 32 - (j.1)) (fun j => [(1, .pointer (some ⟨b_1, 0, none⟩)), (3, .pointer (some ⟨b_3, 0, none⟩)), (4, .int .i64 (k : Nat)), (5, .pointer (some ⟨b_5, 0, none⟩)), (7, .int .i64 ((j.1) : Nat))]) (fun j => [(b_3, blk (Lb (j.2)) 135 (0, 0))] :: [(b_5, blk (encSnap s) 45 (0, 0))] :: [(b_1, blk [.int .i64 next, .slice a0 xs.length c0] 74 (0, 0))] :: hs) (1, L) ?_ (SubR.cons rfl (SubR.cons rfl (SubR.cons rfl (SubR.cons rfl (SubR.cons rfl (SubR.nil _)))))) (by repeat (first | exact Sel.refl _ | refine Sel.empty ?_ | refine Sel.pull (by repeat (first | exact Pull.head | apply Pull.tail)) ?_ | refine Sel.drop ?_)) ?_
                        · dsimp only
                          exact ⟨by omega, by omega, hL, hp⟩
                        rintro ⟨k2, L2⟩ hI
                        dsimp only at hI
                        obtain ⟨hk1, hk2, hL2, hp⟩ := hI
                        show TT _ _ _ [(1, .pointer (some ⟨b_1, 0, none⟩)), (3, .pointer (some ⟨b_3, 0, none⟩)), (4, .int .i64 (k : Nat)), (5, .pointer (some ⟨b_5, 0, none⟩)), (7, .int .i64 (k2 : Nat))] ([(b_3, blk (Lb L2) 135 (0, 0))] :: [(b_5, blk (encSnap s) 45 (0, 0))] :: [(b_1, blk [.int .i64 next, .slice a0 xs.length c0] 74 (0, 0))] :: hs)
                        refine TT.seq ?_
                        refine TT.seq ?_
                        refine TT.region ?_
                        refine OT.pures hT 2 rfl ?_
                        refine OT.nil ?_
                        refine KT.seq ?_
                        refine TT.cond rfl (fun c88 => ?_) (fun c88 => ?_)
                        ·
                          have c88 := of_decide_eq_true c88
                          obtain ⟨n, hn⟩ := nth (l := s.map) (i := k2) (by omega)
                          rw [drop_cons hn, refIn] at hp
                          refine TT.skip ?_
                          refine KT.seq ?_
                          refine TT.seq ?_
                          refine TT.block ?_
                          refine TT.seq ?_
                          refine TT.region ?_
                          refine OT.pures hT 2 rfl ?_
                          refine OT.index_at hT rfl rfl rfl rfl (by omega) (by omega) rfl ?_
                          refine OT.load rfl rfl (Ld.one hT rfl Has.one.there (snap_at hn)) rfl ?_
                          refine OT.pures hT 1 rfl ?_
                          refine OT.nil ?_
                          refine KT.seq ?_
                          refine TT.seq ?_
                          refine TT.seq ?_
                          refine TT.region ?_
                          refine OT.pures hT 2 rfl ?_
                          refine OT.nil ?_
                          refine KT.seq ?_
                          refine TT.cond rfl (fun c96 => ?_) (fun c96 => ?_)
                          ·
                            have c96 : n = 0 := by simpa using c96
                            rw [if_pos c96] at hp
                            refine TT.exit ?_
                            refine XT.seq ?_
                            refine XT.here ?_
                            refine KT.seq ?_
                            refine TT.region ?_
                            refine OT.pures hT 3 rfl ?_
                            refine OT.nil ?_
                            refine KT.loop (k2 + 1, L2) ?_ ?_ (SubR.cons rfl (SubR.cons rfl (SubR.cons rfl (SubR.cons rfl (SubR.cons' rfl (by (try dsimp only); exact (int_eq (by rw [wrap_i64 (by omega) (by omega)]; omega))) (SubR.nil _)))))) (by repeat (first | exact Sel.refl _ | refine Sel.empty ?_ | refine Sel.pull (by repeat (first | exact Pull.head | apply Pull.tail)) ?_ | refine Sel.drop ?_))
                            · dsimp only
                              exact ⟨by omega, by omega, hL2, hp⟩
                            · dsimp only
                              omega
                          ·
                            have c96 : ¬ n = 0 := by simpa using c96
                            rw [if_neg c96] at hp
                            refine TT.skip ?_
                            refine KT.seq ?_
                            refine TT.seq ?_
                            refine TT.seq ?_
                            refine TT.region ?_
                            refine OT.pures hT 3 rfl ?_
                            refine OT.split 99 rfl (fun g99 => ?_) (fun g99 => ?_)
                            ·
                              have g99 := of_decide_eq_true g99
                              refine OT.pures hT 12 rfl ?_
                              refine OT.nil ?_
                              refine KT.seq ?_
                              refine TT.cond_true rfl ?_
                              refine TT.seq ?_
                              refine TT.region ?_
                              refine OT.pures hT 1 rfl ?_
                              refine OT.nil ?_
                              refine KT.seq ?_
                              refine TT.ret ?_
                              refine RT.of (rs := [.tmp 2]) [_] hs rfl (.tmp rfl .nil) (by repeat (first | exact Sel.refl _ | refine Sel.empty ?_ | refine Sel.pull (by repeat (first | exact Pull.head | apply Pull.tail)) ?_ | refine Sel.drop ?_)) ?_
                              dsimp only [one]
                              rw [if_pos (.inl g99)] at hp
                              exact ⟨by rw [← hp], rfl⟩
                            ·
                              have g99 := of_decide_eq_false g99
                              refine OT.pures hT 4 rfl ?_
                              refine OT.split 103 rfl (fun g103 => ?_) (fun g103 => ?_)
                              ·
                                have g103 := of_decide_eq_true g103
                                refine OT.pures hT 8 rfl ?_
                                refine OT.nil ?_
                                refine KT.seq ?_
                                refine TT.cond_true rfl ?_
                                refine TT.seq ?_
                                refine TT.region ?_
                                refine OT.pures hT 1 rfl ?_
                                refine OT.nil ?_
                                refine KT.seq ?_
                                refine TT.ret ?_
                                refine RT.of (rs := [.tmp 2]) [_] hs rfl (.tmp rfl .nil) (by repeat (first | exact Sel.refl _ | refine Sel.empty ?_ | refine Sel.pull (by repeat (first | exact Pull.head | apply Pull.tail)) ?_ | refine Sel.drop ?_)) ?_
                                dsimp only [one]
                                rw [if_pos (.inr (.inl g103))] at hp
                                exact ⟨by rw [← hp], rfl⟩
                              ·
                                have g103 := of_decide_eq_false g103
                                obtain ⟨bb, hbb⟩ := nth (l := L2) (i := n.toNat) (by omega)
                                refine OT.pures hT 1 rfl ?_
                                refine OT.index_at hT rfl rfl rfl rfl (by omega) (by omega) rfl ?_
                                refine OT.load rfl rfl (Ld.one hT rfl Has.one (Lb_at hbb)) rfl ?_
                                refine OT.pures hT 2 rfl ?_
                                refine OT.split 108 rfl (fun g108 => ?_) (fun g108 => ?_)
                                ·
                                  refine OT.pures hT 3 rfl ?_
                                  refine OT.nil ?_
                                  refine KT.seq ?_
                                  refine TT.cond_true rfl ?_
                                  refine TT.seq ?_
                                  refine TT.region ?_
                                  refine OT.pures hT 1 rfl ?_
                                  refine OT.nil ?_
                                  refine KT.seq ?_
                                  refine TT.ret ?_
                                  refine RT.of (rs := [.tmp 2]) [_] hs rfl (.tmp rfl .nil) (by repeat (first | exact Sel.refl _ | refine Sel.empty ?_ | refine Sel.pull (by repeat (first | exact Pull.head | apply Pull.tail)) ?_ | refine Sel.drop ?_)) ?_
                                  dsimp only [one]
                                  rw [if_pos (.inr (.inr (.inl (by rw [hbb, g108]))))] at hp
                                  exact ⟨by rw [← hp], rfl⟩
                                ·
                                  refine OT.pures hT 1 rfl ?_
                                  refine OT.load rfl rfl (Ld.one hT rfl (by repeat (first | exact Has.one | apply Has.there)) rfl) rfl ?_
                                  refine OT.pures hT 1 rfl ?_
                                  refine OT.nil ?_
                                  refine KT.seq ?_
                                  refine TT.cond rfl (fun c111 => ?_) (fun c111 => ?_)
                                  ·
                                    refine TT.seq ?_
                                    refine TT.region ?_
                                    refine OT.pures hT 1 rfl ?_
                                    refine OT.nil ?_
                                    refine KT.seq ?_
                                    refine TT.ret ?_
                                    refine RT.of (rs := [.tmp 2]) [_] hs rfl (.tmp rfl .nil) (by repeat (first | exact Sel.refl _ | refine Sel.empty ?_ | refine Sel.pull (by repeat (first | exact Pull.head | apply Pull.tail)) ?_ | refine Sel.drop ?_)) ?_
                                    dsimp only [one]
                                    rw [if_pos (.inr (.inr (.inr c111)))] at hp
                                    exact ⟨by rw [← hp], rfl⟩
                                  ·
                                    refine TT.skip ?_
                                    refine KT.seq ?_
                                    refine TT.region ?_
                                    refine OT.pures hT 1 rfl ?_
                                    rw [if_neg (by rw [hbb, g108, c111]; simp only [Option.some.injEq, Bool.false_eq_true, or_false]; omega)] at hp
                                    refine OT.index_at hT rfl rfl rfl rfl (by omega) (by omega) rfl ?_
                                    refine OT.store hT rfl rfl rfl rfl (by repeat (first | exact Pull.head | apply Pull.tail)) rfl (by rw [Lb_length, hL2]; show 0 + n.toNat * 1 + 1 ≤ 96; omega) rfl (.inl (Nat.le_refl _)) (Lb_set (by omega)) ?_
                                    refine OT.nil ?_
                                    refine KT.blk ?_
                                    refine KT.seq ?_
                                    refine TT.region ?_
                                    refine OT.pures hT 3 rfl ?_
                                    refine OT.nil ?_
                                    refine KT.loop (k2 + 1, L2.set n.toNat true) ?_ ?_ (SubR.cons rfl (SubR.cons rfl (SubR.cons rfl (SubR.cons rfl (SubR.cons' rfl (by (try dsimp only); exact (int_eq (by rw [wrap_i64 (by omega) (by omega)]; omega))) (SubR.nil _)))))) (by repeat (first | exact Sel.refl _ | refine Sel.empty ?_ | refine Sel.pull (by repeat (first | exact Pull.head | apply Pull.tail)) ?_ | refine Sel.drop ?_))
                                    · dsimp only
                                      exact ⟨by omega, by omega, by rw [List.length_set]; exact hL2, hp⟩
                                    · dsimp only
                                      omega
                        ·
                          have c88 := of_decide_eq_false c88
                          rw [List.drop_eq_nil_of_le (show s.map.length ≤ k2 by omega), refIn] at hp
                          dsimp only at hp
                          refine TT.exit ?_
                          refine XT.seq ?_
                          refine XT.loop ?_
                          refine XT.here ?_
                          refine KT.blk ?_
                          refine KT.seq ?_
                          refine TT.region ?_
                          refine OT.pures hT 3 rfl ?_
                          refine OT.nil ?_
                          refine KT.loop (k + 1, L2) ?_ ?_ (SubR.cons rfl (SubR.cons rfl (SubR.cons' rfl (by (try dsimp only); exact (int_eq (by rw [wrap_i64 (by omega) (by omega)]; omega))) (SubR.nil _)))) (by repeat (first | exact Sel.refl _ | refine Sel.empty ?_ | refine Sel.pull (by repeat (first | exact Pull.head | apply Pull.tail)) ?_ | refine Sel.drop ?_))
                          · dsimp only
                            exact ⟨by omega, hL2, hp⟩
                          · dsimp only
                            omega
                ·
                  have g54 := of_decide_eq_false g54
                  refine AT.takes (fuel := 4) hT [20, 21, 22, 23, 24, 25, 26, 27, 28, 29, 30, 31, 32, 33] (by kernel_rfl) (by kernel_rfl) rfl ?_
                  refine AT.index_at (fuel := 3) hT 34 rfl (by kernel_rfl) (by kernel_rfl) (by kernel_rfl) rfl rfl rfl rfl (by decide) (by decide) rfl ?_
                  refine AT.take (fuel := 2) hT 35 rfl rfl (by kernel_rfl) (by kernel_rfl) (by kernel_rfl) rfl (.load rfl (Ld.one hT rfl Has.one (snap_at (i := 0) hm0))) rfl ?_
                  refine AT.takes (fuel := 0) hT [36, 37] (by kernel_rfl) (by kernel_rfl) rfl ?_
                  refine AT.done (by kernel_rfl) (by repeat (first | exact Sel.refl _ | refine Sel.empty ?_ | refine Sel.pull (by repeat (first | exact Pull.head | apply Pull.tail)) ?_ | refine Sel.drop ?_)) ?_
                  refine KT.seq ?_
                  refine TT.cond rfl (fun c72 => ?_) (fun c72 => ?_)
                  ·
                    have c72 : ¬ m0 = 0 := by simpa using c72
                    refine TT.seq ?_
                    refine TT.region ?_
                    refine OT.pures hT 1 rfl ?_
                    refine OT.nil ?_
                    refine KT.seq ?_
                    refine TT.ret ?_
                    refine RT.of (rs := [.tmp 2]) [_] hs rfl (.tmp rfl .nil) (by repeat (first | exact Sel.refl _ | refine Sel.empty ?_ | refine Sel.pull (by repeat (first | exact Pull.head | apply Pull.tail)) ?_ | refine Sel.drop ?_)) ?_
                    dsimp only [one]
                    rw [if_pos (.inr (.inr (.inr (.inr (by rw [hh0]; intro h; exact c72 (Option.some.inj h))))))] at hp
                    exact ⟨by rw [← hp], rfl⟩
                  ·
                    have c72 : m0 = 0 := by simpa using c72
                    refine TT.skip ?_
                    refine KT.seq ?_
                    refine TT.seq ?_
                    refine TT.seq ?_
                    refine TT.region ?_
                    refine OT.pures hT 1 rfl ?_
                    have hno : ¬ (nameB s.name = false ∨ s.id < 1 ∨ next < s.id ∨ (0 < i ∧ ∃ p, xs[i - 1]? = some p ∧ s.id ≤ p.id) ∨ s.map.head? ≠ some 0) := by
                      rintro (h | h | h | ⟨h, q, hq, hq2⟩ | h)
                      · rw [g39] at h; cases h
                      · omega
                      · omega
                      · first | omega | (rw [hpp] at hq; obtain rfl := Option.some.inj hq; omega)
                      · rw [hh0, c72] at h; exact h rfl
                    rw [if_neg hno] at hp
                    refine OT.nil ?_
                    refine KT.seq ?_
                    refine TT.block ?_
                    refine TT.loop (ι := Nat) (fun j => (j) ≤ i ∧ (xs.take (j)).any (named s.name) = false) (fun j => i - (j)) (fun j => [(1, .pointer (some ⟨b_1, 0, none⟩)), (3, .pointer (some ⟨b_3, 0, none⟩)), (4, .int .i64 (i : Nat)), (5, .pointer (some ⟨b_5, 0, none⟩)), (6, .int .i64 ((j) : Nat))]) (fun j => [(b_5, blk (encSnap s) 45 (0, 0))] :: [(b_3, blk (Lb L) 135 (0, 0))] :: [(b_1, blk [.int .i64 next, .slice a0 xs.length c0] 74 (0, 0))] :: hs) (0) ?_ (SubR.cons rfl (SubR.cons rfl (SubR.cons rfl (SubR.cons rfl (SubR.cons rfl (SubR.nil _)))))) (by repeat (first | exact Sel.refl _ | refine Sel.empty ?_ | refine Sel.pull (by repeat (first | exact Pull.head | apply Pull.tail)) ?_ | refine Sel.drop ?_)) ?_
                    · exact ⟨by omega, by simp⟩
                    rintro k ⟨hk, hany⟩
                    show TT _ _ _ [(1, .pointer (some ⟨b_1, 0, none⟩)), (3, .pointer (some ⟨b_3, 0, none⟩)), (4, .int .i64 (i : Nat)), (5, .pointer (some ⟨b_5, 0, none⟩)), (6, .int .i64 (k : Nat))] ([(b_5, blk (encSnap s) 45 (0, 0))] :: [(b_3, blk (Lb L) 135 (0, 0))] :: [(b_1, blk [.int .i64 next, .slice a0 xs.length c0] 74 (0, 0))] :: hs)
                    refine TT.seq ?_
                    refine TT.seq ?_
                    refine TT.region ?_
                    refine OT.pures hT 3 rfl ?_
                    refine OT.nil ?_
                    refine KT.seq ?_
                    refine TT.cond rfl (fun c75 => ?_) (fun c75 => ?_)
                    ·
                      have c75 := of_decide_eq_true c75
                      obtain ⟨q, hq⟩ := nth (l := xs) (i := k) (by omega)
                      refine TT.skip ?_
                      refine KT.seq ?_
                      refine TT.seq ?_
                      refine TT.block ?_
                      refine TT.seq ?_
                      refine TT.draw ([(b_5, blk (encSnap s) 45 (0, 0))] :: [(b_3, blk (Lb L) 135 (0, 0))] :: [(b_1, blk [.int .i64 next, .slice a0 xs.length c0] 74 (0, 0))] :: hs) mixed ?_
                      refine AT.takes (fuel := 6) hT [0, 2, 6] (by kernel_rfl) (by kernel_rfl) rfl ?_
                      refine AT.take (fuel := 5) hT 1 rfl rfl (by kernel_rfl) (by kernel_rfl) (by kernel_rfl) rfl (.load rfl (Ld.slc hT rfl (by repeat (first | exact Has.one | apply Has.there)) rfl)) rfl ?_
                      refine AT.take (fuel := 4) hT 7 rfl rfl (by kernel_rfl) (by kernel_rfl) (by kernel_rfl) rfl (.load rfl (Ld.one hT rfl (by repeat (first | exact Has.one | apply Has.there)) rfl)) rfl ?_
                      refine AT.index (fuel := 3) hT 3 rfl (by kernel_rfl) (by kernel_rfl) (by kernel_rfl) rfl rfl rfl rfl hr.there.there.there (by omega) hq rfl (fun ad_81 hel_81 => ?_)
                      obtain ⟨eb_81, eo_81, rfl, hfld_81⟩ := hel_81.at (P := Try.prog)
                      refine AT.takes (fuel := 2) hT [4] (by kernel_rfl) (by kernel_rfl) rfl ?_
                      refine AT.take (fuel := 1) hT 5 rfl rfl (by kernel_rfl) (by kernel_rfl) (by kernel_rfl) rfl (.load rfl (hfld_81 hT rfl rfl)) rfl ?_
                      refine AT.takes (fuel := 0) hT [8] (by kernel_rfl) (by kernel_rfl) rfl ?_
                      refine AT.done (by kernel_rfl) (by repeat (first | exact Sel.refl _ | refine Sel.empty ?_ | refine Sel.pull (by repeat (first | exact Pull.head | apply Pull.tail)) ?_ | refine Sel.drop ?_)) ?_
                      refine KT.seq ?_
                      refine TT.cond rfl (fun c86 => ?_) (fun c86 => ?_)
                      ·
                        have c86 : named s.name q = true := c86
                        refine TT.seq ?_
                        refine TT.region ?_
                        refine OT.pures hT 1 rfl ?_
                        refine OT.nil ?_
                        refine KT.seq ?_
                        refine TT.ret ?_
                        refine RT.of (rs := [.tmp 2]) [_] hs rfl (.tmp rfl .nil) (by repeat (first | exact Sel.refl _ | refine Sel.empty ?_ | refine Sel.pull (by repeat (first | exact Pull.head | apply Pull.tail)) ?_ | refine Sel.drop ?_)) ?_
                        dsimp only [one]
                        have hany2 : (xs.take i).any (named s.name) = true := List.any_eq_true.2 ⟨q, List.mem_of_getElem? (i := k) (by rw [List.getElem?_take, if_pos (by omega)]; exact hq), c86⟩
                        rw [if_pos hany2] at hp
                        exact ⟨by rw [← hp], rfl⟩
                      ·
                        have c86 : named s.name q = false := c86
                        refine TT.skip ?_
                        refine KT.blk ?_
                        refine KT.seq ?_
                        refine TT.region ?_
                        refine OT.pures hT 3 rfl ?_
                        refine OT.nil ?_
                        refine KT.loop (k + 1) ?_ ?_ (SubR.cons rfl (SubR.cons rfl (SubR.cons rfl (SubR.cons rfl (SubR.cons' rfl (by (try dsimp only); exact (int_eq (by rw [wrap_i64 (by omega) (by omega)]; omega))) (SubR.nil _)))))) (by repeat (first | exact Sel.refl _ | refine Sel.empty ?_ | refine Sel.pull (by repeat (first | exact Pull.head | apply Pull.tail)) ?_ | refine Sel.drop ?_))
                        · refine ⟨by omega, ?_⟩
                          rw [take_succ hq, List.any_append, hany, Bool.false_or]
                          simpa using c86
                        · omega
                    ·
                      have c75 := of_decide_eq_false c75
                      have hki : k = i := by omega
                      subst hki
                      rw [if_neg (by rw [hany]; decide)] at hp
                      refine TT.exit ?_
                      refine XT.seq ?_
                      refine XT.loop ?_
                      refine XT.here ?_
                      refine KT.seq ?_
                      refine TT.seq ?_
                      refine TT.region ?_
                      refine OT.pures hT 1 rfl ?_
                      refine OT.nil ?_
                      refine KT.seq ?_
                      refine TT.block ?_
                      refine TT.loop (ι := Nat × (List Bool)) (fun j => 1 ≤ (j.1) ∧ (j.1) ≤ 32 ∧ (j.2).length = 96 ∧ (match refIn s.inv (s.map.drop (j.1)) (j.2) with | none => false | some seen' => refOut next xs (k + 1) seen' (xs.drop (k + 1))) = refMay next xs) (fun j => 32 - (j.1)) (fun j => [(1, .pointer (some ⟨b_1, 0, none⟩)), (3, .pointer (some ⟨b_3, 0, none⟩)), (4, .int .i64 (k : Nat)), (5, .pointer (some ⟨b_5, 0, none⟩)), (7, .int .i64 ((j.1) : Nat))]) (fun j => [(b_3, blk (Lb (j.2)) 135 (0, 0))] :: [(b_5, blk (encSnap s) 45 (0, 0))] :: [(b_1, blk [.int .i64 next, .slice a0 xs.length c0] 74 (0, 0))] :: hs) (1, L) ?_ (SubR.cons rfl (SubR.cons rfl (SubR.cons rfl (SubR.cons rfl (SubR.cons rfl (SubR.nil _)))))) (by repeat (first | exact Sel.refl _ | refine Sel.empty ?_ | refine Sel.pull (by repeat (first | exact Pull.head | apply Pull.tail)) ?_ | refine Sel.drop ?_)) ?_
                      · dsimp only
                        exact ⟨by omega, by omega, hL, hp⟩
                      rintro ⟨k2, L2⟩ hI
                      dsimp only at hI
                      obtain ⟨hk1, hk2, hL2, hp⟩ := hI
                      show TT _ _ _ [(1, .pointer (some ⟨b_1, 0, none⟩)), (3, .pointer (some ⟨b_3, 0, none⟩)), (4, .int .i64 (k : Nat)), (5, .pointer (some ⟨b_5, 0, none⟩)), (7, .int .i64 (k2 : Nat))] ([(b_3, blk (Lb L2) 135 (0, 0))] :: [(b_5, blk (encSnap s) 45 (0, 0))] :: [(b_1, blk [.int .i64 next, .slice a0 xs.length c0] 74 (0, 0))] :: hs)
                      refine TT.seq ?_
                      refine TT.seq ?_
                      refine TT.region ?_
                      refine OT.pures hT 2 rfl ?_
                      refine OT.nil ?_
                      refine KT.seq ?_
                      refine TT.cond rfl (fun c88 => ?_) (fun c88 => ?_)
                      ·
                        have c88 := of_decide_eq_true c88
                        obtain ⟨n, hn⟩ := nth (l := s.map) (i := k2) (by omega)
                        rw [drop_cons hn, refIn] at hp
                        refine TT.skip ?_
                        refine KT.seq ?_
                        refine TT.seq ?_
                        refine TT.block ?_
                        refine TT.seq ?_
                        refine TT.region ?_
                        refine OT.pures hT 2 rfl ?_
                        refine OT.index_at hT rfl rfl rfl rfl (by omega) (by omega) rfl ?_
                        refine OT.load rfl rfl (Ld.one hT rfl Has.one.there (snap_at hn)) rfl ?_
                        refine OT.pures hT 1 rfl ?_
                        refine OT.nil ?_
                        refine KT.seq ?_
                        refine TT.seq ?_
                        refine TT.seq ?_
                        refine TT.region ?_
                        refine OT.pures hT 2 rfl ?_
                        refine OT.nil ?_
                        refine KT.seq ?_
                        refine TT.cond rfl (fun c96 => ?_) (fun c96 => ?_)
                        ·
                          have c96 : n = 0 := by simpa using c96
                          rw [if_pos c96] at hp
                          refine TT.exit ?_
                          refine XT.seq ?_
                          refine XT.here ?_
                          refine KT.seq ?_
                          refine TT.region ?_
                          refine OT.pures hT 3 rfl ?_
                          refine OT.nil ?_
                          refine KT.loop (k2 + 1, L2) ?_ ?_ (SubR.cons rfl (SubR.cons rfl (SubR.cons rfl (SubR.cons rfl (SubR.cons' rfl (by (try dsimp only); exact (int_eq (by rw [wrap_i64 (by omega) (by omega)]; omega))) (SubR.nil _)))))) (by repeat (first | exact Sel.refl _ | refine Sel.empty ?_ | refine Sel.pull (by repeat (first | exact Pull.head | apply Pull.tail)) ?_ | refine Sel.drop ?_))
                          · dsimp only
                            exact ⟨by omega, by omega, hL2, hp⟩
                          · dsimp only
                            omega
                        ·
                          have c96 : ¬ n = 0 := by simpa using c96
                          rw [if_neg c96] at hp
                          refine TT.skip ?_
                          refine KT.seq ?_
                          refine TT.seq ?_
                          refine TT.seq ?_
                          refine TT.region ?_
                          refine OT.pures hT 3 rfl ?_
                          refine OT.split 99 rfl (fun g99 => ?_) (fun g99 => ?_)
                          ·
                            have g99 := of_decide_eq_true g99
                            refine OT.pures hT 12 rfl ?_
                            refine OT.nil ?_
                            refine KT.seq ?_
                            refine TT.cond_true rfl ?_
                            refine TT.seq ?_
                            refine TT.region ?_
                            refine OT.pures hT 1 rfl ?_
                            refine OT.nil ?_
                            refine KT.seq ?_
                            refine TT.ret ?_
                            refine RT.of (rs := [.tmp 2]) [_] hs rfl (.tmp rfl .nil) (by repeat (first | exact Sel.refl _ | refine Sel.empty ?_ | refine Sel.pull (by repeat (first | exact Pull.head | apply Pull.tail)) ?_ | refine Sel.drop ?_)) ?_
                            dsimp only [one]
                            rw [if_pos (.inl g99)] at hp
                            exact ⟨by rw [← hp], rfl⟩
                          ·
                            have g99 := of_decide_eq_false g99
                            refine OT.pures hT 4 rfl ?_
                            refine OT.split 103 rfl (fun g103 => ?_) (fun g103 => ?_)
                            ·
                              have g103 := of_decide_eq_true g103
                              refine OT.pures hT 8 rfl ?_
                              refine OT.nil ?_
                              refine KT.seq ?_
                              refine TT.cond_true rfl ?_
                              refine TT.seq ?_
                              refine TT.region ?_
                              refine OT.pures hT 1 rfl ?_
                              refine OT.nil ?_
                              refine KT.seq ?_
                              refine TT.ret ?_
                              refine RT.of (rs := [.tmp 2]) [_] hs rfl (.tmp rfl .nil) (by repeat (first | exact Sel.refl _ | refine Sel.empty ?_ | refine Sel.pull (by repeat (first | exact Pull.head | apply Pull.tail)) ?_ | refine Sel.drop ?_)) ?_
                              dsimp only [one]
                              rw [if_pos (.inr (.inl g103))] at hp
                              exact ⟨by rw [← hp], rfl⟩
                            ·
                              have g103 := of_decide_eq_false g103
                              obtain ⟨bb, hbb⟩ := nth (l := L2) (i := n.toNat) (by omega)
                              refine OT.pures hT 1 rfl ?_
                              refine OT.index_at hT rfl rfl rfl rfl (by omega) (by omega) rfl ?_
                              refine OT.load rfl rfl (Ld.one hT rfl Has.one (Lb_at hbb)) rfl ?_
                              refine OT.pures hT 2 rfl ?_
                              refine OT.split 108 rfl (fun g108 => ?_) (fun g108 => ?_)
                              ·
                                refine OT.pures hT 3 rfl ?_
                                refine OT.nil ?_
                                refine KT.seq ?_
                                refine TT.cond_true rfl ?_
                                refine TT.seq ?_
                                refine TT.region ?_
                                refine OT.pures hT 1 rfl ?_
                                refine OT.nil ?_
                                refine KT.seq ?_
                                refine TT.ret ?_
                                refine RT.of (rs := [.tmp 2]) [_] hs rfl (.tmp rfl .nil) (by repeat (first | exact Sel.refl _ | refine Sel.empty ?_ | refine Sel.pull (by repeat (first | exact Pull.head | apply Pull.tail)) ?_ | refine Sel.drop ?_)) ?_
                                dsimp only [one]
                                rw [if_pos (.inr (.inr (.inl (by rw [hbb, g108]))))] at hp
                                exact ⟨by rw [← hp], rfl⟩
                              ·
                                refine OT.pures hT 1 rfl ?_
                                refine OT.load rfl rfl (Ld.one hT rfl (by repeat (first | exact Has.one | apply Has.there)) rfl) rfl ?_
                                refine OT.pures hT 1 rfl ?_
                                refine OT.nil ?_
                                refine KT.seq ?_
                                refine TT.cond rfl (fun c111 => ?_) (fun c111 => ?_)
                                ·
                                  refine TT.seq ?_
                                  refine TT.region ?_
                                  refine OT.pures hT 1 rfl ?_
                                  refine OT.nil ?_
                                  refine KT.seq ?_
                                  refine TT.ret ?_
                                  refine RT.of (rs := [.tmp 2]) [_] hs rfl (.tmp rfl .nil) (by repeat (first | exact Sel.refl _ | refine Sel.empty ?_ | refine Sel.pull (by repeat (first | exact Pull.head | apply Pull.tail)) ?_ | refine Sel.drop ?_)) ?_
                                  dsimp only [one]
                                  rw [if_pos (.inr (.inr (.inr c111)))] at hp
                                  exact ⟨by rw [← hp], rfl⟩
                                ·
                                  refine TT.skip ?_
                                  refine KT.seq ?_
                                  refine TT.region ?_
                                  refine OT.pures hT 1 rfl ?_
                                  rw [if_neg (by rw [hbb, g108, c111]; simp only [Option.some.injEq, Bool.false_eq_true, or_false]; omega)] at hp
                                  refine OT.index_at hT rfl rfl rfl rfl (by omega) (by omega) rfl ?_
                                  refine OT.store hT rfl rfl rfl rfl (by repeat (first | exact Pull.head | apply Pull.tail)) rfl (by rw [Lb_length, hL2]; show 0 + n.toNat * 1 + 1 ≤ 96; omega) rfl (.inl (Nat.le_refl _)) (Lb_set (by omega)) ?_
                                  refine OT.nil ?_
                                  refine KT.blk ?_
                                  refine KT.seq ?_
                                  refine TT.region ?_
                                  refine OT.pures hT 3 rfl ?_
                                  refine OT.nil ?_
                                  refine KT.loop (k2 + 1, L2.set n.toNat true) ?_ ?_ (SubR.cons rfl (SubR.cons rfl (SubR.cons rfl (SubR.cons rfl (SubR.cons' rfl (by (try dsimp only); exact (int_eq (by rw [wrap_i64 (by omega) (by omega)]; omega))) (SubR.nil _)))))) (by repeat (first | exact Sel.refl _ | refine Sel.empty ?_ | refine Sel.pull (by repeat (first | exact Pull.head | apply Pull.tail)) ?_ | refine Sel.drop ?_))
                                  · dsimp only
                                    exact ⟨by omega, by omega, by rw [List.length_set]; exact hL2, hp⟩
                                  · dsimp only
                                    omega
                      ·
                        have c88 := of_decide_eq_false c88
                        rw [List.drop_eq_nil_of_le (show s.map.length ≤ k2 by omega), refIn] at hp
                        dsimp only at hp
                        refine TT.exit ?_
                        refine XT.seq ?_
                        refine XT.loop ?_
                        refine XT.here ?_
                        refine KT.blk ?_
                        refine KT.seq ?_
                        refine TT.region ?_
                        refine OT.pures hT 3 rfl ?_
                        refine OT.nil ?_
                        refine KT.loop (k + 1, L2) ?_ ?_ (SubR.cons rfl (SubR.cons rfl (SubR.cons' rfl (by (try dsimp only); exact (int_eq (by rw [wrap_i64 (by omega) (by omega)]; omega))) (SubR.nil _)))) (by repeat (first | exact Sel.refl _ | refine Sel.empty ?_ | refine Sel.pull (by repeat (first | exact Pull.head | apply Pull.tail)) ?_ | refine Sel.drop ?_))
                        · dsimp only
                          exact ⟨by omega, hL2, hp⟩
                        · dsimp only
                          omega
        ·
          have c27 := of_decide_eq_false c27
          rw [List.drop_eq_nil_of_le (show xs.length ≤ i by omega), refOut] at hp
          refine TT.exit ?_
          refine XT.seq ?_
          refine XT.loop ?_
          refine XT.here ?_
          refine KT.seq ?_
          refine TT.seq ?_
          refine TT.region ?_
          refine OT.pures hT 1 rfl ?_
          refine OT.nil ?_
          refine KT.seq ?_
          refine TT.ret ?_
          refine RT.of (rs := [.tmp 2]) [_] hs rfl (.tmp rfl .nil) (by repeat (first | exact Sel.refl _ | refine Sel.empty ?_ | refine Sel.pull (by repeat (first | exact Pull.head | apply Pull.tail)) ?_ | refine Sel.drop ?_)) ?_
          dsimp only [one]
          exact ⟨by rw [← hp], rfl⟩

end Go.Proofs.Ytnhkgchcdbideaa.Sx
end

section
namespace Go.Proofs.Ytnhkgchcdbideaa.Sx
open Go Go.Sx Go.Pl
variable [Outer]

set_option maxHeartbeats 4000000 in
set_option maxRecDepth 100000 in
theorem ref_CatBytes {next : Int} {v : Value} {xs : List Snap} {hs : List Chunk} (hr : Row encSnap 35 hs v xs) (hl : xs.length ≤ 1073741824) : Fun Try.prog 26 [.agg ⟨[.int .i64 next, v]⟩] hs (fun v' hs' => ∃ H', hs' = H' :: hs ∧ Own Go.Sx.encB 1 5 v' (catBytesR next xs) H') := by
  refine Fun.enter 60 Try.func26 rfl Try.ntmps26 rfl ?_
  obtain ⟨a0, c0, hv⟩ := hr.len
  subst hv
  refine TT.seq ?_
  refine TT.region ?_
  refine OT.box rfl rfl rfl (fun b_1 => ?_)
  refine OT.pures hT 1 rfl ?_
  refine OT.nil ?_
  refine KT.seq ?_
  refine TT.seq ?_
  refine TT.seq ?_
  refine TT.region ?_
  refine OT.load rfl rfl (Ld.struct_all hT rfl (by repeat (first | exact Has.one | apply Has.there)) rfl) rfl ?_
  refine OT.call Try.call55 rfl rfl rfl rfl (ref_MayCat hr.there hl) ?_
  rintro v_9 hs_9 ⟨rfl, rfl⟩
  refine OT.pures hT 1 rfl ?_
  refine OT.nil ?_
  refine KT.seq ?_
  refine TT.cond rfl (fun c10 => ?_) (fun c10 => ?_)
  ·
    have c10 : refMay next xs = false := by simpa using c10
    refine TT.seq ?_
    refine TT.region ?_
    refine OT.pures hT 1 rfl ?_
    refine OT.nil ?_
    refine KT.seq ?_
    refine TT.ret ?_
    refine RT.of (rs := [.tmp 2]) [_] ([] :: hs) rfl (.tmp rfl .nil) (by repeat (first | exact Sel.refl _ | refine Sel.empty ?_ | refine Sel.pull (by repeat (first | exact Pull.head | apply Pull.tail)) ?_ | refine Sel.drop ?_)) ?_
    dsimp only [one]
    have e : catBytesR next xs = [] := by unfold catBytesR; rw [if_neg (by rw [c10]; decide)]
    rw [e]
    exact ⟨[], rfl, Own.nil⟩
  ·
    have hrm : refMay next xs = true := by simpa using c10
    have hmay : mayB next xs = true := by rw [may_eq hr.1]; exact hrm
    obtain ⟨hb0, hb1, hb4, hbs⟩ := may_ok hmay
    refine TT.skip ?_
    refine KT.seq ?_
    refine TT.seq ?_
    refine TT.draw ([(b_1, blk [.int .i64 next, .slice a0 xs.length c0] 74 (0, 0))] :: hs) mixed ?_
    refine AT.takes (fuel := 7) hT [0, 3] (by kernel_rfl) (by kernel_rfl) rfl ?_
    refine AT.take (fuel := 6) hT 1 rfl rfl (by kernel_rfl) (by kernel_rfl) (by kernel_rfl) rfl (.load rfl (Ld.one hT rfl (by repeat (first | exact Has.one | apply Has.there)) rfl)) rfl ?_
    refine AT.take (fuel := 5) hT 4 rfl rfl (by kernel_rfl) (by kernel_rfl) (by kernel_rfl) rfl (.load rfl (Ld.slc hT rfl (by repeat (first | exact Has.one | apply Has.there)) rfl)) rfl ?_
    refine AT.takes (fuel := 4) hT [5] (by kernel_rfl) (by kernel_rfl) rfl ?_
    refine AT.op (fuel := 3) 2 (by kernel_rfl) rfl (by repeat (first | exact Sel.refl _ | refine Sel.empty ?_ | refine Sel.pull (by repeat (first | exact Pull.head | apply Pull.tail)) ?_ | refine Sel.drop ?_)) ?_
    refine OT.call Try.call56 rfl rfl rfl rfl (ref_Put (by omega) (by omega)) ?_
    rintro v_13 hs_13 ⟨H13, rfl, ho13⟩
    refine OT.nil ?_
    refine KT.any ?_
    refine AT.op (fuel := 2) 6 (by kernel_rfl) rfl (by repeat (first | exact Sel.refl _ | refine Sel.empty ?_ | refine Sel.pull (by repeat (first | exact Pull.head | apply Pull.tail)) ?_ | refine Sel.drop ?_)) ?_
    refine OT.call Try.call56 rfl rfl rfl rfl (ref_Put (by omega) (by omega)) ?_
    rintro v_17 hs_17 ⟨H17, rfl, ho17⟩
    refine OT.nil ?_
    refine KT.any ?_
    refine AT.op (fuel := 1) 7 (by kernel_rfl) rfl (by repeat (first | exact Sel.refl _ | refine Sel.empty ?_ | refine Sel.pull (by repeat (first | exact Pull.head | apply Pull.tail)) ?_ | refine Sel.drop ?_)) ?_
    refine OT.append hT el22 rfl rfl rfl rfl (by repeat (first | exact Pull.head | apply Pull.tail)) ho13 ho17.row (ones_B _) (by have h1 := put_ten (n := next) (by omega) (by omega); have h2 := put_ten (n := xs.length) (by omega) (by omega); omega) rfl (fun v_18 H_18 ho_18 => ?_)
    refine OT.nil ?_
    refine KT.any ?_
    refine AT.takes (fuel := 0) hT [8] (by kernel_rfl) (by kernel_rfl) rfl ?_
    refine AT.done (by kernel_rfl) (by repeat (first | exact Sel.refl _ | refine Sel.empty ?_ | refine Sel.pull (by repeat (first | exact Pull.head | apply Pull.tail)) ?_ | refine Sel.drop ?_)) ?_
    refine KT.seq ?_
    refine TT.seq ?_
    refine TT.seq ?_
    refine TT.region ?_
    refine OT.pures hT 1 rfl ?_
    refine OT.nil ?_
    refine KT.seq ?_
    refine TT.block ?_
    refine TT.loop (ι := Nat × Value × Chunk) (fun j => (j.1) ≤ xs.length ∧ Own Go.Sx.encB 1 5 (j.2.1) (catTo next xs (j.1)) (j.2.2)) (fun j => xs.length - (j.1)) (fun j => [(1, .pointer (some ⟨b_1, 0, none⟩)), (3, (j.2.1)), (4, .int .i64 ((j.1) : Nat))]) (fun j => [(b_1, blk [.int .i64 next, .slice a0 xs.length c0] 74 (0, 0))] :: (j.2.2) :: hs) (0, v_18, H_18) ?_ (SubR.cons rfl (SubR.cons rfl (SubR.cons rfl (SubR.nil _)))) (by repeat (first | exact Sel.refl _ | refine Sel.empty ?_ | refine Sel.pull (by repeat (first | exact Pull.head | apply Pull.tail)) ?_ | refine Sel.drop ?_)) ?_
    · dsimp only
      exact ⟨by omega, by unfold catTo; simpa using ho_18⟩
    rintro ⟨i, w, K⟩ hI
    dsimp only at hI
    obtain ⟨hi, hO⟩ := hI
    show TT _ _ _ [(1, .pointer (some ⟨b_1, 0, none⟩)), (3, w), (4, .int .i64 (i : Nat))] ([(b_1, blk [.int .i64 next, .slice a0 xs.length c0] 74 (0, 0))] :: K :: hs)
    have hLT := catTo_length hmay hr.1 i
    refine TT.seq ?_
    refine TT.seq ?_
    refine TT.region ?_
    refine OT.pures hT 2 rfl ?_
    refine OT.load rfl rfl (Ld.slc hT rfl (by repeat (first | exact Has.one | apply Has.there)) rfl) rfl ?_
    refine OT.pures hT 2 rfl ?_
    refine OT.nil ?_
    refine KT.seq ?_
    refine TT.cond rfl (fun c23 => ?_) (fun c23 => ?_)
    ·
      have c23 := of_decide_eq_true c23
      obtain ⟨s, hy⟩ := nth (l := xs) (i := i) (by omega)
      have h35 := hr.1 s (List.mem_of_getElem? hy)
      have h32 := map32 h35
      obtain ⟨hn8, hid0, hid1⟩ := hbs s (List.mem_of_getElem? hy)
      have hn8 := (nameB_iff _).1 hn8
      have hsz : s.name.data.toList.length = s.name.size := Array.length_toList
      have hpt : (putText s.name).length ≤ 18 := by
        have := put_ten (n := s.name.size) (by omega) (by omega)
        unfold putText; simp only [List.length_append]; omega
      have hpi : (put s.id).length ≤ 10 := put_ten (by omega) (by omega)
      have hdl : (s.map.drop 1).length = 31 := by rw [List.length_drop, h32]
      have hhl : (headBytes s).length ≤ 29 := by unfold headBytes; simp only [List.length_append, List.length_cons, List.length_nil]; omega
      have ehd : catTo next xs i ++ putText s.name ++ put s.id ++ [if s.inv then 1 else 0] = catTo next xs i ++ headBytes s := by unfold headBytes; simp only [List.append_assoc]
      refine TT.skip ?_
      refine KT.seq ?_
      refine TT.seq ?_
      refine TT.block ?_
      refine TT.seq ?_
      refine TT.region ?_
      refine OT.pures hT 1 rfl ?_
      refine OT.load rfl rfl (Ld.slc hT rfl (by repeat (first | exact Has.one | apply Has.there)) rfl) rfl ?_
      refine OT.pures hT 1 rfl ?_
      refine OT.index hT rfl rfl rfl rfl hr.there.there (by omega) hy rfl (fun ad_29 hel_29 => ?_)
      refine OT.load rfl rfl (hel_29.ld_struct hT rfl) rfl ?_
      refine OT.alloc Try.zeroValue45 rfl rfl (fun b_5 => ?_)
      refine OT.store_all hT rfl rfl rfl rfl (by repeat (first | exact Pull.head | apply Pull.tail)) (by exact h35) rfl (ones_snap s) (.inl (Nat.le_refl _)) ?_
      refine OT.nil ?_
      refine KT.seq ?_
      refine TT.seq ?_
      refine TT.draw ([(b_5, blk (encSnap s) 45 (0, 0))] :: [(b_1, blk [.int .i64 next, .slice a0 xs.length c0] 74 (0, 0))] :: hs) mixed ?_
      refine AT.takes (fuel := 7) hT [0, 1, 5] (by kernel_rfl) (by kernel_rfl) rfl ?_
      refine AT.take (fuel := 6) hT 2 rfl rfl (by kernel_rfl) (by kernel_rfl) (by kernel_rfl) rfl (.load rfl (Ld.one hT rfl (by repeat (first | exact Has.one | apply Has.there)) rfl)) rfl ?_
      refine AT.take (fuel := 5) hT 6 rfl rfl (by kernel_rfl) (by kernel_rfl) (by kernel_rfl) rfl (.load rfl (Ld.one hT rfl (by repeat (first | exact Has.one | apply Has.there)) rfl)) rfl ?_
      refine AT.op (fuel := 4) 3 (by kernel_rfl) rfl (by repeat (first | exact Sel.refl _ | refine Sel.empty ?_ | refine Sel.pull (by repeat (first | exact Pull.head | apply Pull.tail)) ?_ | refine Sel.drop ?_)) ?_
      refine OT.call Try.call57 rfl rfl rfl rfl (ref_PutText (by omega)) ?_
      rintro v_34 hs_34 ⟨H34, rfl, ho34⟩
      refine OT.nil ?_
      refine KT.any ?_
      refine AT.op (fuel := 3) 4 (by kernel_rfl) rfl (by repeat (first | exact Sel.refl _ | refine Sel.empty ?_ | refine Sel.pull (by repeat (first | exact Pull.head | apply Pull.tail)) ?_ | refine Sel.drop ?_)) ?_
      refine OT.append hT el22 rfl rfl rfl rfl (by repeat (first | exact Pull.head | apply Pull.tail)) hO ho34.row (ones_B _) (by omega) rfl (fun v_35 H_35 ho_35 => ?_)
      refine OT.nil ?_
      refine KT.any ?_
      refine AT.op (fuel := 2) 7 (by kernel_rfl) rfl (by repeat (first | exact Sel.refl _ | refine Sel.empty ?_ | refine Sel.pull (by repeat (first | exact Pull.head | apply Pull.tail)) ?_ | refine Sel.drop ?_)) ?_
      refine OT.call Try.call56 rfl rfl rfl rfl (ref_Put (by omega) (by omega)) ?_
      rintro v_38 hs_38 ⟨H38, rfl, ho38⟩
      refine OT.nil ?_
      refine KT.any ?_
      refine AT.op (fuel := 1) 8 (by kernel_rfl) rfl (by repeat (first | exact Sel.refl _ | refine Sel.empty ?_ | refine Sel.pull (by repeat (first | exact Pull.head | apply Pull.tail)) ?_ | refine Sel.drop ?_)) ?_
      refine OT.append hT el22 rfl rfl rfl rfl (by repeat (first | exact Pull.head | apply Pull.tail)) ho_35 ho38.row (ones_B _) (by simp only [List.length_append]; omega) rfl (fun v_39 H_39 ho_39 => ?_)
      refine OT.nil ?_
      refine KT.any ?_
      refine AT.takes (fuel := 0) hT [9] (by kernel_rfl) (by kernel_rfl) rfl ?_
      refine AT.done (by kernel_rfl) (by repeat (first | exact Sel.refl _ | refine Sel.empty ?_ | refine Sel.pull (by repeat (first | exact Pull.head | apply Pull.tail)) ?_ | refine Sel.drop ?_)) ?_
      refine KT.seq ?_
      refine TT.seq ?_
      refine TT.region ?_
      refine OT.pures hT 1 rfl ?_
      refine OT.nil ?_
      refine KT.seq ?_
      refine TT.cut (ι := Int) (fun j => (j) = ((if s.inv then (1 : UInt8) else 0).toNat : Int)) (fun j => [(1, .pointer (some ⟨b_1, 0, none⟩)), (3, v_39), (4, .int .i64 (i : Nat)), (5, .pointer (some ⟨b_5, 0, none⟩)), (6, .int .u8 (j))]) (fun j => [(b_5, blk (encSnap s) 45 (0, 0))] :: [(b_1, blk [.int .i64 next, .slice a0 xs.length c0] 74 (0, 0))] :: H_39 :: hs) ?_ ?_
      ·
        refine TT.seq ?_
        refine TT.region ?_
        refine OT.pures hT 1 rfl ?_
        refine OT.load rfl rfl (Ld.one hT rfl (by repeat (first | exact Has.one | apply Has.there)) rfl) rfl ?_
        refine OT.nil ?_
        refine KT.seq ?_
        refine TT.cond rfl (fun c41 => ?_) (fun c41 => ?_)
        ·
          refine TT.region ?_
          refine OT.pures hT 1 rfl ?_
          refine OT.nil ?_
          refine KT.cut (1) ?_ (SubR.cons rfl (SubR.cons rfl (SubR.cons rfl (SubR.cons rfl (SubR.cons rfl (SubR.nil _)))))) (by repeat (first | exact Sel.refl _ | refine Sel.empty ?_ | refine Sel.pull (by repeat (first | exact Pull.head | apply Pull.tail)) ?_ | refine Sel.drop ?_))
          · rw [c41]; rfl
        ·
          refine TT.skip ?_
          refine KT.cut (0) ?_ (SubR.cons rfl (SubR.cons rfl (SubR.cons rfl (SubR.cons rfl (SubR.cons rfl (SubR.nil _)))))) (by repeat (first | exact Sel.refl _ | refine Sel.empty ?_ | refine Sel.pull (by repeat (first | exact Pull.head | apply Pull.tail)) ?_ | refine Sel.drop ?_))
          · rw [c41]; rfl
      ·
        rintro q hq
        show TT _ _ _ [(1, .pointer (some ⟨b_1, 0, none⟩)), (3, v_39), (4, .int .i64 (i : Nat)), (5, .pointer (some ⟨b_5, 0, none⟩)), (6, .int .u8 q)] ([(b_5, blk (encSnap s) 45 (0, 0))] :: [(b_1, blk [.int .i64 next, .slice a0 xs.length c0] 74 (0, 0))] :: H_39 :: hs)
        refine TT.seq ?_
        refine TT.region ?_
        refine OT.pures hT 2 rfl ?_
        refine OT.buildSlice (enc := Go.Sx.encB) (xs := [if s.inv then 1 else 0]) (xos := [.tmp 43]) el22 rfl rfl rfl rfl (by rw [hq]; rfl) (by simp [Value.cells]) (fun _ _ => rfl) rfl (by decide) rfl (fun v_44 H_44 ho_44 => ?_)
        refine OT.append hT el22 rfl rfl rfl rfl (by repeat (first | exact Pull.head | apply Pull.tail)) ho_39 ho_44.row rfl (by simp only [List.length_append, List.length_cons, List.length_nil]; omega) rfl (fun v_45 H_45 ho_45 => ?_)
        rw [ehd] at ho_45
        refine OT.pures hT 1 rfl ?_
        refine OT.nil ?_
        refine KT.seq ?_
        refine TT.seq ?_
        refine TT.region ?_
        refine OT.pures hT 1 rfl ?_
        refine OT.nil ?_
        refine KT.seq ?_
        refine TT.block ?_
        refine TT.loop (ι := Nat × Value × Chunk) (fun j => 1 ≤ (j.1) ∧ (j.1) ≤ 32 ∧ Own Go.Sx.encB 1 5 (j.2.1) (catTo next xs i ++ headBytes s ++ ((s.map.drop 1).take ((j.1) - 1)).map b8) (j.2.2)) (fun j => 32 - (j.1)) (fun j => [(1, .pointer (some ⟨b_1, 0, none⟩)), (3, (j.2.1)), (4, .int .i64 (i : Nat)), (5, .pointer (some ⟨b_5, 0, none⟩)), (7, .int .i64 ((j.1) : Nat))]) (fun j => [(b_5, blk (encSnap s) 45 (0, 0))] :: [(b_1, blk [.int .i64 next, .slice a0 xs.length c0] 74 (0, 0))] :: (j.2.2) :: hs) (1, v_45, H_45) ?_ (SubR.cons rfl (SubR.cons rfl (SubR.cons rfl (SubR.cons rfl (SubR.cons rfl (SubR.nil _)))))) (by repeat (first | exact Sel.refl _ | refine Sel.empty ?_ | refine Sel.pull (by repeat (first | exact Pull.head | apply Pull.tail)) ?_ | refine Sel.drop ?_)) ?_
        · dsimp only
          exact ⟨by omega, by omega, by simpa using ho_45⟩
        rintro ⟨j2, w2, K2⟩ hI
        dsimp only at hI
        obtain ⟨hj1, hj, hO2⟩ := hI
        show TT _ _ _ [(1, .pointer (some ⟨b_1, 0, none⟩)), (3, w2), (4, .int .i64 (i : Nat)), (5, .pointer (some ⟨b_5, 0, none⟩)), (7, .int .i64 (j2 : Nat))] ([(b_5, blk (encSnap s) 45 (0, 0))] :: [(b_1, blk [.int .i64 next, .slice a0 xs.length c0] 74 (0, 0))] :: K2 :: hs)
        have hlen2 := List.length_take_le (j2 - 1) (s.map.drop 1)
        refine TT.seq ?_
        refine TT.seq ?_
        refine TT.region ?_
        refine OT.pures hT 2 rfl ?_
        refine OT.nil ?_
        refine KT.seq ?_
        refine TT.cond rfl (fun c47 => ?_) (fun c47 => ?_)
        ·
          have c47 := of_decide_eq_true c47
          obtain ⟨n, hn⟩ := nth (l := s.map) (i := j2) (by omega)
          have hat : (s.map.drop 1)[j2 - 1]? = some n := by rw [List.getElem?_drop, show 1 + (j2 - 1) = j2 by omega]; exact hn
          refine TT.skip ?_
          refine KT.seq ?_
          refine TT.seq ?_
          refine TT.block ?_
          refine TT.region ?_
          refine OT.pures hT 3 rfl ?_
          refine OT.index_at hT rfl rfl rfl rfl (by omega) (by omega) rfl ?_
          refine OT.load rfl rfl (Ld.one hT rfl Has.one (snap_at hn)) rfl ?_
          refine OT.pures hT 1 rfl ?_
          refine OT.buildSlice (enc := Go.Sx.encB) (xs := [b8 n]) (xos := [.tmp 55]) el22 rfl rfl rfl rfl (by rw [b8_wrap]; rfl) (by simp [Value.cells]) (fun _ _ => rfl) rfl (by decide) rfl (fun v_56 H_56 ho_56 => ?_)
          refine OT.append hT el22 rfl rfl rfl rfl (by repeat (first | exact Pull.head | apply Pull.tail)) hO2 ho_56.row rfl (by simp only [List.length_append, List.length_map, List.length_cons, List.length_nil]; omega) rfl (fun v_57 H_57 ho_57 => ?_)
          refine OT.pures hT 1 rfl ?_
          refine OT.nil ?_
          refine KT.blk ?_
          refine KT.seq ?_
          refine TT.region ?_
          refine OT.pures hT 3 rfl ?_
          refine OT.nil ?_
          refine KT.loop (j2 + 1, v_57, H_57) ?_ ?_ (SubR.cons rfl (SubR.cons rfl (SubR.cons rfl (SubR.cons rfl (SubR.cons' rfl (by (try dsimp only); exact (int_eq (by rw [wrap_i64 (by omega) (by omega)]; omega))) (SubR.nil _)))))) (by repeat (first | exact Sel.refl _ | refine Sel.empty ?_ | refine Sel.pull (by repeat (first | exact Pull.head | apply Pull.tail)) ?_ | refine Sel.drop ?_))
          · dsimp only
            refine ⟨by omega, by omega, ?_⟩
            rw [show j2 + 1 - 1 = (j2 - 1) + 1 by omega, map_take_succ _ _ hat, ← List.append_assoc]
            exact ho_57
          · dsimp only
            omega
        ·
          have c47 := of_decide_eq_false c47
          refine TT.exit ?_
          refine XT.seq ?_
          refine XT.loop ?_
          refine XT.here ?_
          refine KT.blk ?_
          refine KT.seq ?_
          refine TT.region ?_
          refine OT.pures hT 3 rfl ?_
          refine OT.nil ?_
          obtain rfl : j2 = 32 := by omega
          refine KT.loop (i + 1, w2, K2) ?_ ?_ (SubR.cons rfl (SubR.cons rfl (SubR.cons' rfl (by (try dsimp only); exact (int_eq (by rw [wrap_i64 (by omega) (by omega)]; omega))) (SubR.nil _)))) (by repeat (first | exact Sel.refl _ | refine Sel.empty ?_ | refine Sel.pull (by repeat (first | exact Pull.head | apply Pull.tail)) ?_ | refine Sel.drop ?_))
          · dsimp only
            refine ⟨by omega, ?_⟩
            rw [catTo_succ hy, ← headBytes_map, ← List.append_assoc]
            rw [List.take_of_length_le (by omega)] at hO2
            exact hO2
          · dsimp only
            omega
    ·
      have c23 := of_decide_eq_false c23
      rw [catTo_all (by omega)] at hO
      have hcl := catBytes_length hmay hr.1
      refine TT.exit ?_
      refine XT.seq ?_
      refine XT.loop ?_
      refine XT.here ?_
      refine KT.seq ?_
      refine TT.seq ?_
      refine TT.region ?_
      refine OT.pures hT 1 rfl ?_
      refine OT.call Try.call58 rfl rfl rfl rfl (ref_Whole hO.row.there (by omega)) ?_
      rintro v_59 hs_59 ⟨H59, rfl, ho59⟩
      refine OT.pures hT 1 rfl ?_
      refine OT.nil ?_
      refine KT.seq ?_
      refine TT.ret ?_
      refine RT.of (rs := [.tmp 2]) [_] (H59 :: hs) rfl (.tmp rfl .nil) (by repeat (first | exact Sel.refl _ | refine Sel.empty ?_ | refine Sel.pull (by repeat (first | exact Pull.head | apply Pull.tail)) ?_ | refine Sel.drop ?_)) ?_
      dsimp only [one]
      have e : catBytesR next xs = whole (catBytes next xs) := by unfold catBytesR; rw [if_pos hrm]
      rw [e]
      exact ⟨_, rfl, ho59⟩

end Go.Proofs.Ytnhkgchcdbideaa.Sx
end

section
namespace Go.Proofs.Ytnhkgchcdbideaa.Sx
open Go Go.Sx Go.Pl
variable [Outer]

set_option maxHeartbeats 1000000 in
set_option maxRecDepth 100000 in
theorem cow_needs {bx : Nat} {nx : Int} {vs mv : Value} {ti : Nat} {ui : Value} {I : Chunk → Prop} {E : Int → Chunk → Prop} {Q : Pages} {H : Chunk} {r : List Chunk} (hP : Pgs Try.prog 5 (.iface ti ui) I E (pgOf Q)) (hI : I H) (hQ : ∀ no, mayPage no → (Q no).length = 256) {s : Snap} (h35 : (encSnap s).length = 35) (hsd : s.side) {n : Nat} (hn : n < 32) : FunP Try.prog 79 [.pointer (some ⟨bx, 0, none⟩), .agg ⟨encSnap s⟩, .int .i64 (n : Nat)] ([(bx, blk [.iface ti ui, .int .i64 nx, vs, mv] 100 (0, 0))] :: H :: r) (fun v' hs' => ∃ H', hs' = [(bx, blk [.iface ti ui, .int .i64 nx, vs, mv] 100 (0, 0))] :: H' :: r ∧ v' = .bool (needsB Q s (n : Nat)) ∧ I H') (fun v' hs' => ∃ e H', v' = flt e ∧ e ≠ 0 ∧ E e H' ∧ hs' = H' :: [(bx, blk [.iface ti ui, .int .i64 nx, vs, mv] 100 (0, 0))] :: r) := by
  refine FunP.enter 37 Try.func79 rfl Try.ntmps79 rfl ?_
  have h32 := map32 h35
  obtain ⟨x, hx⟩ := nth (l := s.map) (i := n) (by omega)
  have hxs := hsd x (List.mem_of_getElem? hx)
  refine TT.seq (.region (.box rfl rfl rfl (fun b_4 => ?_)))
  refine OT.pures hT 1 rfl (.nil (.seq (.seq (.seq (.region (.pures hT 1 rfl (.load rfl rfl (Ld.one hT rfl hz rfl) rfl ?_)))))))
  refine OT.pures hT 1 rfl (.split 11 rfl (fun g11 => ?_) (fun g11 => ?_))
  ·
    refine OT.pures hT 6 rfl (.nil (.seq (.cond_true rfl (.seq (.region (.pures hT 1 rfl (.nil (.seq (.ret (.ofP (rs := [.tmp 6]) [_] ([(bx, blk [.iface ti ui, .int .i64 nx, vs, mv] 100 (0, 0))] :: H :: r) rfl (.tmp rfl .nil) sl ?_))))))))))
    dsimp only [one]
    exact ⟨H, rfl, congrArg Value.bool (by unfold needsB; rw [if_pos (.inl g11)]), hI⟩
  ·
    refine OT.pures hT 2 rfl (.index_at hT rfl rfl rfl rfl (by omega) (by omega) rfl (.load rfl rfl (Ld.one hT rfl hz (snap_at hx)) rfl ?_))
    refine OT.pures hT 2 rfl (.nil (.seq (.cond rfl (fun c17 => ?_) (fun c17 => ?_))))
    ·
      have c17 := bne_iff_ne.1 c17
      refine TT.seq (.region (.pures hT 1 rfl (.nil (.seq (.ret (.ofP (rs := [.tmp 6]) [_] ([(bx, blk [.iface ti ui, .int .i64 nx, vs, mv] 100 (0, 0))] :: H :: r) rfl (.tmp rfl .nil) sl ?_))))))
      dsimp only [one]
      exact ⟨H, rfl, congrArg Value.bool (by unfold needsB; rw [Snap.at_some hx, if_pos (.inr c17)]), hI⟩
    ·
      have c17 := bne_eq_false_iff_eq.1 c17
      refine TT.skip (.seq (.seq (.seq (.region (.pures hT 2 rfl (.nil (.seq (.cond rfl (fun c19 => ?_) (fun c19 => ?_)))))))))
      ·
        have c19 := beq_iff_eq.1 c19
        refine TT.seq (.region (.pures hT 1 rfl (.nil (.seq (.ret (.ofP (rs := [.tmp 6]) [_] ([(bx, blk [.iface ti ui, .int .i64 nx, vs, mv] 100 (0, 0))] :: H :: r) rfl (.tmp rfl .nil) sl ?_))))))
        dsimp only [one]
        exact ⟨H, rfl, congrArg Value.bool (by unfold needsB; rw [Snap.at_some hx, if_neg (fun h => h.elim (fun h => by rw [g11] at h; cases h) (fun h => h c17)), if_pos c19]), hI⟩
      ·
        have c19 := beq_eq_false_iff_ne.1 c19
        refine TT.skip (.seq (.seq (.draw (([(b_4, blk (encSnap s) 45 (0, 0))] :: [(bx, blk [.iface ti ui, .int .i64 nx, vs, mv] 100 (0, 0))] :: r)) mixed (.takes (fuel := 10) hT [0, 1, 2, 7] kr kr rfl (.take (fuel := 9) hT 3 rfl rfl kr kr kr rfl (.load rfl (Ld.one hT rfl hz rfl)) rfl ?_)))))
        refine AT.take (fuel := 8) hT 4 rfl rfl kr kr kr rfl (.load rfl (Ld.struct_all hT rfl hz (by exact h35))) rfl ?_
        refine AT.op (fuel := 7) 5 kr rfl sl (.call Try.call93 rfl rfl rfl rfl (view_New rfl h35) ?_)
        rintro v_26 hs_26 ⟨bv, rfl, rfl⟩
        refine OT.nil (.any (.op (fuel := 6) 6 kr rfl sl (.mkiface Try.underlying153 rfl rfl rfl rfl (.nil (.any (.op (fuel := 5) 8 kr rfl sl (.call Try.call17 rfl rfl rfl rfl (Fun.weaken (sl (hs' := ([(bv, blk (.iface ti ui :: encSnap s) 162 (0, 0))] ++ H) :: [(b_4, blk (encSnap s) 45 (0, 0))] :: [(bx, blk [.iface ti ui, .int .i64 nx, vs, mv] 100 (0, 0))] :: r))  (alloc_Used (view_Pgs hP h35 hsd) ⟨H, rfl, hI⟩)) ?_)))))))
        rintro v_29 hs_29 ⟨HV, ub, ue, rfl, rfl, hU⟩
        have hw : (whole256 (viewPg s (pgOf Q) 1)).1 = 0 ∧ (whole256 (viewPg s (pgOf Q) 1)).2 = Q (viewNo s 1) := by
          have hm := viewNo_may hsd (no := 1) (by unfold mayPage; omega)
          unfold viewPg pgOf
          rw [if_neg (by omega), if_pos hm]
          unfold whole256
          rw [if_neg (by simp), if_neg (by rw [hQ _ hm]; simp)]
          exact ⟨rfl, rfl⟩
        refine OT.nil (.any (.takes (fuel := 0) hT [9, 10, 11, 12, 13] kr kr rfl (.done kr sl (.seq (.seq (.region (.pures hT 3 rfl ?_)))))))
        refine OT.callP Try.call49 rfl rfl rfl rfl (guard_CheckB) (fun _ _ h => by
          obtain ⟨hb, rfl, rfl⟩ := h
          have hb := beq_eq_false_iff_ne.1 hb
          rcases hU with ⟨h, _⟩ | ⟨_, _, ⟨h, _⟩ | ⟨H2, rfl, h⟩⟩
          · exact absurd h hb
          · rw [hw.1] at h; exact absurd h.symm hb
          · exact PP.of ⟨ue, H2, by rw [brk_same hb], hb, h, rfl⟩ (.split (.drop sl))) ?_
        rintro v_35 hs_35 ⟨hb, rfl, rfl⟩
        have hb := beq_iff_eq.1 hb
        rcases hU with ⟨_, _, hub, H2, rfl, hI2⟩ | ⟨h, _⟩
        rotate_left
        · exact absurd hb h
        refine OT.split_chunk (.nil (.seq (.seq (.region (.pures hT 2 rfl (.nil (.seq (.ret (.ofP (rs := [.tmp 6]) [_] ([(bx, blk [.iface ti ui, .int .i64 nx, vs, mv] 100 (0, 0))] :: H2 :: r) rfl (.tmp rfl .nil) sl ?_)))))))))
        dsimp only [one]
        exact ⟨H2, rfl, congrArg Value.bool (by rw [hub, hw.2]; unfold needsB; rw [Snap.at_some hx, if_neg (fun h => h.elim (fun h => by rw [g11] at h; cases h) (fun h => h c17)), if_neg c19]), hI2⟩

end Go.Proofs.Ytnhkgchcdbideaa.Sx
end
