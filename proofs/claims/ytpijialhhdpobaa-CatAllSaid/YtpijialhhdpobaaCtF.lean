/- Catalogs read back: what the program's Decode computes; the document's CatBytes. Printed by a program of ours off the loaded program and our notes; Lean checks it. -/
import Derived.Test.YtpijialhhdpobaaPlD
import Derived.Test.YtpijialhhdpobaaSxT
import Derived.Test.YtpijialhhdpobaaCtD
namespace Go.Proofs.Ytpijialhhdpobaa.Sx
open Go Go.Sx Go.Pl
variable [Outer]

set_option maxHeartbeats 1000000 in
set_option maxRecDepth 100000 in
theorem by_Equal {v w : Value} {xs ys : List UInt8} {hs : List Chunk} (hr : Row Go.Sx.encB 1 hs v xs) (hq : Row Go.Sx.encB 1 hs w ys) : Fun Try.prog 39 [v, w] hs (fun v' hs' => v' = .bool (decide (xs = ys)) ∧ hs = hs') := by
  refine Fun.enter 10 Try.func39 rfl Try.ntmps39 rfl ?_
  refine TT.seq ?_
  refine TT.region ?_
  refine OT.pures hT 1 rfl ?_
  refine OT.nil ?_
  refine KT.seq ?_
  refine TT.seq ?_
  refine TT.region ?_
  refine OT.pures hT 1 rfl ?_
  refine OT.conv_bs (fun _ => rfl) hT rfl rfl rfl rfl rfl hr rfl ?_
  refine OT.pures hT 1 rfl ?_
  refine OT.conv_bs (fun _ => rfl) hT rfl rfl rfl rfl rfl hq rfl ?_
  refine OT.pures hT 2 rfl ?_
  refine OT.nil ?_
  refine KT.seq ?_
  refine TT.ret ?_
  refine RT.of (rs := [.tmp 4]) [_] hs rfl (.tmp rfl .nil) (by repeat (first | exact Sel.refl _ | refine Sel.empty ?_ | refine Sel.pull (by repeat (first | exact Pull.head | apply Pull.tail)) ?_ | refine Sel.drop ?_)) ?_
  dsimp only [one]
  refine ⟨congrArg Value.bool (decide_eq_decide.2 ?_), rfl⟩
  constructor
  · intro h; injection h with h; injection h
  · intro h; rw [h]

set_option maxHeartbeats 4000000 in
set_option maxRecDepth 100000 in
theorem cat_one {v : Value} {xs : List UInt8} {hs : List Chunk} (hr : Row Go.Sx.encB 1 hs v xs) (hl : xs.length ≤ 1073741824) : Fun Try.prog 38 [v] hs (fun v' hs' => v' = .tuple ⟨[.agg ⟨encSnap (oneS xs).1⟩, .int .i64 (oneS xs).2]⟩ ∧ hs = hs') := by
  refine Fun.enter 68 Try.func38 rfl Try.ntmps38 rfl ?_
  obtain ⟨a0, c0, hv⟩ := hr.len
  subst hv
  have hk := @getText_k xs
  obtain ⟨res, hres⟩ : ∃ r, oneS xs = r := ⟨_, rfl⟩
  rw [hres]
  unfold oneS at hres
  generalize hg : getText xs = p at *
  obtain ⟨name, at_, e⟩ := p
  dsimp only at *
  refine TT.seq ?_
  refine TT.region ?_
  refine OT.alloc Try.zeroValue42 rfl rfl (fun b_2 => ?_)
  refine OT.pures hT 1 rfl ?_
  refine OT.nil ?_
  refine KT.seq ?_
  refine TT.seq ?_
  refine TT.region ?_
  refine OT.alloc Try.zeroValue42 rfl rfl (fun b_4 => ?_)
  refine OT.nil ?_
  refine KT.seq ?_
  refine TT.seq ?_
  refine TT.region ?_
  refine OT.pures hT 1 rfl ?_
  refine OT.call Try.call47 rfl rfl rfl rfl (num_GetText hr.there.there hl) ?_
  rintro v_13 hs_13 ⟨rfl, rfl⟩
  rw [hg]
  dsimp only
  refine OT.pures hT 7 rfl ?_
  refine OT.nil ?_
  refine KT.seq ?_
  refine TT.seq ?_
  refine TT.seq ?_
  refine TT.region ?_
  refine OT.pures hT 2 rfl ?_
  refine OT.nil ?_
  refine KT.seq ?_
  refine TT.cond rfl (fun c18 => ?_) (fun c18 => ?_)
  ·
    have c18 : ¬ e = 0 := by simpa using c18
    rw [if_pos c18] at hres
    refine TT.seq ?_
    refine TT.region ?_
    refine OT.load rfl rfl (Ld.struct_all hT rfl (by repeat (first | exact Has.one | apply Has.there)) rfl) rfl ?_
    refine OT.store_all hT rfl rfl rfl rfl (by repeat (first | exact Pull.head | apply Pull.tail)) rfl rfl rfl (.inl (Nat.le_refl _)) ?_
    refine OT.pures hT 1 rfl ?_
    refine OT.nil ?_
    refine KT.seq ?_
    refine TT.ret ?_
    refine RT.of (rs := [.cell 2 42, .tmp 3]) [_, _] hs rfl (.cell rfl (Ld.struct_all hT rfl (by repeat (first | exact Has.one | apply Has.there)) rfl) (.tmp rfl .nil)) (by repeat (first | exact Sel.refl _ | refine Sel.empty ?_ | refine Sel.pull (by repeat (first | exact Pull.head | apply Pull.tail)) ?_ | refine Sel.drop ?_)) ?_
    dsimp only [one]
    exact ⟨by rw [← hres]; rfl, rfl⟩
  ·
    have c18 : e = 0 := by simpa using c18
    rw [if_neg (by omega)] at hres
    have hk := hk c18
    have hk2 := @get_k (xs.drop at_.toNat)
    have hdl : (xs.drop at_.toNat).length = xs.length - at_.toNat := List.length_drop
    generalize hg2 : get (xs.drop at_.toNat) = q at *
    obtain ⟨id, n, e2⟩ := q
    dsimp only at *
    refine TT.skip ?_
    refine KT.seq ?_
    refine TT.seq ?_
    refine TT.region ?_
    refine OT.pures hT 2 rfl ?_
    refine OT.slice at_.toNat xs.length hT rfl rfl rfl rfl rfl hr.there.there (.inr ⟨.i64, by rw [Int.toNat_of_nonneg (by omega)]⟩) (.inl ⟨rfl, rfl⟩) (by omega) (by omega) rfl (fun v_23 hv_23 => ?_)
    refine OT.call Try.call37 rfl rfl rfl rfl (num_Get hv_23 (by rw [List.take_length, hdl]; omega)) ?_
    rintro v_24 hs_24 ⟨rfl, rfl⟩
    rw [List.take_length, hg2]
    dsimp only
    refine OT.pures hT 7 rfl ?_
    refine OT.nil ?_
    refine KT.seq ?_
    refine TT.seq ?_
    refine TT.region ?_
    refine OT.pures hT 4 rfl ?_
    refine OT.nil ?_
    refine KT.seq ?_
    refine TT.seq ?_
    refine TT.seq ?_
    refine TT.region ?_
    refine OT.pures hT 3 rfl ?_
    refine OT.split 33 rfl (fun g33 => ?_) (fun g33 => ?_)
    ·
      have g33 : ¬ e2 = 0 := by simpa using g33
      rw [if_pos (.inl g33)] at hres
      refine OT.pures hT 6 rfl ?_
      refine OT.nil ?_
      refine KT.seq ?_
      refine TT.cond_true rfl ?_
      refine TT.seq ?_
      refine TT.region ?_
      refine OT.load rfl rfl (Ld.struct_all hT rfl (by repeat (first | exact Has.one | apply Has.there)) rfl) rfl ?_
      refine OT.store_all hT rfl rfl rfl rfl (by repeat (first | exact Pull.head | apply Pull.tail)) rfl rfl rfl (.inl (Nat.le_refl _)) ?_
      refine OT.pures hT 1 rfl ?_
      refine OT.nil ?_
      refine KT.seq ?_
      refine TT.ret ?_
      refine RT.of (rs := [.cell 2 42, .tmp 3]) [_, _] hs rfl (.cell rfl (Ld.struct_all hT rfl (by repeat (first | exact Has.one | apply Has.there)) rfl) (.tmp rfl .nil)) (by repeat (first | exact Sel.refl _ | refine Sel.empty ?_ | refine Sel.pull (by repeat (first | exact Pull.head | apply Pull.tail)) ?_ | refine Sel.drop ?_)) ?_
      dsimp only [one]
      exact ⟨by rw [← hres]; rfl, rfl⟩
    ·
      have g33 : e2 = 0 := by simpa using g33
      have hk2 := hk2 g33
      refine OT.pures hT 6 rfl ?_
      refine OT.nil ?_
      refine KT.seq ?_
      refine TT.cond rfl (fun c39 => ?_) (fun c39 => ?_)
      ·
        have c39 := of_decide_eq_true c39
        rw [wrap_i64 (n := at_ + n) (by omega) (by omega), wrap_i64 (by omega) (by omega)] at c39
        rw [if_pos (.inr c39)] at hres
        refine TT.seq ?_
        refine TT.region ?_
        refine OT.load rfl rfl (Ld.struct_all hT rfl (by repeat (first | exact Has.one | apply Has.there)) rfl) rfl ?_
        refine OT.store_all hT rfl rfl rfl rfl (by repeat (first | exact Pull.head | apply Pull.tail)) rfl rfl rfl (.inl (Nat.le_refl _)) ?_
        refine OT.pures hT 1 rfl ?_
        refine OT.nil ?_
        refine KT.seq ?_
        refine TT.ret ?_
        refine RT.of (rs := [.cell 2 42, .tmp 3]) [_, _] hs rfl (.cell rfl (Ld.struct_all hT rfl (by repeat (first | exact Has.one | apply Has.there)) rfl) (.tmp rfl .nil)) (by repeat (first | exact Sel.refl _ | refine Sel.empty ?_ | refine Sel.pull (by repeat (first | exact Pull.head | apply Pull.tail)) ?_ | refine Sel.drop ?_)) ?_
        dsimp only [one]
        exact ⟨by rw [← hres]; rfl, rfl⟩
      ·
        have c39 := of_decide_eq_false c39
        rw [wrap_i64 (n := at_ + n) (by omega) (by omega), wrap_i64 (by omega) (by omega)] at c39
        rw [if_neg (by omega)] at hres
        refine TT.reg 6 rfl (int_eq (wrap_i64 (n := at_ + n) (by omega) (by omega))) ?_
        obtain ⟨c, hc⟩ := nth (l := xs) (i := (at_ + n).toNat) (by omega)
        have hb : ((c.toNat : Int) == 1) = decide (xs[(at_ + n).toNat]? = some 1) := by
          rw [hc]
          refine Bool.eq_iff_iff.2 ?_
          rw [beq_iff_eq, decide_eq_true_eq, Option.some.injEq]
          constructor
          · intro h; apply UInt8.toNat_inj.1; show c.toNat = 1; omega
          · intro h; rw [h]; rfl
        have hm : (mapOf (xs.drop ((at_ + n).toNat + 1))).length = 32 := mapOf_length (by rw [List.length_drop]; omega)
        refine TT.skip ?_
        refine KT.seq ?_
        refine TT.seq ?_
        refine TT.draw (hs) mixed ?_
        refine AT.takes (fuel := 8) hT [0, 1, 2, 3, 7] (by kernel_rfl) (by kernel_rfl) rfl ?_
        refine AT.index (fuel := 7) hT 4 rfl (by kernel_rfl) (by kernel_rfl) (by kernel_rfl) rfl rfl rfl rfl hr (by omega) hc rfl (fun ad_45 hel_45 => ?_)
        refine AT.take (fuel := 6) hT 5 rfl rfl (by kernel_rfl) (by kernel_rfl) (by kernel_rfl) rfl (.load rfl (hel_45.ld_one hT rfl rfl)) rfl ?_
        refine AT.takes (fuel := 5) hT [6] (by kernel_rfl) (by kernel_rfl) rfl ?_
        refine AT.op (fuel := 4) 8 (by kernel_rfl) rfl (by repeat (first | exact Sel.refl _ | refine Sel.empty ?_ | refine Sel.pull (by repeat (first | exact Pull.head | apply Pull.tail)) ?_ | refine Sel.drop ?_)) ?_
        refine OT.store hT rfl rfl rfl rfl (by repeat (first | exact Pull.head | apply Pull.tail)) rfl (Nat.le_of_ble_eq_true rfl) rfl (.inl (Nat.le_refl _)) (cs' := encSnap ⟨name, 0, false, List.replicate 32 0⟩) rfl ?_
        refine OT.nil ?_
        refine KT.any ?_
        refine AT.takes (fuel := 3) hT [9] (by kernel_rfl) (by kernel_rfl) rfl ?_
        refine AT.op (fuel := 2) 10 (by kernel_rfl) rfl (by repeat (first | exact Sel.refl _ | refine Sel.empty ?_ | refine Sel.pull (by repeat (first | exact Pull.head | apply Pull.tail)) ?_ | refine Sel.drop ?_)) ?_
        refine OT.store hT rfl rfl rfl rfl (by repeat (first | exact Pull.head | apply Pull.tail)) rfl (Nat.le_of_ble_eq_true rfl) rfl (.inl (Nat.le_refl _)) (cs' := encSnap ⟨name, id, false, List.replicate 32 0⟩) rfl ?_
        refine OT.nil ?_
        refine KT.any ?_
        refine AT.takes (fuel := 1) hT [11] (by kernel_rfl) (by kernel_rfl) rfl ?_
        refine AT.op (fuel := 0) 12 (by kernel_rfl) rfl (by repeat (first | exact Sel.refl _ | refine Sel.empty ?_ | refine Sel.pull (by repeat (first | exact Pull.head | apply Pull.tail)) ?_ | refine Sel.drop ?_)) ?_
        refine OT.store hT rfl rfl rfl rfl (by repeat (first | exact Pull.head | apply Pull.tail)) rfl (Nat.le_of_ble_eq_true rfl) rfl (.inl (Nat.le_refl _)) (cs' := encSnap ⟨name, id, decide (xs[(at_ + n).toNat]? = some 1), mapTo (mapOf (xs.drop ((at_ + n).toNat + 1))) 1⟩) (by rw [mapTo_one, ← hb]; rfl) ?_
        refine OT.nil ?_
        refine KT.any ?_
        refine AT.done (by kernel_rfl) (by repeat (first | exact Sel.refl _ | refine Sel.empty ?_ | refine Sel.pull (by repeat (first | exact Pull.head | apply Pull.tail)) ?_ | refine Sel.drop ?_)) ?_
        refine KT.seq ?_
        refine TT.seq ?_
        refine TT.seq ?_
        refine TT.region ?_
        refine OT.pures hT 1 rfl ?_
        refine OT.nil ?_
        refine KT.seq ?_
        refine TT.block ?_
        refine TT.loop (ι := Nat) (fun j => 1 ≤ (j) ∧ (j) ≤ 32) (fun j => 32 - (j)) (fun j => [(0, .slice a0 xs.length c0), (2, .pointer (some ⟨b_2, 0, none⟩)), (4, .pointer (some ⟨b_4, 0, none⟩)), (6, .int .i64 (at_ + n)), (10, .int .i64 ((j) : Nat))]) (fun j => [(b_4, blk (encSnap ⟨name, id, decide (xs[(at_ + n).toNat]? = some 1), mapTo (mapOf (xs.drop ((at_ + n).toNat + 1))) (j)⟩) 42 (0, 0))] :: [(b_2, blk (encSnap zeroSnap) 42 (0, 0))] :: hs) (1) ?_ (SubR.cons rfl (SubR.cons rfl (SubR.cons rfl (SubR.cons rfl (SubR.cons rfl (SubR.nil _)))))) (by repeat (first | exact Sel.refl _ | refine Sel.empty ?_ | refine Sel.pull (by repeat (first | exact Pull.head | apply Pull.tail)) ?_ | refine Sel.drop ?_)) ?_
        · exact ⟨by omega, by omega⟩
        rintro no ⟨hn1, hn2⟩
        show TT _ _ _ [(0, .slice a0 xs.length c0), (2, .pointer (some ⟨b_2, 0, none⟩)), (4, .pointer (some ⟨b_4, 0, none⟩)), (6, .int .i64 (at_ + n)), (10, .int .i64 (no : Nat))] ([(b_4, blk (encSnap ⟨name, id, decide (xs[(at_ + n).toNat]? = some 1), mapTo (mapOf (xs.drop ((at_ + n).toNat + 1))) no⟩) 42 (0, 0))] :: [(b_2, blk (encSnap zeroSnap) 42 (0, 0))] :: hs)
        refine TT.seq ?_
        refine TT.seq ?_
        refine TT.region ?_
        refine OT.pures hT 2 rfl ?_
        refine OT.nil ?_
        refine KT.seq ?_
        refine TT.cond rfl (fun c52 => ?_) (fun c52 => ?_)
        ·
          have c52 := of_decide_eq_true c52
          obtain ⟨c2, hc2⟩ := nth (l := xs) (i := (at_ + n).toNat + no) (by omega)
          have hm2 := mapOf_at hc2 hn1 (by omega)
          refine TT.skip ?_
          refine KT.seq ?_
          refine TT.seq ?_
          refine TT.block ?_
          refine TT.region ?_
          refine OT.pures hT 5 rfl ?_
          refine OT.index hT rfl rfl rfl rfl hr.there.there (by rw [wrap_i64 (by omega) (by omega)]; omega) (by rw [wrap_i64 (by omega) (by omega), show (at_ + n + (no : Int)).toNat = (at_ + n).toNat + no by omega]; exact hc2) rfl (fun ad_60 hel_60 => ?_)
          refine OT.load rfl rfl (hel_60.ld_one hT rfl rfl) rfl ?_
          refine OT.pures hT 1 rfl ?_
          have hcl := c2.toNat_lt
          refine OT.reg 62 rfl (int_eq (wrap_i64 (n := (c2.toNat : Int)) (by omega) (by omega))) ?_
          refine OT.pures hT 1 rfl ?_
          refine OT.index_at hT rfl rfl rfl rfl (by omega) (by omega) rfl ?_
          refine OT.store hT rfl rfl rfl rfl (by repeat (first | exact Pull.head | apply Pull.tail)) rfl (by rw [len_snap]; dsimp only; rw [mapTo_length hm hn2]; show 0 + 3 + (no : Int).toNat * 1 + 1 ≤ 32 + 3; omega) rfl (.inl (Nat.le_refl _)) (cs' := encSnap ⟨name, id, decide (xs[(at_ + n).toNat]? = some 1), mapTo (mapOf (xs.drop ((at_ + n).toNat + 1))) (no + 1)⟩) ((snap_set (by dsimp only; rw [mapTo_length hm hn2]; omega)).trans (by dsimp only; rw [mapTo_set hm2 (by omega) hm])) ?_
          refine OT.nil ?_
          refine KT.blk ?_
          refine KT.seq ?_
          refine TT.region ?_
          refine OT.pures hT 3 rfl ?_
          refine OT.nil ?_
          refine KT.loop (no + 1) ?_ ?_ (SubR.cons rfl (SubR.cons rfl (SubR.cons rfl (SubR.cons rfl (SubR.cons' rfl (by (try dsimp only); exact (int_eq (by rw [wrap_i64 (by omega) (by omega)]; omega))) (SubR.nil _)))))) (by repeat (first | exact Sel.refl _ | refine Sel.empty ?_ | refine Sel.pull (by repeat (first | exact Pull.head | apply Pull.tail)) ?_ | refine Sel.drop ?_))
          · exact ⟨by omega, by omega⟩
          · omega
        ·
          have c52 := of_decide_eq_false c52
          obtain rfl : no = 32 := by omega
          rw [mapTo_all hm]
          refine TT.exit ?_
          refine XT.seq ?_
          refine XT.loop ?_
          refine XT.here ?_
          refine KT.seq ?_
          refine TT.seq ?_
          refine TT.region ?_
          refine OT.load rfl rfl (Ld.struct_all hT rfl Has.one (by rw [len_snap]; dsimp only; rw [hm])) rfl ?_
          refine OT.pures hT 2 rfl ?_
          refine OT.store_all hT rfl rfl rfl rfl (by repeat (first | exact Pull.head | apply Pull.tail)) (by show (encSnap _).length = 35; rw [len_snap]; dsimp only; rw [hm]) rfl (ones_snap _) (.inl (Nat.le_refl _)) ?_
          refine OT.pures hT 1 rfl ?_
          refine OT.nil ?_
          refine KT.seq ?_
          refine TT.ret ?_
          refine RT.of (rs := [.cell 2 42, .tmp 3]) [_, _] hs rfl (.cell rfl (Ld.struct_all hT rfl Has.one (by show (encSnap _).length = 35; rw [len_snap]; dsimp only; rw [hm])) (.tmp rfl .nil)) (by repeat (first | exact Sel.refl _ | refine Sel.empty ?_ | refine Sel.pull (by repeat (first | exact Pull.head | apply Pull.tail)) ?_ | refine Sel.drop ?_)) ?_
          dsimp only [one]
          refine ⟨?_, rfl⟩
          rw [← hres, wrap_i64 (by omega) (by omega)]
          rfl

set_option maxHeartbeats 4000000 in
set_option maxRecDepth 100000 in
theorem cat_Decode {v : Value} {xs : List UInt8} {hs : List Chunk} (hr : Row Go.Sx.encB 1 hs v xs) (hl : xs.length ≤ 1073741824) : Fun Try.prog 19 [v] hs (fun v' hs' => ∃ w H', v' = .tuple ⟨[.agg ⟨[.int .i64 (decodeS xs).1.1, w]⟩, .int .i64 (decodeS xs).2]⟩ ∧ hs' = H' :: hs ∧ Own encSnap 35 42 w (decodeS xs).1.2 H') := by
  refine Fun.enter 89 Try.func19 rfl Try.ntmps19 rfl ?_
  obtain ⟨a0, c0, hv⟩ := hr.len
  subst hv
  have hk := @get_k xs
  obtain ⟨res, hres⟩ : ∃ r, decodeS xs = r := ⟨_, rfl⟩
  rw [hres]
  unfold decodeS at hres
  generalize hg : get xs = p at *
  obtain ⟨next, at_, e⟩ := p
  dsimp only at *
  refine TT.seq ?_
  refine TT.region ?_
  refine OT.alloc Try.zeroValue33 rfl rfl (fun b_2 => ?_)
  refine OT.pures hT 1 rfl ?_
  refine OT.nil ?_
  refine KT.seq ?_
  refine TT.seq ?_
  refine TT.seq ?_
  refine TT.region ?_
  refine OT.pures hT 3 rfl ?_
  refine OT.nil ?_
  refine KT.seq ?_
  refine TT.cond rfl (fun c16 => ?_) (fun c16 => ?_)
  ·
    have c16 : ¬ (xs.length : Int) = 256 := by simpa using c16
    rw [if_pos (by omega)] at hres
    refine TT.seq ?_
    refine TT.region ?_
    refine OT.build (cs := [.int .i64 0, .slice none 0 0]) hT rfl Try.zeroValue33 rfl rfl rfl rfl ?_
    refine OT.store_all hT rfl rfl rfl rfl (by repeat (first | exact Pull.head | apply Pull.tail)) rfl rfl rfl (.inl (Nat.le_refl _)) ?_
    refine OT.pures hT 1 rfl ?_
    refine OT.nil ?_
    refine KT.seq ?_
    refine TT.ret ?_
    refine RT.of (rs := [.cell 2 33, .tmp 3]) [_, _] ([] :: hs) rfl (.cell rfl (Ld.struct_all hT rfl (by repeat (first | exact Has.one | apply Has.there)) rfl) (.tmp rfl .nil)) (by repeat (first | exact Sel.refl _ | refine Sel.empty ?_ | refine Sel.pull (by repeat (first | exact Pull.head | apply Pull.tail)) ?_ | refine Sel.drop ?_)) ?_
    dsimp only [one]
    rw [← hres]
    exact ⟨_, [], rfl, rfl, Own.nil⟩
  ·
    have c16 : (xs.length : Int) = 256 := by simpa using c16
    rw [if_neg (by omega)] at hres
    refine TT.skip ?_
    refine KT.seq ?_
    refine TT.seq ?_
    refine TT.region ?_
    refine OT.pures hT 1 rfl ?_
    refine OT.call Try.call37 rfl rfl rfl rfl (num_Get hr.there hl) ?_
    rintro v_20 hs_20 ⟨rfl, rfl⟩
    rw [hg]
    dsimp only
    refine OT.pures hT 7 rfl ?_
    refine OT.nil ?_
    refine KT.seq ?_
    refine TT.seq ?_
    refine TT.seq ?_
    refine TT.region ?_
    refine OT.pures hT 2 rfl ?_
    refine OT.nil ?_
    refine KT.seq ?_
    refine TT.cond rfl (fun c25 => ?_) (fun c25 => ?_)
    ·
      have c25 : ¬ e = 0 := by simpa using c25
      rw [if_pos c25] at hres
      refine TT.seq ?_
      refine TT.region ?_
      refine OT.build (cs := [.int .i64 0, .slice none 0 0]) hT rfl Try.zeroValue33 rfl rfl rfl rfl ?_
      refine OT.store_all hT rfl rfl rfl rfl (by repeat (first | exact Pull.head | apply Pull.tail)) rfl rfl rfl (.inl (Nat.le_refl _)) ?_
      refine OT.pures hT 1 rfl ?_
      refine OT.nil ?_
      refine KT.seq ?_
      refine TT.ret ?_
      refine RT.of (rs := [.cell 2 33, .tmp 3]) [_, _] ([] :: hs) rfl (.cell rfl (Ld.struct_all hT rfl (by repeat (first | exact Has.one | apply Has.there)) rfl) (.tmp rfl .nil)) (by repeat (first | exact Sel.refl _ | refine Sel.empty ?_ | refine Sel.pull (by repeat (first | exact Pull.head | apply Pull.tail)) ?_ | refine Sel.drop ?_)) ?_
      dsimp only [one]
      rw [← hres]
      exact ⟨_, [], rfl, rfl, Own.nil⟩
    ·
      have c25 : e = 0 := by simpa using c25
      rw [if_neg (by omega)] at hres
      have hk := hk c25
      have hk2 := @get_k (xs.drop at_.toNat)
      have hdl : (xs.drop at_.toNat).length = xs.length - at_.toNat := List.length_drop
      generalize hg2 : get (xs.drop at_.toNat) = q at *
      obtain ⟨k, n, e2⟩ := q
      dsimp only at *
      refine TT.skip ?_
      refine KT.seq ?_
      refine TT.seq ?_
      refine TT.region ?_
      refine OT.pures hT 2 rfl ?_
      refine OT.slice at_.toNat xs.length hT rfl rfl rfl rfl rfl hr.there (.inr ⟨.i64, by rw [Int.toNat_of_nonneg (by omega)]⟩) (.inl ⟨rfl, rfl⟩) (by omega) (by omega) rfl (fun v_30 hv_30 => ?_)
      refine OT.call Try.call37 rfl rfl rfl rfl (num_Get hv_30 (by rw [List.take_length, hdl]; omega)) ?_
      rintro v_31 hs_31 ⟨rfl, rfl⟩
      rw [List.take_length, hg2]
      dsimp only
      refine OT.pures hT 7 rfl ?_
      refine OT.nil ?_
      refine KT.seq ?_
      refine TT.seq ?_
      refine TT.seq ?_
      refine TT.region ?_
      refine OT.pures hT 3 rfl ?_
      refine OT.split 37 rfl (fun g37 => ?_) (fun g37 => ?_)
      ·
        have g37 : ¬ e2 = 0 := by simpa using g37
        rw [if_pos (.inl g37)] at hres
        refine OT.pures hT 7 rfl ?_
        refine OT.nil ?_
        refine KT.seq ?_
        refine TT.cond_true rfl ?_
        refine TT.seq ?_
        refine TT.region ?_
        refine OT.build (cs := [.int .i64 0, .slice none 0 0]) hT rfl Try.zeroValue33 rfl rfl rfl rfl ?_
        refine OT.store_all hT rfl rfl rfl rfl (by repeat (first | exact Pull.head | apply Pull.tail)) rfl rfl rfl (.inl (Nat.le_refl _)) ?_
        refine OT.pures hT 1 rfl ?_
        refine OT.nil ?_
        refine KT.seq ?_
        refine TT.ret ?_
        refine RT.of (rs := [.cell 2 33, .tmp 3]) [_, _] ([] :: hs) rfl (.cell rfl (Ld.struct_all hT rfl (by repeat (first | exact Has.one | apply Has.there)) rfl) (.tmp rfl .nil)) (by repeat (first | exact Sel.refl _ | refine Sel.empty ?_ | refine Sel.pull (by repeat (first | exact Pull.head | apply Pull.tail)) ?_ | refine Sel.drop ?_)) ?_
        dsimp only [one]
        rw [← hres]
        exact ⟨_, [], rfl, rfl, Own.nil⟩
      ·
        have g37 : e2 = 0 := by simpa using g37
        have hk2 := hk2 g37
        refine OT.pures hT 4 rfl ?_
        refine OT.split 41 rfl (fun g41 => ?_) (fun g41 => ?_)
        ·
          have g41 := of_decide_eq_true g41
          rw [if_pos (.inr (.inl g41))] at hres
          refine OT.pures hT 3 rfl ?_
          refine OT.nil ?_
          refine KT.seq ?_
          refine TT.cond_true rfl ?_
          refine TT.seq ?_
          refine TT.region ?_
          refine OT.build (cs := [.int .i64 0, .slice none 0 0]) hT rfl Try.zeroValue33 rfl rfl rfl rfl ?_
          refine OT.store_all hT rfl rfl rfl rfl (by repeat (first | exact Pull.head | apply Pull.tail)) rfl rfl rfl (.inl (Nat.le_refl _)) ?_
          refine OT.pures hT 1 rfl ?_
          refine OT.nil ?_
          refine KT.seq ?_
          refine TT.ret ?_
          refine RT.of (rs := [.cell 2 33, .tmp 3]) [_, _] ([] :: hs) rfl (.cell rfl (Ld.struct_all hT rfl (by repeat (first | exact Has.one | apply Has.there)) rfl) (.tmp rfl .nil)) (by repeat (first | exact Sel.refl _ | refine Sel.empty ?_ | refine Sel.pull (by repeat (first | exact Pull.head | apply Pull.tail)) ?_ | refine Sel.drop ?_)) ?_
          dsimp only [one]
          rw [← hres]
          exact ⟨_, [], rfl, rfl, Own.nil⟩
        ·
          have g41 := of_decide_eq_false g41
          refine OT.pures hT 3 rfl ?_
          refine OT.nil ?_
          refine KT.seq ?_
          refine TT.cond rfl (fun c44 => ?_) (fun c44 => ?_)
          ·
            have c44 := of_decide_eq_true c44
            rw [if_pos (.inr (.inr c44))] at hres
            refine TT.seq ?_
            refine TT.region ?_
            refine OT.build (cs := [.int .i64 0, .slice none 0 0]) hT rfl Try.zeroValue33 rfl rfl rfl rfl ?_
            refine OT.store_all hT rfl rfl rfl rfl (by repeat (first | exact Pull.head | apply Pull.tail)) rfl rfl rfl (.inl (Nat.le_refl _)) ?_
            refine OT.pures hT 1 rfl ?_
            refine OT.nil ?_
            refine KT.seq ?_
            refine TT.ret ?_
            refine RT.of (rs := [.cell 2 33, .tmp 3]) [_, _] ([] :: hs) rfl (.cell rfl (Ld.struct_all hT rfl (by repeat (first | exact Has.one | apply Has.there)) rfl) (.tmp rfl .nil)) (by repeat (first | exact Sel.refl _ | refine Sel.empty ?_ | refine Sel.pull (by repeat (first | exact Pull.head | apply Pull.tail)) ?_ | refine Sel.drop ?_)) ?_
            dsimp only [one]
            rw [← hres]
            exact ⟨_, [], rfl, rfl, Own.nil⟩
          ·
            have c44 := of_decide_eq_false c44
            rw [if_neg (by omega)] at hres
            have hp : thenSeal xs next [] (readSnaps xs k.toNat (at_ + n).toNat) = res := by
              rw [← hres]
              cases readSnaps xs k.toNat (at_ + n).toNat <;> rfl
            clear hres
            refine TT.skip ?_
            refine KT.seq ?_
            refine TT.seq ?_
            refine TT.region ?_
            refine OT.pures hT 2 rfl ?_
            refine OT.pures hT 1 rfl ?_
            refine OT.reg 48 rfl (v := .int .i64 (((at_ + n).toNat : Nat) : Int)) (int_eq (by rw [wrap_i64 (by omega) (by omega)]; omega)) ?_
            refine OT.pures hT 1 rfl ?_
            refine OT.nil ?_
            refine KT.seq ?_
            refine TT.seq ?_
            refine TT.region ?_
            refine OT.pures hT 1 rfl ?_
            refine OT.build (cs := [.int .i64 next, .slice none 0 0]) hT rfl Try.zeroValue33 rfl rfl rfl rfl ?_
            refine OT.alloc Try.zeroValue33 rfl rfl (fun b_9 => ?_)
            refine OT.store_all hT rfl rfl rfl rfl (by repeat (first | exact Pull.head | apply Pull.tail)) rfl rfl rfl (.inl (Nat.le_refl _)) ?_
            refine OT.nil ?_
            refine KT.seq ?_
            refine TT.seq ?_
            refine TT.seq ?_
            refine TT.region ?_
            refine OT.pures hT 2 rfl ?_
            refine OT.nil ?_
            refine KT.seq ?_
            refine TT.block ?_
            refine TT.chunk0 ?_
            refine TT.loop (ι := Nat × Nat × (List Snap) × (Option Addr) × Nat × Nat × Chunk) (fun j => (j.1) ≤ k.toNat ∧ (j.2.1) ≤ xs.length ∧ (j.2.2.1).length = (j.1) ∧ Own encSnap 35 42 (.slice (j.2.2.2.1) (j.2.2.2.2.1) (j.2.2.2.2.2.1)) (j.2.2.1) (j.2.2.2.2.2.2) ∧ thenSeal xs next (j.2.2.1) (readSnaps xs (k.toNat - (j.1)) (j.2.1)) = res) (fun j => k.toNat - (j.1)) (fun j => [(0, .slice a0 xs.length c0), (2, .pointer (some ⟨b_2, 0, none⟩)), (5, .int .i64 ((j.2.1) : Nat)), (9, .pointer (some ⟨b_9, 0, none⟩)), (51, .int .i64 k), (52, .int .i64 ((j.1) : Nat))]) (fun j => [(b_9, blk [.int .i64 next, .slice (j.2.2.2.1) (j.2.2.2.2.1) (j.2.2.2.2.2.1)] 33 (0, 0))] :: [(b_2, blk [.int .i64 0, .slice none 0 0] 33 (0, 0))] :: (j.2.2.2.2.2.2) :: hs) (0, (at_ + n).toNat, [], none, 0, 0, []) ?_ (SubR.cons rfl (SubR.cons rfl (SubR.cons rfl (SubR.cons rfl (SubR.cons rfl (SubR.cons rfl (SubR.nil _))))))) (by repeat (first | exact Sel.refl _ | refine Sel.empty ?_ | refine Sel.pull (by repeat (first | exact Pull.head | apply Pull.tail)) ?_ | refine Sel.drop ?_)) ?_
            · dsimp only
              exact ⟨by omega, by omega, rfl, Own.nil, hp⟩
            rintro ⟨i, a, acc, sa, sn, sc, K⟩ hI
            dsimp only at hI
            obtain ⟨hi, ha, hal, hO, hp⟩ := hI
            show TT _ _ _ [(0, .slice a0 xs.length c0), (2, .pointer (some ⟨b_2, 0, none⟩)), (5, .int .i64 (a : Nat)), (9, .pointer (some ⟨b_9, 0, none⟩)), (51, .int .i64 k), (52, .int .i64 (i : Nat))] ([(b_9, blk [.int .i64 next, .slice sa sn sc] 33 (0, 0))] :: [(b_2, blk [.int .i64 0, .slice none 0 0] 33 (0, 0))] :: K :: hs)
            refine TT.seq ?_
            refine TT.region ?_
            refine OT.pures hT 1 rfl ?_
            refine OT.nil ?_
            refine KT.seq ?_
            refine TT.seq ?_
            refine TT.cond rfl (fun c53 => ?_) (fun c53 => ?_)
            ·
              have c53 := of_decide_eq_true c53
              rw [show k.toNat - i = (k.toNat - (i + 1)) + 1 by omega, readSnaps] at hp
              have hk1 := oneS_k (xs.drop a)
              have h35 := oneS_len (xs.drop a)
              have hdl2 : (xs.drop a).length = xs.length - a := List.length_drop
              generalize hg3 : oneS (xs.drop a) = o at *
              obtain ⟨s, m⟩ := o
              dsimp only at *
              refine TT.skip ?_
              refine KT.seq ?_
              refine TT.seq ?_
              refine TT.block ?_
              refine TT.seq ?_
              refine TT.region ?_
              refine OT.pures hT 2 rfl ?_
              refine OT.slice a xs.length hT rfl rfl rfl rfl rfl hr.there.there.there (.inr ⟨_, rfl⟩) (.inl ⟨rfl, rfl⟩) (by omega) (by omega) rfl (fun v_57 hv_57 => ?_)
              refine OT.call Try.call38 rfl rfl rfl rfl (cat_one hv_57 (by rw [List.take_length, hdl2]; omega)) ?_
              rintro v_58 hs_58 ⟨rfl, rfl⟩
              rw [List.take_length, hg3]
              dsimp only
              refine OT.pures hT 3 rfl ?_
              refine OT.alloc Try.zeroValue42 rfl rfl (fun b_10 => ?_)
              refine OT.store_all hT rfl rfl rfl rfl (by repeat (first | exact Pull.head | apply Pull.tail)) (by exact h35) rfl (ones_snap s) (.inl (Nat.le_refl _)) ?_
              refine OT.pures hT 1 rfl ?_
              refine OT.nil ?_
              refine KT.seq ?_
              refine TT.seq ?_
              refine TT.seq ?_
              refine TT.region ?_
              refine OT.pures hT 2 rfl ?_
              refine OT.nil ?_
              refine KT.seq ?_
              refine TT.cond rfl (fun c62 => ?_) (fun c62 => ?_)
              ·
                have c62 : m = 0 := by simpa using c62
                rw [if_pos c62] at hp
                refine TT.seq ?_
                refine TT.region ?_
                refine OT.build (cs := [.int .i64 0, .slice none 0 0]) hT rfl Try.zeroValue33 rfl rfl rfl rfl ?_
                refine OT.store_all hT rfl rfl rfl rfl (by repeat (first | exact Pull.head | apply Pull.tail)) rfl rfl rfl (.inl (Nat.le_refl _)) ?_
                refine OT.pures hT 1 rfl ?_
                refine OT.nil ?_
                refine KT.seq ?_
                refine TT.ret ?_
                refine RT.of (rs := [.cell 2 33, .tmp 3]) [_, _] ([] :: hs) rfl (.cell rfl (Ld.struct_all hT rfl (by repeat (first | exact Has.one | apply Has.there)) rfl) (.tmp rfl .nil)) (by repeat (first | exact Sel.refl _ | refine Sel.empty ?_ | refine Sel.pull (by repeat (first | exact Pull.head | apply Pull.tail)) ?_ | refine Sel.drop ?_)) ?_
                dsimp only [one]
                rw [← hp]
                exact ⟨_, [], rfl, rfl, Own.nil⟩
              ·
                have c62 : ¬ m = 0 := by simpa using c62
                rw [if_neg c62, thenSeal_cons] at hp
                refine TT.skip ?_
                refine KT.seq ?_
                refine TT.seq ?_
                refine TT.region ?_
                refine OT.pures hT 1 rfl ?_
                refine OT.load rfl rfl (Ld.slc hT rfl (by repeat (first | exact Has.one | apply Has.there)) rfl) rfl ?_
                refine OT.load rfl rfl (Ld.struct_all hT rfl Has.one (by exact h35)) rfl ?_
                refine OT.buildSlice (enc := encSnap) (xs := [s]) (xos := [.tmp 66]) el22 rfl rfl rfl rfl rfl (by intro v hv; simp only [List.mem_singleton] at hv; subst hv; exact h35) (by intro x hx; simp only [List.mem_singleton] at hx; subst hx; exact h35) rfl (by decide) rfl (fun v_67 H_67 ho_67 => ?_)
                refine OT.append hT el22 rfl rfl rfl rfl (by repeat (first | exact Pull.head | apply Pull.tail)) hO ho_67.row (ones_snaps _) (by simp only [List.length_cons, List.length_nil]; omega) rfl (fun v_68 H_68 ho_68 => ?_)
                obtain ⟨a_68, c_68, hv68⟩ := (ho_68.row (hs := hs)).len
                generalize hn68 : (acc ++ [s]).length = n_68 at hv68
                subst hv68
                refine OT.pures hT 1 rfl ?_
                refine OT.store hT rfl rfl rfl rfl (by repeat (first | exact Pull.head | apply Pull.tail)) rfl (Nat.le_of_ble_eq_true rfl) rfl (.inl (Nat.le_refl _)) (cs' := [.int .i64 next, .slice a_68 n_68 c_68]) rfl ?_
                refine OT.nil ?_
                refine KT.seq ?_
                refine TT.region ?_
                refine OT.pures hT 4 rfl ?_
                refine OT.nil ?_
                refine KT.blk ?_
                refine KT.seq ?_
                refine TT.region ?_
                refine OT.pures hT 2 rfl ?_
                refine OT.nil ?_
                refine KT.loop (i + 1, a + m.toNat, acc ++ [s], a_68, n_68, c_68, H_68) ?_ ?_ (SubR.cons rfl (SubR.cons rfl (SubR.cons' rfl (by (try dsimp only); exact (int_eq (by rw [wrap_i64 (by omega) (by omega)]; omega))) (SubR.cons rfl (SubR.cons rfl (SubR.cons' rfl (by (try dsimp only); exact (int_eq (by rw [wrap_i64 (by omega) (by omega)]; omega))) (SubR.nil _))))))) (by repeat (first | exact Sel.refl _ | refine Sel.empty ?_ | refine Sel.pull (by repeat (first | exact Pull.head | apply Pull.tail)) ?_ | refine Sel.drop ?_))
                · dsimp only
                  refine ⟨by omega, by omega, by rw [List.length_append, hal]; rfl, ho_68, ?_⟩
                  rw [← hp]
                · dsimp only
                  omega
            ·
              have c53 := of_decide_eq_false c53
              rw [show k.toNat - i = 0 by omega, readSnaps] at hp
              dsimp only [thenSeal] at hp
              rw [List.append_nil] at hp
              unfold sealed at hp
              refine TT.exit ?_
              refine XT.seq ?_
              refine XT.loop ?_
              refine XT.here ?_
              refine KT.seq ?_
              refine TT.seq ?_
              refine TT.seq ?_
              refine TT.region ?_
              refine OT.load rfl rfl (Ld.struct_all hT rfl (by repeat (first | exact Has.one | apply Has.there)) rfl) rfl ?_
              refine OT.call Try.call13 rfl rfl rfl rfl (cat_Encode ((hO.row (hs := hs)).there.there) (by omega)) ?_
              rintro v_76 hs_76 ⟨w1, H1, rfl, rfl, hE⟩
              refine OT.pures hT 5 rfl ?_
              refine OT.nil ?_
              refine KT.seq ?_
              refine TT.seq ?_
              refine TT.region ?_
              refine OT.pures hT 3 rfl ?_
              refine OT.split 81 rfl (fun g81 => ?_) (fun g81 => ?_)
              ·
                have g81 : ¬ (encode next acc).2 = 0 := by simpa using g81
                rw [if_pos (.inl g81)] at hp
                refine OT.pures hT 5 rfl ?_
                refine OT.nil ?_
                refine KT.seq ?_
                refine TT.cond_true rfl ?_
                refine TT.seq ?_
                refine TT.region ?_
                refine OT.build (cs := [.int .i64 0, .slice none 0 0]) hT rfl Try.zeroValue33 rfl rfl rfl rfl ?_
                refine OT.store_all hT rfl rfl rfl rfl (by repeat (first | exact Pull.head | apply Pull.tail)) rfl rfl rfl (.inl (Nat.le_refl _)) ?_
                refine OT.pures hT 1 rfl ?_
                refine OT.nil ?_
                refine KT.seq ?_
                refine TT.ret ?_
                refine RT.of (rs := [.cell 2 33, .tmp 3]) [_, _] ([] :: hs) rfl (.cell rfl (Ld.struct_all hT rfl (by repeat (first | exact Has.one | apply Has.there)) rfl) (.tmp rfl .nil)) (by repeat (first | exact Sel.refl _ | refine Sel.empty ?_ | refine Sel.pull (by repeat (first | exact Pull.head | apply Pull.tail)) ?_ | refine Sel.drop ?_)) ?_
                dsimp only [one]
                rw [← hp]
                exact ⟨_, [], rfl, rfl, Own.nil⟩
              ·
                have g81 : (encode next acc).2 = 0 := by simpa using g81
                refine OT.pures hT 2 rfl ?_
                refine OT.call Try.call39 rfl rfl rfl rfl (by_Equal hE.row hr.there.there.there.there) ?_
                rintro v_84 hs_84 ⟨rfl, rfl⟩
                refine OT.pures hT 2 rfl ?_
                refine OT.nil ?_
                refine KT.seq ?_
                refine TT.cond rfl (fun c86 => ?_) (fun c86 => ?_)
                ·
                  have c86 : ¬ (encode next acc).1 = xs := by simpa using c86
                  rw [if_pos (.inr c86)] at hp
                  refine TT.seq ?_
                  refine TT.region ?_
                  refine OT.build (cs := [.int .i64 0, .slice none 0 0]) hT rfl Try.zeroValue33 rfl rfl rfl rfl ?_
                  refine OT.store_all hT rfl rfl rfl rfl (by repeat (first | exact Pull.head | apply Pull.tail)) rfl rfl rfl (.inl (Nat.le_refl _)) ?_
                  refine OT.pures hT 1 rfl ?_
                  refine OT.nil ?_
                  refine KT.seq ?_
                  refine TT.ret ?_
                  refine RT.of (rs := [.cell 2 33, .tmp 3]) [_, _] ([] :: hs) rfl (.cell rfl (Ld.struct_all hT rfl (by repeat (first | exact Has.one | apply Has.there)) rfl) (.tmp rfl .nil)) (by repeat (first | exact Sel.refl _ | refine Sel.empty ?_ | refine Sel.pull (by repeat (first | exact Pull.head | apply Pull.tail)) ?_ | refine Sel.drop ?_)) ?_
                  dsimp only [one]
                  rw [← hp]
                  exact ⟨_, [], rfl, rfl, Own.nil⟩
                ·
                  have c86 : (encode next acc).1 = xs := by simpa using c86
                  rw [if_neg (by rintro (h | h) <;> exact h (by assumption))] at hp
                  refine TT.skip ?_
                  refine KT.seq ?_
                  refine TT.seq ?_
                  refine TT.region ?_
                  refine OT.load rfl rfl (Ld.struct_all hT rfl (by repeat (first | exact Has.one | apply Has.there)) rfl) rfl ?_
                  refine OT.store_all hT rfl rfl rfl rfl (by repeat (first | exact Pull.head | apply Pull.tail)) rfl rfl rfl (.inl (Nat.le_refl _)) ?_
                  refine OT.pures hT 1 rfl ?_
                  refine OT.nil ?_
                  refine KT.seq ?_
                  refine TT.ret ?_
                  refine RT.of (rs := [.cell 2 33, .tmp 3]) [_, _] (K :: hs) rfl (.cell rfl (Ld.struct_all hT rfl (by repeat (first | exact Has.one | apply Has.there)) rfl) (.tmp rfl .nil)) (by repeat (first | exact Sel.refl _ | refine Sel.empty ?_ | refine Sel.pull (by repeat (first | exact Pull.head | apply Pull.tail)) ?_ | refine Sel.drop ?_)) ?_
                  dsimp only [one]
                  rw [← hp]
                  exact ⟨_, K, rfl, rfl, hO⟩

end Go.Proofs.Ytpijialhhdpobaa.Sx
