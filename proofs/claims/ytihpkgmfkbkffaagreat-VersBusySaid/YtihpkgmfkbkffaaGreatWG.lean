/- Several texts in one. Nodes as bytes. Printed by a program of ours off the loaded program and our notes; Lean checks it. Where a key stands among rising ones. Printed by a program of ours off the loaded program and our notes; Lean checks it. In which kid a key is. Printed by a program of ours off the loaded program and our notes; Lean checks it. Nodes, read off pages. Printed by a program of ours off the loaded program and our notes; Lean checks it. What the document says of floats, values, keys, cells. Printed by a program of ours off the loaded program and our notes; Lean checks it. What the laws of trees are made of. Printed by a program of ours off the loaded program and our notes; Lean checks it. How long a slice among the arguments may be. -/
import Derived.Test.YtihpkgmfkbkffaaGreatWF
import Derived.Test.YtihpkgmfkbkffaaGreatWC
import Derived.Test.YtihpkgmfkbkffaaGreatWB
import Derived.Test.YtihpkgmfkbkffaaGreatWD
import Derived.SizedLaws
set_option linter.unusedVariables false
set_option linter.unusedSimpArgs false
set_option linter.unusedSectionVars false

section
namespace Go.Proofs.YtihpkgmfkbkffaaGreat.Sx
open Go Go.Sx Go.Pl
variable [Outer]

set_option maxHeartbeats 4000000 in
set_option maxRecDepth 100000 in
theorem nd_Bytes {cs : List Value} {n : Nd} {hs : List Chunk} (h : NdAt hs cs n) (hm : MayNd n) (hlc : n.cells.length ≤ 1000) (hf : ∀ c ∈ n.cells, c.val.f < 2 ^ 64 ∧ c.new.f < 2 ^ 64) : Fun Tryz.prog 173 [.agg ⟨cs⟩] hs (fun v' hs' => ∃ K, hs' = K :: hs ∧ Own Go.Sx.encB 1 5 v' (ndBytes n) K) := by
  refine Fun.enter 58 Tryz.func173 rfl Tryz.ntmps173 rfl ?_
  obtain ⟨vc, vk, vi, rfl, hc, hk, hi⟩ := h.is
  obtain ⟨ac, cc, e1⟩ := hc.len
  obtain ⟨ak, ck, e2⟩ := hk.len
  obtain ⟨ai, ci, e3⟩ := hi.len
  subst e1 e2 e3
  refine TT.seq (.region (.box rfl rfl rfl (fun b_1 => ?_)))
  refine OT.pures hT 1 rfl (.nil (.seq (.seq (.seq (.region (.pures hT 1 rfl (.load rfl rfl (Ld.one hT rfl hz rfl) rfl ?_)))))))
  refine OT.nil (.seq (.cond rfl (fun c12 => ?_) (fun c12 => ?_)))
  ·
    obtain ⟨_, _, hmy, _⟩ := (may_leaf c12).1 hm
    have hpl := put_ten (n := n.cells.length) (by omega) (by omega)
    refine TT.seq (.region ?_)
    refine OT.buildSlice (enc := Go.Sx.encB) (xs := [(1 : UInt8)]) (xos := [.const (.int .u8 (1))]) el27 rfl rfl rfl rfl rfl (by simp [Value.cells]) (fun _ _ => rfl) rfl (by decide) rfl (fun v_13 H_13 ho_13 => ?_)
    refine OT.pures hT 1 rfl (.load rfl rfl (Ld.slc hT rfl hz rfl) rfl ?_)
    refine OT.pures hT 1 rfl (.call Tryz.call76 rfl rfl rfl rfl (Fun.pull pl (num_Put ho_13 (by omega) (by omega) (by decide))) ?_)
    rintro v_17 hs_17 ⟨K0, rfl, hK0⟩
    refine OT.pures hT 1 rfl (.nil (.seq (.seq (.seq (.region (.pures hT 1 rfl (.load rfl rfl (Ld.slc hT rfl hz rfl) rfl ?_)))))))
    refine OT.pures hT 2 rfl (.nil (.seq (.block (.loop (ι := Nat × Value × Chunk) (fun j => (j.1) ≤ n.cells.length ∧ Own Go.Sx.encB 1 5 (j.2.1) ((1 :: put n.cells.length) ++ (n.cells.take (j.1)).flatMap cellBytes) (j.2.2)) (fun j => n.cells.length - (j.1)) (fun j => [(1, .pointer (some ⟨b_1, 0, none⟩)), (3, (j.2.1)), (19, .slice ac n.cells.length cc), (20, .int .i64 (n.cells.length : Nat)), (21, .int .i64 ((j.1) : Nat))]) (fun j => (j.2.2) :: [(b_1, blk [.bool n.leaf, .slice ac n.cells.length cc, .slice ak n.keys.length ck, .slice ai n.kids.length ci] 159 (0, 0))] :: hs) (0, _, K0) ?_ (SubR.cons rfl (SubR.cons rfl (SubR.cons rfl (SubR.cons rfl (SubR.cons rfl (SubR.nil _)))))) sl ?_))))
    · dsimp only
      exact ⟨by omega, by rw [List.take_zero]; simpa using hK0⟩
    rintro ⟨i, w, K⟩ hI
    dsimp only at hI
    obtain ⟨hin, ho⟩ := hI
    show TT _ _ _ [(1, .pointer (some ⟨b_1, 0, none⟩)), (3, w), (19, .slice ac n.cells.length cc), (20, .int .i64 (n.cells.length : Nat)), (21, .int .i64 (i : Nat))] (K :: [(b_1, blk [.bool n.leaf, .slice ac n.cells.length cc, .slice ak n.keys.length ck, .slice ai n.kids.length ci] 159 (0, 0))] :: hs)
    have hfl : ((n.cells.take i).flatMap cellBytes).length ≤ 67 * i := by
      have := flat_len (f := cellBytes) (b := 67) (l := n.cells.take i) fun x hx => cellBytes_len (hmy x (List.mem_of_mem_take hx))
      rw [List.length_take] at this; omega
    refine TT.seq (.region (.pures hT 1 rfl (.nil (.seq (.seq (.cond rfl (fun c22 => ?_) (fun c22 => ?_)))))))
    ·
      have c22 := of_decide_eq_true c22
      obtain ⟨x, hx⟩ := nth (l := n.cells) (i := i) (by omega)
      have hmem := List.mem_of_getElem? hx
      have hok := cell_ok (hmy x hmem)
      obtain ⟨hf1, hf2⟩ := hf x hmem
      refine TT.skip (.seq (.seq (.block (.seq (.region (.index hT rfl rfl rfl rfl hc.there.there (by omega) (by rw [Int.toNat_natCast]; exact hx) rfl (fun ad_23 hel_23 => ?_)))))))
      refine OT.load rfl rfl (hel_23.ld_struct hT rfl) rfl (.alloc Tryz.zeroValue113 rfl rfl (fun b_5 => ?_))
      refine OT.store_all hT rfl rfl rfl rfl pl (by rfl) rfl (ones_cell x) (.inl (Nat.le_refl _)) ?_
      refine OT.nil (.seq (.region (.pures hT 1 rfl (.load rfl rfl (Ld.struct_all hT rfl hz rfl) rfl ?_))))
      refine OT.call Tryz.call199 rfl rfl rfl rfl (Fun.pull pl (cl_Put (x := x) ho ⟨by have := hok.k1; omega, by have := hok.k1; omega⟩ ⟨by have := hok.k2; omega, by have := hok.k2; omega⟩ ⟨by have := hok.txn; omega, by have := hok.txn; omega⟩ hf1 hf2 (Nat.le_trans hok.key (by decide)) (Nat.le_trans hok.s1 (by decide)) (Nat.le_trans hok.s2 (by decide)) (by rw [List.length_append, List.length_cons]; omega))) ?_
      rintro v_27 hs_27 ⟨K2, rfl, ho2⟩
      refine OT.pures hT 1 rfl (.nil (.blk (.seq (.region (.pures hT 2 rfl (.nil (.loop (i + 1, _, K2) ?_ ?_ (SubR.cons rfl (SubR.cons rfl (SubR.cons rfl (SubR.cons rfl (SubR.cons' rfl (by (try dsimp only); exact (int_eq (by rw [wrap_i64 (by omega) (by omega)]; omega))) (SubR.nil _)))))) sl)))))))
      · dsimp only
        exact ⟨by omega, by rw [flat_succ hx, ← List.append_assoc]; exact ho2⟩
      · dsimp only
        omega
    ·
      have c22 := of_decide_eq_false c22
      obtain rfl : i = n.cells.length := by omega
      rw [List.take_length] at ho
      refine TT.exit (.seq (.loop (.here (.seq (.seq (.region (.pures hT 2 rfl (.nil (.seq (.ret (.of (rs := [.tmp 2]) [_] (K :: hs) rfl (.tmp rfl .nil) sl ?_)))))))))))
      try dsimp only [one]
      exact ⟨K, rfl, by unfold ndBytes; rw [if_pos c12]; exact ho⟩
  ·
    obtain ⟨_, hmk, _, hmi, _, hl32, hkk⟩ := (may_ways c12).1 hm
    have hpl := put_ten (n := n.kids.length) (by omega) (by omega)
    refine TT.skip (.seq (.seq (.region ?_)))
    refine OT.buildSlice (enc := Go.Sx.encB) (xs := [(2 : UInt8)]) (xos := [.const (.int .u8 (2))]) el27 rfl rfl rfl rfl rfl (by simp [Value.cells]) (fun _ _ => rfl) rfl (by decide) rfl (fun v_30 H_30 ho_30 => ?_)
    refine OT.pures hT 1 rfl (.load rfl rfl (Ld.slc hT rfl hz rfl) rfl ?_)
    refine OT.pures hT 1 rfl (.call Tryz.call76 rfl rfl rfl rfl (Fun.pull pl (num_Put ho_30 (by omega) (by omega) (by decide))) ?_)
    rintro v_34 hs_34 ⟨K0, rfl, hK0⟩
    refine OT.pures hT 1 rfl (.nil (.seq (.seq (.seq (.region (.pures hT 1 rfl (.load rfl rfl (Ld.slc hT rfl hz rfl) rfl ?_)))))))
    refine OT.pures hT 2 rfl (.nil (.seq (.block (.loop (ι := Nat × Value × Chunk) (fun j => (j.1) ≤ n.kids.length ∧ Own Go.Sx.encB 1 5 (j.2.1) ((2 :: put n.kids.length) ++ (n.kids.take (j.1)).flatMap put) (j.2.2)) (fun j => n.kids.length - (j.1)) (fun j => [(1, .pointer (some ⟨b_1, 0, none⟩)), (6, (j.2.1)), (36, .slice ai n.kids.length ci), (37, .int .i64 (n.kids.length : Nat)), (38, .int .i64 ((j.1) : Nat))]) (fun j => (j.2.2) :: [(b_1, blk [.bool n.leaf, .slice ac n.cells.length cc, .slice ak n.keys.length ck, .slice ai n.kids.length ci] 159 (0, 0))] :: hs) (0, _, K0) ?_ (SubR.cons rfl (SubR.cons rfl (SubR.cons rfl (SubR.cons rfl (SubR.cons rfl (SubR.nil _)))))) sl ?_))))
    · dsimp only
      exact ⟨by omega, by rw [List.take_zero]; simpa using hK0⟩
    rintro ⟨i, w, K⟩ hI
    dsimp only at hI
    obtain ⟨hin, ho⟩ := hI
    show TT _ _ _ [(1, .pointer (some ⟨b_1, 0, none⟩)), (6, w), (36, .slice ai n.kids.length ci), (37, .int .i64 (n.kids.length : Nat)), (38, .int .i64 (i : Nat))] (K :: [(b_1, blk [.bool n.leaf, .slice ac n.cells.length cc, .slice ak n.keys.length ck, .slice ai n.kids.length ci] 159 (0, 0))] :: hs)
    have hfl : ((n.kids.take i).flatMap put).length ≤ 10 * i := by
      have := flat_len (f := put) (b := 10) (l := n.kids.take i) fun x hx => by have := hmi x (List.mem_of_mem_take hx); exact put_ten (by omega) (by omega)
      rw [List.length_take] at this; omega
    refine TT.seq (.region (.pures hT 1 rfl (.nil (.seq (.seq (.cond rfl (fun c39 => ?_) (fun c39 => ?_)))))))
    ·
      have c39 := of_decide_eq_true c39
      obtain ⟨x, hx⟩ := nth (l := n.kids) (i := i) (by omega)
      have hxi := hmi x (List.mem_of_getElem? hx)
      refine TT.skip (.seq (.seq (.block (.seq (.region (.index hT rfl rfl rfl rfl hi.there.there (by omega) (by rw [Int.toNat_natCast]; exact hx) rfl (fun ad_40 hel_40 => ?_)))))))
      refine OT.load rfl rfl (hel_40.ld_one hT rfl rfl) rfl (.pures hT 1 rfl (.nil (.seq (.region (.pures hT 2 rfl (.call Tryz.call76 rfl rfl rfl rfl (num_Put ho (by omega) (by omega) (by rw [List.length_append, List.length_cons]; omega)) ?_))))))
      rintro v_44 hs_44 ⟨K2, rfl, ho2⟩
      refine OT.pures hT 1 rfl (.nil (.blk (.seq (.region (.pures hT 2 rfl (.nil (.loop (i + 1, _, K2) ?_ ?_ (SubR.cons rfl (SubR.cons rfl (SubR.cons rfl (SubR.cons rfl (SubR.cons' rfl (by (try dsimp only); exact (int_eq (by rw [wrap_i64 (by omega) (by omega)]; omega))) (SubR.nil _)))))) sl)))))))
      · dsimp only
        exact ⟨by omega, by rw [flat_succ hx, ← List.append_assoc]; exact ho2⟩
      · dsimp only
        omega
    ·
      have c39 := of_decide_eq_false c39
      obtain rfl : i = n.kids.length := by omega
      rw [List.take_length] at ho hfl
      refine TT.exit (.seq (.loop (.here (.seq (.seq (.seq (.region (.pures hT 1 rfl (.load rfl rfl (Ld.slc hT rfl hz rfl) rfl ?_)))))))))
      refine OT.pures hT 2 rfl (.nil (.seq (.block (.loop (ι := Nat × Value × Chunk) (fun j => (j.1) ≤ n.keys.length ∧ Own Go.Sx.encB 1 5 (j.2.1) ((2 :: put n.kids.length) ++ n.kids.flatMap put ++ (n.keys.take (j.1)).flatMap putText) (j.2.2)) (fun j => n.keys.length - (j.1)) (fun j => [(1, .pointer (some ⟨b_1, 0, none⟩)), (6, (j.2.1)), (47, .slice ak n.keys.length ck), (48, .int .i64 (n.keys.length : Nat)), (49, .int .i64 ((j.1) : Nat))]) (fun j => (j.2.2) :: [(b_1, blk [.bool n.leaf, .slice ac n.cells.length cc, .slice ak n.keys.length ck, .slice ai n.kids.length ci] 159 (0, 0))] :: hs) (0, w, K) ?_ (SubR.cons rfl (SubR.cons rfl (SubR.cons rfl (SubR.cons rfl (SubR.cons rfl (SubR.nil _)))))) sl ?_))))
      · dsimp only
        exact ⟨by omega, by rw [List.take_zero]; simpa using ho⟩
      rintro ⟨i, w, K⟩ hI
      dsimp only at hI
      obtain ⟨hin, ho⟩ := hI
      show TT _ _ _ [(1, .pointer (some ⟨b_1, 0, none⟩)), (6, w), (47, .slice ak n.keys.length ck), (48, .int .i64 (n.keys.length : Nat)), (49, .int .i64 (i : Nat))] (K :: [(b_1, blk [.bool n.leaf, .slice ac n.cells.length cc, .slice ak n.keys.length ck, .slice ai n.kids.length ci] 159 (0, 0))] :: hs)
      have hfk : ((n.keys.take i).flatMap putText).length ≤ 27 * i := by
        have := flat_len (f := putText) (b := 27) (l := n.keys.take i) fun x hx => by
          have hmk1 := hmk x (List.mem_of_mem_take hx)
          unfold mayKey at hmk1
          rw [Bool.and_eq_true, decide_eq_true_eq, decide_eq_true_eq] at hmk1
          rw [putText_length]
          have := put_ten (n := x.size) (by omega) (by omega)
          omega
        rw [List.length_take] at this; omega
      refine TT.seq (.region (.pures hT 1 rfl (.nil (.seq (.seq (.cond rfl (fun c50 => ?_) (fun c50 => ?_)))))))
      ·
        have c50 := of_decide_eq_true c50
        obtain ⟨x, hx⟩ := nth (l := n.keys) (i := i) (by omega)
        have hxk := hmk x (List.mem_of_getElem? hx)
        unfold mayKey at hxk
        rw [Bool.and_eq_true, decide_eq_true_eq, decide_eq_true_eq] at hxk
        refine TT.skip (.seq (.seq (.block (.seq (.region (.index hT rfl rfl rfl rfl hk.there.there (by omega) (by rw [Int.toNat_natCast]; exact hx) rfl (fun ad_51 hel_51 => ?_)))))))
        refine OT.load rfl rfl (hel_51.ld_one hT rfl rfl) rfl (.pures hT 1 rfl (.nil (.seq (.region (.pures hT 2 rfl (.call Tryz.call77 rfl rfl rfl rfl (num_PutText ho (Nat.le_trans hxk.2 (by decide)) (by rw [List.length_append, List.length_append, List.length_cons]; omega)) ?_))))))
        rintro v_55 hs_55 ⟨K2, rfl, ho2⟩
        refine OT.pures hT 1 rfl (.nil (.blk (.seq (.region (.pures hT 2 rfl (.nil (.loop (i + 1, _, K2) ?_ ?_ (SubR.cons rfl (SubR.cons rfl (SubR.cons rfl (SubR.cons rfl (SubR.cons' rfl (by (try dsimp only); exact (int_eq (by rw [wrap_i64 (by omega) (by omega)]; omega))) (SubR.nil _)))))) sl)))))))
        · dsimp only
          exact ⟨by omega, by rw [flat_succ hx, ← List.append_assoc]; exact ho2⟩
        · dsimp only
          omega
      ·
        have c50 := of_decide_eq_false c50
        obtain rfl : i = n.keys.length := by omega
        rw [List.take_length] at ho
        refine TT.exit (.seq (.loop (.here (.seq (.seq (.region (.pures hT 2 rfl (.nil (.seq (.ret (.of (rs := [.tmp 2]) [_] (K :: hs) rfl (.tmp rfl .nil) sl ?_)))))))))))
        try dsimp only [one]
        exact ⟨K, rfl, by unfold ndBytes; rw [if_neg (by rw [c12]; simp)]; exact ho⟩

omit [Outer] in
theorem enc_bad {n : Nd} (h : ¬ MayNd n) : encNd n = ([], 1) := by unfold encNd; rw [if_neg h]
omit [Outer] in
theorem enc_full {n : Nd} (h : MayNd n) (h2 : 256 < (ndBytes n).length) : encNd n = ([], 4) := by unfold encNd; rw [if_pos h, if_pos h2]
omit [Outer] in
theorem enc_ok {n : Nd} (h : MayNd n) (h2 : ¬ 256 < (ndBytes n).length) : encNd n = (ndBytes n ++ List.replicate (256 - (ndBytes n).length) 0, 0) := by unfold encNd; rw [if_pos h, if_neg h2]

set_option maxHeartbeats 1000000 in
set_option maxRecDepth 100000 in
theorem nd_Size {cs : List Value} {n : Nd} {hs : List Chunk} (h : NdAt hs cs n) (hlc : n.cells.length ≤ 1000) (hlk : n.keys.length ≤ 1000000) (hli : n.kids.length ≤ 1000000) (hf : ∀ c ∈ n.cells, c.val.f < 2 ^ 64 ∧ c.new.f < 2 ^ 64) : Fun Tryz.prog 178 [.agg ⟨cs⟩] hs (fun v' hs' => ∃ K, hs' = K :: hs ∧ v' = .int .i64 (ndSize n : Nat)) := by
  refine Fun.enter 9 Tryz.func178 rfl Tryz.ntmps178 rfl ?_
  obtain ⟨vc, vk, vi, rfl, hc, hk, hi⟩ := h.is
  obtain ⟨ac, cc, e1⟩ := hc.len
  obtain ⟨ak, ck, e2⟩ := hk.len
  obtain ⟨ai, ci, e3⟩ := hi.len
  subst e1 e2 e3
  have h : NdAt hs [.bool n.leaf, .slice ac n.cells.length cc, .slice ak n.keys.length ck, .slice ai n.kids.length ci] n := ⟨_, _, _, rfl, hc, hk, hi⟩
  refine TT.seq (.region (.box rfl rfl rfl (fun b_1 => ?_)))
  refine OT.pures hT 1 rfl (.nil (.seq (.seq (.seq (.region (.load rfl rfl (Ld.struct_all hT rfl hz rfl) rfl ?_))))))
  refine OT.call Tryz.call138 rfl rfl rfl rfl (nd_May (h.mono fun _ _ => .there) (by omega) hlk hli) ?_
  rintro v_4 hs_4 ⟨rfl, rfl⟩
  refine OT.pures hT 1 rfl (.nil (.seq (.cond rfl (fun c5 => ?_) (fun c5 => ?_))))
  ·
    have hm : ¬ MayNd n := by simpa using c5
    refine TT.seq (.region (.pures hT 1 rfl (.nil (.seq (.ret (.of (rs := [.tmp 2]) [_] ([] :: hs) rfl (.tmp rfl .nil) sl ?_))))))
    try dsimp only [one]
    exact ⟨[], rfl, by unfold ndSize; rw [if_neg hm]; rfl⟩
  ·
    have hm : MayNd n := by simpa using c5
    refine TT.skip (.seq (.seq (.region (.load rfl rfl (Ld.struct_all hT rfl hz rfl) rfl ?_))))
    refine OT.call Tryz.call173 rfl rfl rfl rfl (nd_Bytes (h.mono fun _ _ => .there) hm hlc hf) ?_
    rintro v_7 hs_7 ⟨K, rfl, ho⟩
    obtain ⟨a7, c7, hv7⟩ := (ho.row (hs := [])).len
    subst hv7
    refine OT.pures hT 2 rfl (.nil (.seq (.ret (.of (rs := [.tmp 2]) [_] (K :: hs) rfl (.tmp rfl .nil) sl ?_))))
    try dsimp only [one]
    exact ⟨K, rfl, by unfold ndSize; rw [if_pos hm]⟩

set_option maxHeartbeats 1000000 in
set_option maxRecDepth 100000 in
theorem nd_Encode {cs : List Value} {n : Nd} {hs : List Chunk} (h : NdAt hs cs n) (hlc : n.cells.length ≤ 1000) (hlk : n.keys.length ≤ 1000000) (hli : n.kids.length ≤ 1000000) (hf : ∀ c ∈ n.cells, c.val.f < 2 ^ 64 ∧ c.new.f < 2 ^ 64) : Fun Tryz.prog 144 [.agg ⟨cs⟩] hs (fun v' hs' => ∃ K w, hs' = K :: hs ∧ v' = .tuple ⟨[w, .int .i64 (encNd n).2]⟩ ∧ Own Go.Sx.encB 1 5 w (encNd n).1 K) := by
  refine Fun.enter 18 Tryz.func144 rfl Tryz.ntmps144 rfl ?_
  obtain ⟨vc, vk, vi, rfl, hc, hk, hi⟩ := h.is
  obtain ⟨ac, cc, e1⟩ := hc.len
  obtain ⟨ak, ck, e2⟩ := hk.len
  obtain ⟨ai, ci, e3⟩ := hi.len
  subst e1 e2 e3
  have h : NdAt hs [.bool n.leaf, .slice ac n.cells.length cc, .slice ak n.keys.length ck, .slice ai n.kids.length ci] n := ⟨_, _, _, rfl, hc, hk, hi⟩
  refine TT.seq (.region (.box rfl rfl rfl (fun b_1 => ?_)))
  refine OT.pures hT 2 rfl (.nil (.seq (.seq (.seq (.region (.load rfl rfl (Ld.struct_all hT rfl hz rfl) rfl ?_))))))
  refine OT.call Tryz.call138 rfl rfl rfl rfl (nd_May (h.mono fun _ _ => .there) (by omega) hlk hli) ?_
  rintro v_6 hs_6 ⟨rfl, rfl⟩
  refine OT.pures hT 1 rfl (.nil (.seq (.cond rfl (fun c7 => ?_) (fun c7 => ?_))))
  ·
    have hm : ¬ MayNd n := by simpa using c7
    refine TT.seq (.region (.pures hT 2 rfl (.nil (.seq (.ret (.of (rs := [.tmp 2, .tmp 3]) [_, _] ([] :: hs) rfl (.tmp rfl (.tmp rfl .nil)) sl ?_))))))
    try dsimp only [one]
    rw [enc_bad hm]
    exact ⟨[], _, rfl, rfl, Own.nil⟩
  ·
    have hm : MayNd n := by simpa using c7
    refine TT.skip (.seq (.seq (.region (.load rfl rfl (Ld.struct_all hT rfl hz rfl) rfl ?_))))
    refine OT.call Tryz.call173 rfl rfl rfl rfl (nd_Bytes (h.mono fun _ _ => .there) hm hlc hf) ?_
    rintro v_9 hs_9 ⟨K, rfl, ho⟩
    obtain ⟨a9, c9, hv9⟩ := (ho.row (hs := [])).len
    subst hv9
    refine OT.pures hT 1 rfl (.nil (.seq (.seq (.seq (.region (.pures hT 3 rfl (.nil (.seq (.cond rfl (fun c12 => ?_) (fun c12 => ?_))))))))))
    ·
      have c12 := of_decide_eq_true c12
      refine TT.seq (.region (.pures hT 2 rfl (.nil (.seq (.ret (.of (rs := [.tmp 2, .tmp 3]) [_, _] ([] :: hs) rfl (.tmp rfl (.tmp rfl .nil)) sl ?_))))))
      try dsimp only [one]
      rw [enc_full hm (by omega)]
      exact ⟨[], _, rfl, rfl, Own.nil⟩
    ·
      have c12 := of_decide_eq_false c12
      refine TT.skip (.seq (.seq (.region (.pures hT 4 rfl (.append_zeros (z0 := (0 : UInt8)) (m := 256 - (ndBytes n).length) Tryz.zeroValue5 rfl rfl rfl hT el27 rfl rfl rfl (congrArg some (int_eq (by rw [wrap_i64 (by omega) (by omega)]; omega))) pl ho (by omega) rfl (fun v_17 H_17 ho_17 => ?_))))))
      refine OT.pures hT 2 rfl (.nil (.seq (.ret (.of (rs := [.tmp 2, .tmp 3]) [_, _] (H_17 :: hs) rfl (.tmp rfl (.tmp rfl .nil)) sl ?_))))
      try dsimp only [one]
      rw [enc_ok hm (by omega)]
      exact ⟨_, _, rfl, rfl, ho_17⟩

end Go.Proofs.YtihpkgmfkbkffaaGreat.Sx
end

section
namespace Go.Proofs.YtihpkgmfkbkffaaGreat.Sx
open Go Go.Sx Go.Pl
variable [Outer]

set_option maxHeartbeats 1000000 in
set_option maxRecDepth 100000 in
theorem sl_isNaNS {s : ByteArray} {hs : List Chunk} : Fun Tryz.prog 172 [.string s] hs (fun v' hs' => v' = .bool false ∧ hs = hs') := by
  refine Fun.enter 6 Tryz.func172 rfl Tryz.ntmps172 rfl ?_
  refine TT.seq (.region (.pures hT 1 rfl (.nil (.seq (.seq (.region (.pures hT 4 rfl (.nil (.seq (.ret (.of (rs := [.tmp 2]) [_] hs rfl (.tmp rfl .nil) sl ?_)))))))))))
  try dsimp only [one]
  refine ⟨congrArg Value.bool ?_, rfl⟩
  simp

set_option maxHeartbeats 1000000 in
set_option maxRecDepth 100000 in
theorem cmp_isNaNS {s : ByteArray} {hs : List Chunk} : Fun Tryz.prog 198 [.string s] hs (fun v' hs' => v' = .bool false ∧ hs = hs') := by
  refine Fun.enter 6 Tryz.func198 rfl Tryz.ntmps198 rfl ?_
  refine TT.seq (.region (.pures hT 1 rfl (.nil (.seq (.seq (.region (.pures hT 4 rfl (.nil (.seq (.ret (.of (rs := [.tmp 2]) [_] hs rfl (.tmp rfl .nil) sl ?_)))))))))))
  try dsimp only [one]
  refine ⟨congrArg Value.bool ?_, rfl⟩
  simp

set_option maxHeartbeats 1000000 in
set_option maxRecDepth 100000 in
theorem cmp_LessS {a b : ByteArray} {hs : List Chunk} : Fun Tryz.prog 171 [.string a, .string b] hs (fun v' hs' => v' = .bool (kLt a b) ∧ hs = hs') := by
  refine Fun.enter 17 Tryz.func171 rfl Tryz.ntmps171 rfl ?_
  refine TT.seq (.region (.pures hT 1 rfl (.nil (.seq (.seq (.region (.pures hT 1 rfl (.call Tryz.call198 rfl rfl rfl rfl (cmp_isNaNS) ?_))))))))
  rintro v_6 hs_6 ⟨rfl, rfl⟩
  refine OT.pures hT 1 rfl (.pures hT 10 rfl (.nil (.seq (.ret (.of (rs := [.tmp 4]) [_] hs rfl (.tmp rfl .nil) sl ?_)))))
  try dsimp only [one]
  refine ⟨congrArg Value.bool ?_, rfl⟩
  rfl

set_option maxHeartbeats 1000000 in
set_option maxRecDepth 100000 in
theorem sl_Search {v : Value} {l : List ByteArray} {k : ByteArray} {hs : List Chunk} (hr : Row Go.Sx.encS 1 hs v l) (hl : l.length ≤ 1000000) (hrs : rising l) : Fun Tryz.prog 139 [v, .string k] hs (fun v' hs' => ∃ i : Nat, v' = .tuple ⟨[.int .i64 (i : Nat), .bool (decide (l[i]? = some k))]⟩ ∧ Stands l k i ∧ hs = hs') := by
  refine Fun.enter 54 Tryz.func139 rfl Tryz.ntmps139 rfl ?_
  obtain ⟨a0, c0, hv⟩ := hr.len
  subst hv
  refine TT.seq (.region (.pures hT 2 rfl (.nil (.seq (.seq (.region (.pures hT 3 rfl (.nil (.seq (.seq (.region (.pures hT 3 rfl (.nil (.seq (.seq (.block (.loop (ι := Nat × Nat) (fun j => (j.1) ≤ (j.2) ∧ (j.2) ≤ l.length ∧ (∀ (z : Nat) (x : ByteArray), z < (j.1) → l[z]? = some x → kLt x k = true) ∧ (∀ (z : Nat) (x : ByteArray), (j.2) ≤ z → l[z]? = some x → kLt x k = false)) (fun j => (j.2) - (j.1)) (fun j => [(0, .slice a0 l.length c0), (1, .string k), (6, .int .i64 (l.length : Nat)), (7, .int .i64 ((j.1) : Nat)), (8, .int .i64 ((j.2) : Nat))]) (fun j => hs) (0, l.length) ?_ (SubR.cons rfl (SubR.cons rfl (SubR.cons rfl (SubR.cons rfl (SubR.cons rfl (SubR.nil _)))))) sl ?_)))))))))))))))))
  · dsimp only
    exact ⟨by omega, by omega, fun j x h => by omega, fun j x h hx => by rw [List.getElem?_eq_none (by omega)] at hx; cases hx⟩
  rintro ⟨p, q⟩ hI
  dsimp only at hI
  obtain ⟨hpq, hql, hlo, hhi⟩ := hI
  show TT _ _ _ [(0, .slice a0 l.length c0), (1, .string k), (6, .int .i64 (l.length : Nat)), (7, .int .i64 (p : Nat)), (8, .int .i64 (q : Nat))] (hs)
  refine TT.seq (.seq (.region (.pures hT 3 rfl (.nil (.seq (.cond rfl (fun c15 => ?_) (fun c15 => ?_)))))))
  ·
    have c15 := of_decide_eq_true c15
    obtain ⟨x, hx⟩ := nth (l := l) (i := (p + q) / 2) (by omega)
    refine TT.skip (.seq (.block (.seq (.region (.pures hT 7 rfl (.nil (.seq (.seq (.region (.pures hT 2 rfl (.reg 9 rfl (v := .int .i64 (((p + q) / 2 : Nat) : Int)) (int_eq (half (by omega))) (.reg 23 rfl (v := .int .i64 (((p + q) / 2 : Nat) : Int)) (int_eq (half (by omega))) (.index hT rfl rfl rfl rfl hr (by omega) (by rw [Int.toNat_natCast]; exact hx) rfl (fun ad_24 hel_24 => ?_))))))))))))))
    refine OT.load rfl rfl (hel_24.ld_one hT rfl rfl) rfl (.pures hT 1 rfl (.call Tryz.call171 rfl rfl rfl rfl (cmp_LessS) ?_))
    rintro v_27 hs_27 ⟨rfl, rfl⟩
    refine OT.nil (.seq (.cond rfl (fun c27 => ?_) (fun c27 => ?_)))
    ·
      refine TT.region (.pures hT 3 rfl (.nil (.blk (.loop ((p + q) / 2 + 1, q) ?_ ?_ (SubR.cons rfl (SubR.cons rfl (SubR.cons rfl (SubR.cons' rfl (by (try dsimp only); exact (int_eq (by rw [wrap_i64 (by omega) (by omega)]; omega))) (SubR.cons rfl (SubR.nil _)))))) sl))))
      · dsimp only
        refine ⟨by omega, hql, fun j y hj hy => ?_, hhi⟩
        by_cases e : j = (p + q) / 2
        · subst e; rw [hx] at hy; cases hy; exact c27
        · exact kLt_trans (rising_at hrs (by omega) hy hx) c27
      · dsimp only
        omega
    ·
      refine TT.region (.pures hT 2 rfl (.nil (.blk (.loop (p, (p + q) / 2) ?_ ?_ (SubR.cons rfl (SubR.cons rfl (SubR.cons rfl (SubR.cons rfl (SubR.cons rfl (SubR.nil _)))))) sl))))
      · dsimp only
        refine ⟨by omega, by omega, hlo, fun j y hj hy => ?_⟩
        by_cases e : j = (p + q) / 2
        · subst e; rw [hx] at hy; cases hy; exact c27
        · cases hh : kLt y k with
          | false => rfl
          | true => have := kLt_trans (rising_at hrs (by omega) hx hy) hh; rw [c27] at this; cases this
      · dsimp only
        omega
  ·
    have c15 := of_decide_eq_false c15
    obtain rfl : p = q := by omega
    refine TT.exit (.seq (.loop (.here (.seq (.seq (.region (.pures hT 5 rfl (.split 35 rfl (fun g35 => ?_) (fun g35 => ?_)))))))))
    ·
      obtain ⟨y, hy⟩ := nth (l := l) (i := p) (by have := of_decide_eq_true g35; omega)
      refine OT.pures hT 2 rfl (.index hT rfl rfl rfl rfl hr (by omega) (by rw [Int.toNat_natCast]; exact hy) rfl (fun ad_38 hel_38 => ?_))
      refine OT.load rfl rfl (hel_38.ld_one hT rfl rfl) rfl (.pures hT 3 rfl (.split 42 rfl (fun g42 => ?_) (fun g42 => ?_)))
      ·
        have g42 : y = k := of_decide_eq_true g42
        refine OT.pures hT 13 rfl (.nil (.seq (.ret (.of (rs := [.tmp 4, .tmp 5]) [_, _] hs rfl (.tmp rfl (.tmp rfl .nil)) sl ?_))))
        try dsimp only [one]
        exact ⟨p, by rw [hy, g42, decide_eq_true rfl]; rfl, ⟨by omega, hlo, hhi⟩, rfl⟩
      ·
        have g42 : ¬ y = k := of_decide_eq_false g42
        refine OT.pures hT 2 rfl (.index hT rfl rfl rfl rfl hr (by omega) (by rw [Int.toNat_natCast]; exact hy) rfl (fun ad_45 hel_45 => ?_))
        refine OT.load rfl rfl (hel_45.ld_one hT rfl rfl) rfl (.call Tryz.call172 rfl rfl rfl rfl (sl_isNaNS) ?_)
        rintro v_47 hs_47 ⟨rfl, rfl⟩
        refine OT.pures hT 1 rfl (.pures hT 7 rfl (.nil (.seq (.ret (.of (rs := [.tmp 4, .tmp 5]) [_, _] hs rfl (.tmp rfl (.tmp rfl .nil)) sl ?_)))))
        try dsimp only [one]
        exact ⟨p, by rw [hy, decide_eq_false (fun h => g42 (Option.some.inj h))]; rfl, ⟨by omega, hlo, hhi⟩, rfl⟩
    ·
      have g35 : ¬ p < l.length := by have := of_decide_eq_false g35; omega
      refine OT.pures hT 20 rfl (.nil (.seq (.ret (.of (rs := [.tmp 4, .tmp 5]) [_, _] hs rfl (.tmp rfl (.tmp rfl .nil)) sl ?_))))
      try dsimp only [one]
      exact ⟨p, by rw [List.getElem?_eq_none (by omega), decide_eq_false (by simp)]; rfl, ⟨by omega, hlo, hhi⟩, rfl⟩

end Go.Proofs.YtihpkgmfkbkffaaGreat.Sx
end

section
namespace Go.Proofs.YtihpkgmfkbkffaaGreat.Sx
open Go Go.Sx Go.Pl
variable [Outer]

set_option maxHeartbeats 1000000 in
set_option maxRecDepth 100000 in
theorem nd_Kid {cs : List Value} {n : Nd} {k : ByteArray} {hs : List Chunk} (h : NdAt hs cs n) (hlc : n.cells.length ≤ 1000) (hlk : n.keys.length ≤ 1000000) (hli : n.kids.length ≤ 1000000) : Fun Tryz.prog 97 [.agg ⟨cs⟩, .string k] hs (fun v' hs' => ((n.leaf = true ∨ ¬ MayNd n) ∧ v' = .int .i64 (-1) ∨ n.leaf = false ∧ MayNd n ∧ ∃ i : Nat, Stands n.keys k i ∧ v' = .int .i64 (if n.keys[i]? = some k then (i : Int) + 1 else (i : Int))) ∧ hs = hs') := by
  refine Fun.enter 25 Tryz.func97 rfl Tryz.ntmps97 rfl ?_
  obtain ⟨vc, vk, vi, rfl, hc, hk, hi⟩ := h.is
  obtain ⟨ac, cc, e1⟩ := hc.len
  obtain ⟨ak, ck, e2⟩ := hk.len
  obtain ⟨ai, ci, e3⟩ := hi.len
  subst e1 e2 e3
  have h : NdAt hs [.bool n.leaf, .slice ac n.cells.length cc, .slice ak n.keys.length ck, .slice ai n.kids.length ci] n := ⟨_, _, _, rfl, hc, hk, hi⟩
  refine TT.seq (.region (.box rfl rfl rfl (fun b_2 => ?_)))
  refine OT.pures hT 1 rfl (.nil (.seq (.seq (.seq (.region (.pures hT 1 rfl (.load rfl rfl (Ld.one hT rfl hz rfl) rfl ?_)))))))
  refine OT.pures hT 1 rfl (.split 9 rfl (fun g9 => ?_) (fun g9 => ?_))
  ·
    refine OT.pures hT 4 rfl (.nil (.seq (.cond_true rfl (.seq (.region (.pures hT 1 rfl (.nil (.seq (.ret (.of (rs := [.tmp 4]) [_] hs rfl (.tmp rfl .nil) sl ?_))))))))))
    try dsimp only [one]
    exact ⟨.inl ⟨.inl g9, rfl⟩, rfl⟩
  ·
    refine OT.load rfl rfl (Ld.struct_all hT rfl hz rfl) rfl ?_
    refine OT.call Tryz.call138 rfl rfl rfl rfl (nd_May (h.mono fun _ _ => .there) (by omega) hlk hli) ?_
    rintro v_11 hs_11 ⟨rfl, rfl⟩
    refine OT.pures hT 2 rfl (.nil (.seq (.cond rfl (fun c13 => ?_) (fun c13 => ?_))))
    ·
      have hm : ¬ MayNd n := by simpa using c13
      refine TT.seq (.region (.pures hT 1 rfl (.nil (.seq (.ret (.of (rs := [.tmp 4]) [_] hs rfl (.tmp rfl .nil) sl ?_))))))
      try dsimp only [one]
      exact ⟨.inl ⟨.inr hm, rfl⟩, rfl⟩
    ·
      have hm : MayNd n := by simpa using c13
      refine TT.skip (.seq (.seq (.region (.pures hT 1 rfl (.load rfl rfl (Ld.slc hT rfl hz rfl) rfl ?_)))))
      refine OT.pures hT 1 rfl (.call Tryz.call139 rfl rfl rfl rfl (sl_Search hk.there hlk ((may_ways (by simpa using g9)).1 hm).2.2.1) ?_)
      rintro v_18 hs_18 ⟨i, rfl, hst, rfl⟩
      refine OT.pures hT 5 rfl (.nil (.seq (.seq (.seq (.region (.pures hT 1 rfl (.nil (.seq (.cond rfl (fun c21 => ?_) (fun c21 => ?_))))))))))
      ·
        have c21 : n.keys[i]? = some k := of_decide_eq_true c21
        have hil := hst.le
        refine TT.region (.pures hT 3 rfl (.nil (.seq (.seq (.region (.pures hT 2 rfl (.nil (.seq (.ret (.of (rs := [.tmp 4]) [_] hs rfl (.tmp rfl .nil) sl ?_))))))))))
        try dsimp only [one]
        exact ⟨.inr ⟨by simpa using g9, hm, i, hst, int_eq (by rw [if_pos c21, wrap_i64 (by omega) (by omega)])⟩, rfl⟩
      ·
        have c21 : ¬ n.keys[i]? = some k := of_decide_eq_false c21
        refine TT.skip (.seq (.seq (.region (.pures hT 2 rfl (.nil (.seq (.ret (.of (rs := [.tmp 4]) [_] hs rfl (.tmp rfl .nil) sl ?_))))))))
        try dsimp only [one]
        exact ⟨.inr ⟨by simpa using g9, hm, i, hst, int_eq (by rw [if_neg c21])⟩, rfl⟩

end Go.Proofs.YtihpkgmfkbkffaaGreat.Sx
end

section
namespace Go.Proofs.YtihpkgmfkbkffaaGreat.Sx
open Go Go.Sx Go.Pl
variable [Outer]

set_option maxHeartbeats 1000000 in
set_option maxRecDepth 100000 in
theorem by_Equal {v w : Value} {xs ys : List UInt8} {hs : List Chunk} (hr : Row Go.Sx.encB 1 hs v xs) (hq : Row Go.Sx.encB 1 hs w ys) : Fun Tryz.prog 122 [v, w] hs (fun v' hs' => v' = .bool (decide (xs = ys)) ∧ hs = hs') := by
  refine Fun.enter 10 Tryz.func122 rfl Tryz.ntmps122 rfl ?_
  refine TT.seq (.region (.pures hT 1 rfl (.nil (.seq (.seq (.region (.pures hT 1 rfl (.conv_bs (fun _ => rfl) hT rfl rfl rfl rfl rfl hr rfl (.pures hT 1 rfl (.conv_bs (fun _ => rfl) hT rfl rfl rfl rfl rfl hq rfl (.pures hT 2 rfl (.nil (.seq (.ret (.of (rs := [.tmp 4]) [_] hs rfl (.tmp rfl .nil) sl ?_)))))))))))))))
  try dsimp only [one]
  refine ⟨congrArg Value.bool (decide_eq_decide.2 ?_), rfl⟩
  constructor
  · intro h; injection h with h; injection h
  · intro h; rw [h]

set_option maxHeartbeats 1000000 in
set_option maxRecDepth 100000 in
theorem rd_took {b : Nat} {vr : Value} {r : Rd} {hs0 hs : List Chunk} (hr : Row Go.Sx.encB 1 hs0 vr r.l) (hh : ∀ b o, Has hs0 b o → Has hs b o) {n e : Int} (hn : e = 0 → 0 ≤ n ∧ n ≤ r.l.length) : Fun Tryz.prog 169 [.pointer (some ⟨b, 0, none⟩), .int .i64 n, .int .i64 e] ([(b, blk [vr, .bool r.bad] 234 (0, 0))] :: hs) (fun v' hs' => v' = .tuple ⟨[]⟩ ∧ ∃ vr', hs' = [(b, blk [vr', .bool (r.took n e).bad] 234 (0, 0))] :: hs ∧ Row Go.Sx.encB 1 hs0 vr' (r.took n e).l) := by
  refine Fun.enter 31 Tryz.func169 rfl Tryz.ntmps169 rfl ?_
  obtain ⟨a0, c0, hv⟩ := hr.len
  subst hv
  refine TT.seq (.region (.pures hT 4 rfl (.load rfl rfl (Ld.one hT rfl hz rfl) rfl ?_)))
  refine OT.pures hT 1 rfl (.split 11 rfl (fun g11 => ?_) (fun g11 => ?_))
  ·
    have htk : r.took n e = ⟨r.l, true⟩ := by unfold Rd.took; rw [if_pos (.inl g11)]
    refine OT.pures hT 5 rfl (.store hT rfl rfl rfl rfl pl rfl (Nat.le_of_ble_eq_true rfl) rfl (.inl (Nat.le_refl _)) rfl ?_)
    refine OT.nil (.seq (.seq (.region (.pures hT 3 rfl (.load rfl rfl (Ld.one hT rfl hz rfl) rfl ?_)))))
    refine OT.pures hT 1 rfl (.nil (.seq (.cond_false rfl (.skip (.of (rs := []) [] ([(b, blk [.slice a0 r.l.length c0, .bool true] 234 (0, 0))] :: hs) rfl .nil sl ?_)))))
    try dsimp only [one]
    exact ⟨rfl, _, by rw [htk], by rw [htk]; exact hr⟩
  ·
    refine OT.pures hT 5 rfl (.store hT rfl rfl rfl rfl pl rfl (Nat.le_of_ble_eq_true rfl) rfl (.inl (Nat.le_refl _)) rfl ?_)
    refine OT.nil (.seq (.seq (.region (.pures hT 3 rfl (.load rfl rfl (Ld.one hT rfl hz rfl) rfl ?_)))))
    refine OT.pures hT 1 rfl (.nil (.seq (.cond rfl (fun c21 => ?_) (fun c21 => ?_))))
    ·
      obtain rfl : e = 0 := by simpa using c21
      have hn := hn rfl
      obtain ⟨m, rfl⟩ : ∃ m : Nat, n = m := ⟨n.toNat, by omega⟩
      refine TT.region (.pures hT 4 rfl (.load rfl rfl (Ld.slc hT rfl hz rfl) rfl ?_))
      refine OT.pures hT 1 rfl (.slice_val m r.l.length hT rfl rfl rfl rfl rfl (.inr ⟨_, rfl⟩) (.inl ⟨rfl, rfl⟩) (by omega) (by have := hr.cap_le; omega) rfl ?_)
      refine OT.pures hT 2 rfl (.store hT rfl rfl rfl rfl pl rfl (Nat.le_of_ble_eq_true rfl) rfl (.inl (Nat.le_refl _)) rfl ?_)
      refine OT.nil (.of (rs := []) [] ([(b, blk [_, .bool (0 != 0)] 234 (0, 0))] :: hs) rfl .nil sl ?_)
      try dsimp only [one]
      have hb : r.bad = false := g11
      have htk := Rd.took_good (n := (m : Int)) hb rfl
      have h2 := hr.sub (L := m) (M := r.l.length) (by omega) (Nat.le_refl _)
      rw [List.take_length] at h2
      exact ⟨rfl, _, by rw [htk]; rfl, by rw [htk]; dsimp only; rw [Int.toNat_natCast]; exact h2⟩
    ·
      have c21 : e ≠ 0 := by simpa using c21
      have htk : r.took n e = ⟨r.l, true⟩ := by unfold Rd.took; rw [if_pos (.inr c21)]
      refine TT.skip (.of (rs := []) [] ([(b, blk [.slice a0 r.l.length c0, .bool (e != 0)] 234 (0, 0))] :: hs) rfl .nil sl ?_)
      try dsimp only [one]
      exact ⟨rfl, _, by rw [htk, show (e != 0) = true by simpa using c21], by rw [htk]; exact hr⟩

set_option maxHeartbeats 1000000 in
set_option maxRecDepth 100000 in
theorem rd_num {b : Nat} {vr : Value} {r : Rd} {hs0 hs : List Chunk} (hr : Row Go.Sx.encB 1 hs0 vr r.l) (hh : ∀ b o, Has hs0 b o → Has hs b o) (hl : r.l.length ≤ 1000000) : Fun Tryz.prog 167 [.pointer (some ⟨b, 0, none⟩)] ([(b, blk [vr, .bool r.bad] 234 (0, 0))] :: hs) (fun v' hs' => v' = .int .i64 (get r.l).1 ∧ ∃ vr', hs' = [(b, blk [vr', .bool (r.took (get r.l).2.1 (get r.l).2.2).bad] 234 (0, 0))] :: hs ∧ Row Go.Sx.encB 1 hs0 vr' (r.took (get r.l).2.1 (get r.l).2.2).l) := by
  refine Fun.enter 20 Tryz.func167 rfl Tryz.ntmps167 rfl ?_
  have hk := @get_k r.l
  refine TT.seq (.region (.pures hT 1 rfl (.nil (.seq (.seq (.region (.pures hT 3 rfl (.load rfl rfl (Ld.slc hT rfl hz rfl) rfl ?_))))))))
  refine OT.call Tryz.call120 rfl rfl rfl rfl (num_Get ((hr.mono hh).there) (by omega)) ?_
  rintro v_11 hs_11 ⟨rfl, rfl⟩
  refine OT.pures hT 7 rfl (.nil (.seq (.seq (.region (.pures hT 3 rfl (.call Tryz.call169 rfl rfl rfl rfl (rd_took hr hh (fun h => by have := hk h; omega)) ?_))))))
  rintro v_18 hs_18 ⟨rfl, vr2, rfl, hr2⟩
  refine OT.nil (.seq (.seq (.region (.pures hT 2 rfl (.nil (.seq (.ret (.of (rs := [.tmp 2]) [_] ([(b, blk [vr2, .bool (r.took (get r.l).2.1 (get r.l).2.2).bad] 234 (0, 0))] :: hs) rfl (.tmp rfl .nil) sl ?_))))))))
  try dsimp only [one]
  exact ⟨rfl, vr2, rfl, hr2⟩

set_option maxHeartbeats 4000000 in
set_option maxRecDepth 100000 in
theorem nd_Decode {v : Value} {bs : List UInt8} {hs : List Chunk} (hr : Row Go.Sx.encB 1 hs v bs) : Fun Tryz.prog 134 [v] hs (fun v' hs' => ∃ K cs n e, hs' = K :: hs ∧ v' = .tuple ⟨[.agg ⟨cs⟩, .int .i64 e]⟩ ∧ NdOwn 113 9 3 cs n K ∧ DecR bs n e) := by
  refine Fun.enter 147 Tryz.func134 rfl Tryz.ntmps134 rfl ?_
  obtain ⟨a0, c0, hv⟩ := hr.len
  subst hv
  refine TT.seq (.region (.alloc Tryz.zeroValue159 rfl rfl (fun b_2 => ?_)))
  refine OT.pures hT 1 rfl (.nil (.seq (.seq (.seq (.region (.pures hT 3 rfl (.nil (.seq (.cond rfl (fun c20 => ?_) (fun c20 => ?_))))))))))
  ·
    have c20 : ¬ (bs.length : Int) = 256 := by simpa using c20
    refine TT.seq (.region (.build hT rfl Tryz.zeroValue159 rfl rfl rfl rfl (.store_all hT rfl rfl rfl rfl pl rfl rfl rfl (.inl (Nat.le_refl _)) ?_)))
    refine OT.pures hT 1 rfl (.nil (.seq (.ret (.of (rs := [.cell 2 159, .tmp 3]) [_, _] ([] :: hs) rfl (.cell rfl (Ld.struct_all hT rfl hz rfl) (.tmp rfl .nil)) sl ?_))))
    try dsimp only [one]
    exact ⟨[], _, noNd, 8, rfl, rfl, NdOwn.none _ _ _, .bad rfl rfl (fun ⟨n0, h0⟩ => c20 (by rw [h0.len]; rfl))⟩
  ·
    have c20 : (bs.length : Int) = 256 := by simpa using c20
    have hcap := hr.cap_le
    have hl : bs.length = 256 := by omega
    have hr1 := hr.sub (L := 1) (M := bs.length) (by omega) (Nat.le_refl _)
    rw [List.take_length] at hr1
    obtain ⟨y, hy⟩ := nth (l := bs) (i := 0) (by omega)
    refine TT.skip (.seq (.seq (.region (.pures hT 1 rfl (.slice_val 1 bs.length hT rfl rfl rfl rfl rfl (.inr ⟨_, rfl⟩) (.inl ⟨rfl, rfl⟩) (by omega) (by omega) rfl (.build hT rfl Tryz.zeroValue234 rfl rfl rfl rfl (.box rfl rfl rfl (fun b_25 => ?_))))))))
    refine OT.pures hT 1 rfl (.nil (.seq (.seq (.region (.pures hT 1 rfl (.index hT rfl rfl rfl rfl (hr.there.there) (by omega) (by exact hy) rfl (fun ad_27 hel_27 => ?_)))))))
    refine OT.load rfl rfl (hel_27.ld_one hT rfl rfl) rfl (.pures hT 1 rfl (.build (cs := [.bool ((y.toNat : Int) == 1), .slice none 0 0, .slice none 0 0, .slice none 0 0]) hT rfl Tryz.zeroValue159 rfl rfl rfl rfl ?_))
    obtain ⟨lf, hlf⟩ : ∃ b, ((y.toNat : Int) == 1) = b := ⟨_, rfl⟩
    rw [hlf]
    have hlf : ∀ n0, IsPage bs n0 → n0.leaf = lf := fun n0 h0 => by
      rw [page_first h0, hy, ← hlf]
      by_cases h : y = 1
      · subst h; rfl
      · rw [decide_eq_false (by simpa using h)]; symm; rw [beq_eq_false_iff_ne]; intro h2; exact h (UInt8.toNat_inj.1 (by show y.toNat = 1; omega))
    refine OT.alloc Tryz.zeroValue159 rfl rfl (fun b_5 => ?_)
    refine OT.store_all hT rfl rfl rfl rfl pl rfl rfl rfl (.inl (Nat.le_refl _)) ?_
    refine OT.nil (.seq (.cut (ι := Rd × Value × Value × (List Cell) × Chunk) (fun j => (∀ n0, IsPage bs n0 → n0.leaf = true → (j.1).bad = false ∧ n0 = ⟨true, (j.2.2.2.1), [], []⟩) ∧ (j.2.2.2.1).length ≤ 256 ∧ (∀ c ∈ (j.2.2.2.1), c.val.f < 2 ^ 64 ∧ c.new.f < 2 ^ 64) ∧ Own encCell 8 113 (j.2.2.1) (j.2.2.2.1) (j.2.2.2.2) ∧ (lf = false → (j.2.2.2.1) = [])) (fun j => [(0, .slice a0 bs.length c0), (2, .pointer (some ⟨b_2, 0, none⟩)), (4, .pointer (some ⟨b_25, 0, none⟩)), (5, .pointer (some ⟨b_5, 0, none⟩))]) (fun j => (j.2.2.2.2) :: [(b_25, blk [(j.2.1), .bool (j.1).bad] 234 (0, 0))] :: [(b_5, blk [.bool lf, (j.2.2.1), .slice none 0 0, .slice none 0 0] 159 (0, 0))] :: [(b_2, blk [.bool false, .slice none 0 0, .slice none 0 0, .slice none 0 0] 159 (0, 0))] :: hs) ?_ ?_))
    ·
      refine TT.seq (.region (.pures hT 1 rfl (.call Tryz.call167 rfl rfl rfl rfl (Fun.pull pl (rd_num (r := ⟨bs.drop 1, false⟩) hr1 (fun _ _ h => .there (.there h)) (by dsimp only; rw [List.length_drop]; omega))) ?_)))
      rintro v_32 hs_32 ⟨rfl, vr1, rfl, hr2⟩
      refine OT.pures hT 1 rfl (.nil (.seq (.block (.loop (ι := Int × Rd × Value × Value × (List Cell) × Chunk) (fun j => LfInv bs (j.1) (j.2.1) (j.2.2.2.2.1) ∧ Row Go.Sx.encB 1 hs (j.2.2.1) (j.2.1).l ∧ Own encCell 8 113 (j.2.2.2.1) (j.2.2.2.2.1) (j.2.2.2.2.2) ∧ (lf = false → (j.2.2.2.2.1) = []) ∧ (j.1) ≤ 9223372036854775807) (fun j => if (j.2.1).bad = true then 0 else (j.2.1).l.length + 1) (fun j => [(0, .slice a0 bs.length c0), (2, .pointer (some ⟨b_2, 0, none⟩)), (4, .pointer (some ⟨b_25, 0, none⟩)), (5, .pointer (some ⟨b_5, 0, none⟩)), (6, .int .i64 (j.1))]) (fun j => (j.2.2.2.2.2) :: [(b_25, blk [(j.2.2.1), .bool (j.2.1).bad] 234 (0, 0))] :: [(b_5, blk [.bool lf, (j.2.2.2.1), .slice none 0 0, .slice none 0 0] 159 (0, 0))] :: [(b_2, blk [.bool false, .slice none 0 0, .slice none 0 0, .slice none 0 0] 159 (0, 0))] :: hs) (_, _, vr1, .slice none 0 0, [], []) ?_ (SubR.cons rfl (SubR.cons rfl (SubR.cons rfl (SubR.cons rfl (SubR.cons rfl (SubR.nil _)))))) sl ?_))))
      · dsimp only
        exact ⟨LfInv.start hl, hr2, Own.nil, fun _ => rfl, (get_bound _).2⟩
      rintro ⟨k, r, vr, vc, cells, K⟩ hI
      dsimp only at hI
      obtain ⟨hI, hr3, hO, hz0, hkb⟩ := hI
      show TT _ _ _ [(0, .slice a0 bs.length c0), (2, .pointer (some ⟨b_2, 0, none⟩)), (4, .pointer (some ⟨b_25, 0, none⟩)), (5, .pointer (some ⟨b_5, 0, none⟩)), (6, .int .i64 k)] (K :: [(b_25, blk [vr, .bool r.bad] 234 (0, 0))] :: [(b_5, blk [.bool lf, vc, .slice none 0 0, .slice none 0 0] 159 (0, 0))] :: [(b_2, blk [.bool false, .slice none 0 0, .slice none 0 0, .slice none 0 0] 159 (0, 0))] :: hs)
      refine TT.seq (.seq (.region (.pures hT 3 rfl (.split 35 rfl (fun g35 => ?_) (fun g35 => ?_)))))
      ·
        have g35 := of_decide_eq_true g35
        refine OT.pures hT 3 rfl (.load rfl rfl (Ld.one hT rfl hz rfl) rfl ?_)
        refine OT.pures hT 3 rfl (.split 42 rfl (fun g42 => ?_) (fun g42 => ?_))
        ·
          have hb : r.bad = false := by simpa using g42
          have hrl := hI.room hb
          refine OT.pures hT 1 rfl (.load rfl rfl (Ld.one hT rfl hz rfl) rfl ?_)
          refine OT.pures hT 1 rfl (.nil (.seq (.cond rfl (fun c45 => ?_) (fun c45 => ?_))))
          ·
            refine TT.skip (.seq (.seq (.block (.seq (.region (.pures hT 3 rfl (.load rfl rfl (Ld.slc hT rfl hz rfl) rfl ?_)))))))
            refine OT.call Tryz.call168 rfl rfl rfl rfl (cl_Get (hr3.there.there.there.there) (by omega)) ?_
            rintro v_53 hs_53 ⟨rfl, rfl⟩
            refine OT.pures hT 4 rfl (.alloc Tryz.zeroValue113 rfl rfl (fun b_7 => ?_))
            refine OT.store_all hT rfl rfl rfl rfl pl rfl rfl rfl (.inl (Nat.le_refl _)) ?_
            refine OT.pures hT 2 rfl (.nil (.seq (.seq (.region (.pures hT 3 rfl (.call Tryz.call169 rfl rfl rfl rfl (Fun.pull pl (rd_took hr3 (fun _ _ h => (.there (.there (.there (.there h))))) (fun h => by have := cellGet_k h; omega))) ?_))))))
            rintro v_60 hs_60 ⟨rfl, vr3, rfl, hr4⟩
            refine OT.nil (.seq (.region (.pures hT 1 rfl (.load rfl rfl (Ld.slc hT rfl hz rfl) rfl ?_))))
            refine OT.load rfl rfl (Ld.struct_all hT rfl hz rfl) rfl ?_
            refine OT.buildSlice (enc := encCell) (xs := [(cellGet r.l).1]) (xos := [.tmp 63]) el122 rfl rfl rfl rfl rfl (by simp [Value.cells]; rfl) (fun _ _ => rfl) rfl (by decide) rfl (fun v_64 H_64 ho_64 => ?_)
            refine OT.append hT el122 rfl rfl rfl rfl pl hO ho_64.row rfl (by have := hI.few; simp only [List.length_singleton]; omega) rfl (fun v_65 H_65 ho_65 => ?_)
            obtain ⟨a65, e65, rfl⟩ := (ho_65.row (hs := hs)).len
            refine OT.pures hT 1 rfl (.store hT rfl rfl rfl rfl pl rfl (Nat.le_of_ble_eq_true rfl) rfl (.inl (Nat.le_refl _)) rfl ?_)
            refine OT.nil (.blk (.seq (.region (.pures hT 3 rfl (.nil (.loop (k - 1, r.took (cellGet r.l).2.1 (cellGet r.l).2.2, vr3, _, cells ++ [(cellGet r.l).1], H_65) ?_ ?_ (SubR.cons rfl (SubR.cons rfl (SubR.cons rfl (SubR.cons rfl (SubR.cons' rfl (by (try dsimp only); exact (int_eq (by rw [wrap_i64 (by omega) (by omega)]))) (SubR.nil _)))))) sl))))))
            · dsimp only
              exact ⟨(hI.step hb g35).1, hr4, ho_65, fun h => (by rw [c45] at h; cases h), by omega⟩
            · dsimp only
              exact took_lt hb (hI.step hb g35).2
          ·
            refine TT.exit (.seq (.loop (.here (.cut (r, vr, vc, cells, K) ?_ (SubR.cons rfl (SubR.cons rfl (SubR.cons rfl (SubR.cons rfl (SubR.nil _))))) sl))))
            · dsimp only
              exact ⟨fun n0 h0 hl => (by rw [hlf n0 h0, c45] at hl; cases hl), hI.few, hI.fl, hO, hz0⟩
        ·
          have hb : r.bad = true := by simpa using g42
          refine OT.pures hT 3 rfl (.nil (.seq (.cond_false rfl (.exit (.seq (.loop (.here (.cut (r, vr, vc, cells, K) ?_ (SubR.cons rfl (SubR.cons rfl (SubR.cons rfl (SubR.cons rfl (SubR.nil _))))) sl))))))))
          · dsimp only
            exact ⟨fun n0 h0 hl => read_leaf hI (.inr hb) h0 hl, hI.few, hI.fl, hO, hz0⟩
      ·
        have g35 := of_decide_eq_false g35
        refine OT.pures hT 10 rfl (.nil (.seq (.cond_false rfl (.exit (.seq (.loop (.here (.cut (r, vr, vc, cells, K) ?_ (SubR.cons rfl (SubR.cons rfl (SubR.cons rfl (SubR.cons rfl (SubR.nil _))))) sl))))))))
        · dsimp only
          exact ⟨fun n0 h0 hl => read_leaf hI (.inl g35) h0 hl, hI.few, hI.fl, hO, hz0⟩
    ·
      rintro ⟨r, vr, vc, cells, K⟩ hI
      dsimp only at hI
      obtain ⟨hlv, hcl, hfl, hO, hz0⟩ := hI
      show TT _ _ _ [(0, .slice a0 bs.length c0), (2, .pointer (some ⟨b_2, 0, none⟩)), (4, .pointer (some ⟨b_25, 0, none⟩)), (5, .pointer (some ⟨b_5, 0, none⟩))] (K :: [(b_25, blk [vr, .bool r.bad] 234 (0, 0))] :: [(b_5, blk [.bool lf, vc, .slice none 0 0, .slice none 0 0] 159 (0, 0))] :: [(b_2, blk [.bool false, .slice none 0 0, .slice none 0 0, .slice none 0 0] 159 (0, 0))] :: hs)
      refine TT.cut (ι := Nat × Rd × Value × (List Value) × Nd × Chunk) (fun j => NdOwn 113 9 3 (j.2.2.2.1) (j.2.2.2.2.1) (j.2.2.2.2.2) ∧ (∀ n0, IsPage bs n0 → (j.2.1).bad = false ∧ n0 = (j.2.2.2.2.1)) ∧ (j.2.2.2.2.1).cells.length ≤ 256 ∧ (j.2.2.2.2.1).keys.length ≤ 256 ∧ (j.2.2.2.2.1).kids.length ≤ 256 ∧ (∀ c ∈ (j.2.2.2.2.1).cells, c.val.f < 2 ^ 64 ∧ c.new.f < 2 ^ 64)) (fun j => [(0, .slice a0 bs.length c0), (2, .pointer (some ⟨b_2, 0, none⟩)), (4, .pointer (some ⟨(j.1), 0, none⟩)), (5, .pointer (some ⟨b_5, 0, none⟩))]) (fun j => (j.2.2.2.2.2) :: [((j.1), blk [(j.2.2.1), .bool (j.2.1).bad] 234 (0, 0))] :: [(b_5, blk (j.2.2.2.1) 159 (0, 0))] :: [(b_2, blk [.bool false, .slice none 0 0, .slice none 0 0, .slice none 0 0] 159 (0, 0))] :: hs) ?_ ?_
      ·
        refine TT.seq (.region (.pures hT 1 rfl (.load rfl rfl (Ld.one hT rfl hz rfl) rfl ?_)))
        refine OT.pures hT 1 rfl (.nil (.seq (.cond rfl (fun c69 => ?_) (fun c69 => ?_))))
        ·
          obtain rfl : lf = false := by simpa using c69
          obtain rfl := hz0 rfl
          refine TT.seq (.region (.pures hT 1 rfl (.slice_val 1 bs.length hT rfl rfl rfl rfl rfl (.inr ⟨_, rfl⟩) (.inl ⟨rfl, rfl⟩) (by omega) (by omega) rfl (.build hT rfl Tryz.zeroValue234 rfl rfl rfl rfl (.box rfl rfl rfl (fun b_73 => ?_))))))
          refine OT.pures hT 1 rfl (.nil (.seq (.seq (.region (.pures hT 1 rfl (.call Tryz.call167 rfl rfl rfl rfl (Fun.pull pl (rd_num (r := ⟨bs.drop 1, false⟩) hr1 (fun _ _ h => .there (.there (.there (.there h)))) (by dsimp only; rw [List.length_drop]; omega))) ?_))))))
          rintro v_75 hs_75 ⟨rfl, vr5, rfl, hr5⟩
          refine OT.pures hT 1 rfl (.nil (.seq (.cut (ι := Nat × Rd × Value × Value × (List Int) × Chunk) (fun j => KyInv bs (get (bs.drop 1)).1 1 (j.2.1) (j.2.2.2.2.1) [] ∧ Row Go.Sx.encB 1 hs (j.2.2.1) (j.2.1).l ∧ Own Go.Sx.encI 1 3 (j.2.2.2.1) (j.2.2.2.2.1) (j.2.2.2.2.2) ∧ (j.2.2.2.2.1).length ≤ 256) (fun j => [(0, .slice a0 bs.length c0), (2, .pointer (some ⟨b_2, 0, none⟩)), (4, .pointer (some ⟨b_73, 0, none⟩)), (5, .pointer (some ⟨b_5, 0, none⟩)), (10, .int .i64 (get (bs.drop 1)).1)]) (fun j => (j.2.2.2.2.2) :: K :: [(b_73, blk [(j.2.2.1), .bool (j.2.1).bad] 234 (0, 0))] :: [(b_5, blk [.bool false, vc, .slice none 0 0, (j.2.2.2.1)] 159 (0, 0))] :: [(b_2, blk [.bool false, .slice none 0 0, .slice none 0 0, .slice none 0 0] 159 (0, 0))] :: hs) ?_ ?_)))
          ·
            refine TT.seq (.region (.pures hT 1 rfl (.nil (.seq (.block (.loop (ι := Nat × Rd × Value × Value × (List Int) × Chunk) (fun j => KdInv bs (get (bs.drop 1)).1 (j.1) (j.2.1) (j.2.2.2.2.1) ∧ Row Go.Sx.encB 1 hs (j.2.2.1) (j.2.1).l ∧ Own Go.Sx.encI 1 3 (j.2.2.2.1) (j.2.2.2.2.1) (j.2.2.2.2.2)) (fun j => if (j.2.1).bad = true then 0 else (j.2.1).l.length + 1) (fun j => [(0, .slice a0 bs.length c0), (2, .pointer (some ⟨b_2, 0, none⟩)), (4, .pointer (some ⟨b_73, 0, none⟩)), (5, .pointer (some ⟨b_5, 0, none⟩)), (10, .int .i64 (get (bs.drop 1)).1), (11, .int .i64 ((j.1) : Nat))]) (fun j => (j.2.2.2.2.2) :: K :: [(b_73, blk [(j.2.2.1), .bool (j.2.1).bad] 234 (0, 0))] :: [(b_5, blk [.bool false, vc, .slice none 0 0, (j.2.2.2.1)] 159 (0, 0))] :: [(b_2, blk [.bool false, .slice none 0 0, .slice none 0 0, .slice none 0 0] 159 (0, 0))] :: hs) (0, _, vr5, .slice none 0 0, [], []) ?_ (SubR.cons rfl (SubR.cons rfl (SubR.cons rfl (SubR.cons rfl (SubR.cons rfl (SubR.cons rfl (SubR.nil _))))))) sl ?_))))))
            · dsimp only
              exact ⟨KdInv.start hl, hr5, Own.nil⟩
            rintro ⟨i, r, vr, vi, kids, KI⟩ hI
            dsimp only at hI
            obtain ⟨hI, hr3, hOi⟩ := hI
            show TT _ _ _ [(0, .slice a0 bs.length c0), (2, .pointer (some ⟨b_2, 0, none⟩)), (4, .pointer (some ⟨b_73, 0, none⟩)), (5, .pointer (some ⟨b_5, 0, none⟩)), (10, .int .i64 (get (bs.drop 1)).1), (11, .int .i64 (i : Nat))] (KI :: K :: [(b_73, blk [vr, .bool r.bad] 234 (0, 0))] :: [(b_5, blk [.bool false, vc, .slice none 0 0, vi] 159 (0, 0))] :: [(b_2, blk [.bool false, .slice none 0 0, .slice none 0 0, .slice none 0 0] 159 (0, 0))] :: hs)
            refine TT.seq (.seq (.region (.pures hT 4 rfl (.split 79 rfl (fun g79 => ?_) (fun g79 => ?_)))))
            ·
              have g79 := of_decide_eq_true g79
              refine OT.pures hT 3 rfl (.load rfl rfl (Ld.one hT rfl hz rfl) rfl ?_)
              refine OT.pures hT 2 rfl (.nil (.seq (.cond rfl (fun c85 => ?_) (fun c85 => ?_))))
              ·
                have hb : r.bad = false := by simpa using c85
                have hrl := hI.room hb
                have hkb := (get_bound (bs.drop 1)).2
                have hfw := hI.few
                have hik := hI.eqi
                refine TT.skip (.seq (.seq (.block (.draw (hs) mixed (.takes (fuel := 6) hT [0, 2] kr kr rfl (.all (fuel := 5) [1, 3] kr (by decide) sl ?_))))))
                intro i hi
                simp only [List.mem_cons, List.not_mem_nil, or_false] at hi
                rcases hi with rfl | rfl
                ·
                  refine ⟨_, rfl, ?_⟩
                  refine OT.load rfl rfl (Ld.slc hT rfl hz rfl) rfl ?_
                  refine OT.nil (.any (.op (fuel := 4) 3 kr rfl sl (.call Tryz.call167 rfl rfl rfl rfl (Fun.pull pl (rd_num hr3 (fun _ _ h => .there (.there (.there (.there h)))) (by omega))) ?_)))
                  rintro v_91 hs_91 ⟨rfl, vr3, rfl, hr4⟩
                  refine OT.nil (.any (.op (fuel := 3) 4 kr rfl sl ?_))
                  refine OT.buildSlice (enc := Go.Sx.encI) (xs := [(get r.l).1]) (xos := [.tmp 91]) el22 rfl rfl rfl rfl rfl (by simp [Value.cells]) (fun _ _ => rfl) rfl (by decide) rfl (fun v_92 H_92 ho_92 => ?_)
                  refine OT.nil (.any (.op (fuel := 2) 5 kr rfl sl ?_))
                  refine OT.append hT el22 rfl rfl rfl rfl pl hOi ho_92.row rfl (by simp only [List.length_singleton]; omega) rfl (fun v_93 H_93 ho_93 => ?_)
                  obtain ⟨a93, e93, rfl⟩ := (ho_93.row (hs := hs)).len
                  refine OT.nil (.any (.takes (fuel := 1) hT [6] kr kr rfl (.op (fuel := 0) 7 kr rfl sl (.store hT rfl rfl rfl rfl pl rfl (Nat.le_of_ble_eq_true rfl) rfl (.inl (Nat.le_refl _)) rfl ?_))))
                  refine OT.nil (.any (.done kr sl (.blk (.seq (.region (.pures hT 3 rfl (.nil (.loop (i + 1, r.took (get r.l).2.1 (get r.l).2.2, vr3, _, kids ++ [(get r.l).1], H_93) ?_ ?_ (SubR.cons rfl (SubR.cons rfl (SubR.cons rfl (SubR.cons rfl (SubR.cons rfl (SubR.cons' rfl (by (try dsimp only); exact (int_eq (by rw [wrap_i64 (by omega) (by omega)]; omega))) (SubR.nil _))))))) sl))))))))
                  · dsimp only
                    exact ⟨(hI.step hb g79).1, hr4, ho_93⟩
                  · dsimp only
                    exact took_lt hb (hI.step hb g79).2
                ·
                  refine ⟨_, rfl, ?_⟩
                  refine OT.call Tryz.call167 rfl rfl rfl rfl (Fun.pull pl (rd_num hr3 (fun _ _ h => .there (.there (.there (.there h)))) (by omega))) ?_
                  rintro v_91 hs_91 ⟨rfl, vr3, rfl, hr4⟩
                  refine OT.nil (.any (.all (fuel := 4) [1, 4] kr (by decide) sl ?_))
                  intro i hi
                  simp only [List.mem_cons, List.not_mem_nil, or_false] at hi
                  rcases hi with rfl | rfl
                  ·
                    refine ⟨_, rfl, ?_⟩
                    refine OT.load rfl rfl (Ld.slc hT rfl hz rfl) rfl ?_
                    refine OT.nil (.any (.op (fuel := 3) 4 kr rfl sl ?_))
                    refine OT.buildSlice (enc := Go.Sx.encI) (xs := [(get r.l).1]) (xos := [.tmp 91]) el22 rfl rfl rfl rfl rfl (by simp [Value.cells]) (fun _ _ => rfl) rfl (by decide) rfl (fun v_92 H_92 ho_92 => ?_)
                    refine OT.nil (.any (.op (fuel := 2) 5 kr rfl sl ?_))
                    refine OT.append hT el22 rfl rfl rfl rfl pl hOi ho_92.row rfl (by simp only [List.length_singleton]; omega) rfl (fun v_93 H_93 ho_93 => ?_)
                    obtain ⟨a93, e93, rfl⟩ := (ho_93.row (hs := hs)).len
                    refine OT.nil (.any (.takes (fuel := 1) hT [6] kr kr rfl (.op (fuel := 0) 7 kr rfl sl (.store hT rfl rfl rfl rfl pl rfl (Nat.le_of_ble_eq_true rfl) rfl (.inl (Nat.le_refl _)) rfl ?_))))
                    refine OT.nil (.any (.done kr sl (.blk (.seq (.region (.pures hT 3 rfl (.nil (.loop (i + 1, r.took (get r.l).2.1 (get r.l).2.2, vr3, _, kids ++ [(get r.l).1], H_93) ?_ ?_ (SubR.cons rfl (SubR.cons rfl (SubR.cons rfl (SubR.cons rfl (SubR.cons rfl (SubR.cons' rfl (by (try dsimp only); exact (int_eq (by rw [wrap_i64 (by omega) (by omega)]; omega))) (SubR.nil _))))))) sl))))))))
                    · dsimp only
                      exact ⟨(hI.step hb g79).1, hr4, ho_93⟩
                    · dsimp only
                      exact took_lt hb (hI.step hb g79).2
                  ·
                    refine ⟨_, rfl, ?_⟩
                    refine OT.buildSlice (enc := Go.Sx.encI) (xs := [(get r.l).1]) (xos := [.tmp 91]) el22 rfl rfl rfl rfl rfl (by simp [Value.cells]) (fun _ _ => rfl) rfl (by decide) rfl (fun v_92 H_92 ho_92 => ?_)
                    refine OT.nil (.any (.op (fuel := 3) 1 kr rfl sl (.load rfl rfl (Ld.slc hT rfl hz rfl) rfl ?_)))
                    refine OT.nil (.any (.op (fuel := 2) 5 kr rfl sl ?_))
                    refine OT.append hT el22 rfl rfl rfl rfl pl hOi ho_92.row rfl (by simp only [List.length_singleton]; omega) rfl (fun v_93 H_93 ho_93 => ?_)
                    obtain ⟨a93, e93, rfl⟩ := (ho_93.row (hs := hs)).len
                    refine OT.nil (.any (.takes (fuel := 1) hT [6] kr kr rfl (.op (fuel := 0) 7 kr rfl sl (.store hT rfl rfl rfl rfl pl rfl (Nat.le_of_ble_eq_true rfl) rfl (.inl (Nat.le_refl _)) rfl ?_))))
                    refine OT.nil (.any (.done kr sl (.blk (.seq (.region (.pures hT 3 rfl (.nil (.loop (i + 1, r.took (get r.l).2.1 (get r.l).2.2, vr3, _, kids ++ [(get r.l).1], H_93) ?_ ?_ (SubR.cons rfl (SubR.cons rfl (SubR.cons rfl (SubR.cons rfl (SubR.cons rfl (SubR.cons' rfl (by (try dsimp only); exact (int_eq (by rw [wrap_i64 (by omega) (by omega)]; omega))) (SubR.nil _))))))) sl))))))))
                    · dsimp only
                      exact ⟨(hI.step hb g79).1, hr4, ho_93⟩
                    · dsimp only
                      exact took_lt hb (hI.step hb g79).2
              ·
                have hb : r.bad = true := by simpa using c85
                refine TT.exit (.seq (.loop (.here (.cut (i, r, vr, vi, kids, KI) ?_ (SubR.cons rfl (SubR.cons rfl (SubR.cons rfl (SubR.cons rfl (SubR.cons rfl (SubR.nil _)))))) sl))))
                · dsimp only
                  exact ⟨KyInv.start hI (.inr hb), hr3, hOi, hI.few⟩
            ·
              have g79 := of_decide_eq_false g79
              refine OT.pures hT 6 rfl (.nil (.seq (.cond_false rfl (.exit (.seq (.loop (.here (.cut (i, r, vr, vi, kids, KI) ?_ (SubR.cons rfl (SubR.cons rfl (SubR.cons rfl (SubR.cons rfl (SubR.cons rfl (SubR.nil _)))))) sl))))))))
              · dsimp only
                exact ⟨KyInv.start hI (.inl g79), hr3, hOi, hI.few⟩
          ·
            rintro ⟨i, r, vr, vi, kids, KI⟩ hI
            dsimp only at hI
            obtain ⟨hI2, hr3, hOi, hk6⟩ := hI
            show TT _ _ _ [(0, .slice a0 bs.length c0), (2, .pointer (some ⟨b_2, 0, none⟩)), (4, .pointer (some ⟨b_73, 0, none⟩)), (5, .pointer (some ⟨b_5, 0, none⟩)), (10, .int .i64 (get (bs.drop 1)).1)] (KI :: K :: [(b_73, blk [vr, .bool r.bad] 234 (0, 0))] :: [(b_5, blk [.bool false, vc, .slice none 0 0, vi] 159 (0, 0))] :: [(b_2, blk [.bool false, .slice none 0 0, .slice none 0 0, .slice none 0 0] 159 (0, 0))] :: hs)
            refine TT.seq (.region (.pures hT 1 rfl (.nil (.seq (.block (.loop (ι := Nat × Rd × Value × Value × (List ByteArray) × Chunk) (fun j => KyInv bs (get (bs.drop 1)).1 (j.1) (j.2.1) kids (j.2.2.2.2.1) ∧ Row Go.Sx.encB 1 hs (j.2.2.1) (j.2.1).l ∧ Own Go.Sx.encS 1 9 (j.2.2.2.1) (j.2.2.2.2.1) (j.2.2.2.2.2)) (fun j => if (j.2.1).bad = true then 0 else (j.2.1).l.length + 1) (fun j => [(0, .slice a0 bs.length c0), (2, .pointer (some ⟨b_2, 0, none⟩)), (4, .pointer (some ⟨b_73, 0, none⟩)), (5, .pointer (some ⟨b_5, 0, none⟩)), (10, .int .i64 (get (bs.drop 1)).1), (12, .int .i64 ((j.1) : Nat))]) (fun j => (j.2.2.2.2.2) :: KI :: K :: [(b_73, blk [(j.2.2.1), .bool (j.2.1).bad] 234 (0, 0))] :: [(b_5, blk [.bool false, vc, (j.2.2.2.1), vi] 159 (0, 0))] :: [(b_2, blk [.bool false, .slice none 0 0, .slice none 0 0, .slice none 0 0] 159 (0, 0))] :: hs) (1, _, vr, .slice none 0 0, [], []) ?_ (SubR.cons rfl (SubR.cons rfl (SubR.cons rfl (SubR.cons rfl (SubR.cons rfl (SubR.cons rfl (SubR.nil _))))))) sl ?_))))))
            · dsimp only
              exact ⟨hI2, hr3, Own.nil⟩
            rintro ⟨i, r, vr, vk, keys, KK⟩ hI
            dsimp only at hI
            obtain ⟨hI, hr6, hOk⟩ := hI
            show TT _ _ _ [(0, .slice a0 bs.length c0), (2, .pointer (some ⟨b_2, 0, none⟩)), (4, .pointer (some ⟨b_73, 0, none⟩)), (5, .pointer (some ⟨b_5, 0, none⟩)), (10, .int .i64 (get (bs.drop 1)).1), (12, .int .i64 (i : Nat))] (KK :: KI :: K :: [(b_73, blk [vr, .bool r.bad] 234 (0, 0))] :: [(b_5, blk [.bool false, vc, vk, vi] 159 (0, 0))] :: [(b_2, blk [.bool false, .slice none 0 0, .slice none 0 0, .slice none 0 0] 159 (0, 0))] :: hs)
            refine TT.seq (.seq (.region (.pures hT 4 rfl (.split 98 rfl (fun g98 => ?_) (fun g98 => ?_)))))
            ·
              have g98 := of_decide_eq_true g98
              refine OT.pures hT 3 rfl (.load rfl rfl (Ld.one hT rfl hz rfl) rfl ?_)
              refine OT.pures hT 2 rfl (.nil (.seq (.cond rfl (fun c104 => ?_) (fun c104 => ?_))))
              ·
                have hb : r.bad = false := by simpa using c104
                have hrl := hI.room hb
                have hkb := (get_bound (bs.drop 1)).2
                have hfw := hI.few
                have hik := hI.eqi
                refine TT.skip (.seq (.seq (.block (.seq (.region (.pures hT 3 rfl (.load rfl rfl (Ld.slc hT rfl hz rfl) rfl ?_)))))))
                refine OT.call Tryz.call160 rfl rfl rfl rfl (num_GetText (hr6.there.there.there.there.there.there) (by omega)) ?_
                rintro v_112 hs_112 ⟨rfl, rfl⟩
                refine OT.pures hT 7 rfl (.nil (.seq (.seq (.region (.pures hT 3 rfl (.call Tryz.call169 rfl rfl rfl rfl (Fun.pull pl (rd_took hr6 (fun _ _ h => .there (.there (.there (.there (.there h))))) (fun h => by have := getText_k h; omega))) ?_))))))
                rintro v_119 hs_119 ⟨rfl, vr3, rfl, hr4⟩
                refine OT.nil (.seq (.region (.pures hT 1 rfl (.load rfl rfl (Ld.slc hT rfl hz rfl) rfl ?_))))
                refine OT.pures hT 1 rfl ?_
                refine OT.buildSlice (enc := Go.Sx.encS) (xs := [(getText r.l).1]) (xos := [.tmp 122]) el91 rfl rfl rfl rfl rfl (by simp [Value.cells]) (fun _ _ => rfl) rfl (by decide) rfl (fun v_123 H_123 ho_123 => ?_)
                refine OT.append hT el91 rfl rfl rfl rfl pl hOk ho_123.row rfl (by simp only [List.length_singleton]; omega) rfl (fun v_124 H_124 ho_124 => ?_)
                obtain ⟨a124, e124, rfl⟩ := (ho_124.row (hs := hs)).len
                refine OT.pures hT 1 rfl (.store hT rfl rfl rfl rfl pl rfl (Nat.le_of_ble_eq_true rfl) rfl (.inl (Nat.le_refl _)) rfl ?_)
                refine OT.nil (.blk (.seq (.region (.pures hT 3 rfl (.nil (.loop (i + 1, r.took (getText r.l).2.1 (getText r.l).2.2, vr3, _, keys ++ [(getText r.l).1], H_124) ?_ ?_ (SubR.cons rfl (SubR.cons rfl (SubR.cons rfl (SubR.cons rfl (SubR.cons rfl (SubR.cons' rfl (by (try dsimp only); exact (int_eq (by rw [wrap_i64 (by omega) (by omega)]; omega))) (SubR.nil _))))))) sl))))))
                · dsimp only
                  exact ⟨(hI.step hb g98).1, hr4, ho_124⟩
                · dsimp only
                  exact took_lt hb (hI.step hb g98).2
              ·
                have hb : r.bad = true := by simpa using c104
                refine TT.exit (.seq (.loop (.here (.cut (b_73, r, vr, [.bool false, vc, vk, vi], ⟨false, [], keys, kids⟩, K ++ (KK ++ KI)) ?_ (SubR.cons rfl (SubR.cons rfl (SubR.cons rfl (SubR.cons rfl (SubR.nil _))))) sl))))
                · dsimp only
                  exact ⟨⟨_, _, _, K, KK, KI, rfl, rfl, hO, hOk, hOi⟩, fun n0 h0 => read_ways hI (.inr hb) h0 (hlf n0 h0), by simp, hI.few, hk6, by simp⟩
            ·
              have g98 := of_decide_eq_false g98
              refine OT.pures hT 6 rfl (.nil (.seq (.cond_false rfl (.exit (.seq (.loop (.here (.cut (b_73, r, vr, [.bool false, vc, vk, vi], ⟨false, [], keys, kids⟩, K ++ (KK ++ KI)) ?_ (SubR.cons rfl (SubR.cons rfl (SubR.cons rfl (SubR.cons rfl (SubR.nil _))))) sl))))))))
              · dsimp only
                exact ⟨⟨_, _, _, K, KK, KI, rfl, rfl, hO, hOk, hOi⟩, fun n0 h0 => read_ways hI (.inl g98) h0 (hlf n0 h0), by simp, hI.few, hk6, by simp⟩
        ·
          obtain rfl : lf = true := by simpa using c69
          refine TT.skip (.cut (b_25, r, vr, [.bool true, vc, .slice none 0 0, .slice none 0 0], ⟨true, cells, [], []⟩, K ++ ([] ++ [])) ?_ (SubR.cons rfl (SubR.cons rfl (SubR.cons rfl (SubR.cons rfl (SubR.nil _))))) (by rw [List.append_nil, List.append_nil]; exact sl))
          · dsimp only
            exact ⟨⟨_, _, _, K, [], [], rfl, rfl, hO, Own.nil, Own.nil⟩, fun n0 h0 => hlv n0 h0 (hlf n0 h0), hcl, by simp, by simp, hfl⟩
      ·
        rintro ⟨bR, r, vr, cs, n, K⟩ hI
        dsimp only at hI
        obtain ⟨hN, hn0, hc6, hk6, hi6, hf6⟩ := hI
        show TT _ _ _ [(0, .slice a0 bs.length c0), (2, .pointer (some ⟨b_2, 0, none⟩)), (4, .pointer (some ⟨bR, 0, none⟩)), (5, .pointer (some ⟨b_5, 0, none⟩))] (K :: [(bR, blk [vr, .bool r.bad] 234 (0, 0))] :: [(b_5, blk cs 159 (0, 0))] :: [(b_2, blk [.bool false, .slice none 0 0, .slice none 0 0, .slice none 0 0] 159 (0, 0))] :: hs)
        refine TT.seq (.region (.load rfl rfl (Ld.struct_all hT rfl hz hN.four) rfl ?_))
        refine OT.call Tryz.call144 rfl rfl rfl rfl (nd_Encode (hN.at _) (by omega) (by omega) (by omega) hf6) ?_
        rintro v_128 hs_128 ⟨KE, wE, rfl, rfl, hoE⟩
        refine OT.pures hT 5 rfl (.nil (.seq (.seq (.seq (.region (.pures hT 3 rfl (.load rfl rfl (Ld.one hT rfl hz rfl) rfl ?_)))))))
        refine OT.pures hT 1 rfl (.split 135 rfl (fun g135 => ?_) (fun g135 => ?_))
        ·
          refine OT.pures hT 9 rfl (.nil (.seq (.cond_true rfl (.seq (.region (.build hT rfl Tryz.zeroValue159 rfl rfl rfl rfl (.store_all hT rfl rfl rfl rfl pl rfl rfl rfl (.inl (Nat.le_refl _)) ?_)))))))
          refine OT.pures hT 1 rfl (.nil (.seq (.ret (.of (rs := [.cell 2 159, .tmp 3]) [_, _] ([] :: hs) rfl (.cell rfl (Ld.struct_all hT rfl hz rfl) (.tmp rfl .nil)) sl ?_))))
          try dsimp only [one]
          exact ⟨[], _, noNd, 8, rfl, rfl, NdOwn.none _ _ _, .bad rfl rfl (fun ⟨n0, h0⟩ => by have := (hn0 n0 h0).1; rw [g135] at this; cases this)⟩
        ·
          refine OT.pures hT 4 rfl (.split 139 rfl (fun g139 => ?_) (fun g139 => ?_))
          ·
            have g139 : (encNd n).2 ≠ 0 := by simpa using g139
            refine OT.pures hT 5 rfl (.nil (.seq (.cond_true rfl (.seq (.region (.build hT rfl Tryz.zeroValue159 rfl rfl rfl rfl (.store_all hT rfl rfl rfl rfl pl rfl rfl rfl (.inl (Nat.le_refl _)) ?_)))))))
            refine OT.pures hT 1 rfl (.nil (.seq (.ret (.of (rs := [.cell 2 159, .tmp 3]) [_, _] ([] :: hs) rfl (.cell rfl (Ld.struct_all hT rfl hz rfl) (.tmp rfl .nil)) sl ?_))))
            try dsimp only [one]
            exact ⟨[], _, noNd, 8, rfl, rfl, NdOwn.none _ _ _, .bad rfl rfl (fun ⟨n0, h0⟩ => by have := (hn0 n0 h0).2; subst this; exact g139 (enc_fits.2 h0.1.fits))⟩
          ·
            have g139 : (encNd n).2 = 0 := by simpa using g139
            refine OT.pures hT 2 rfl (.call Tryz.call122 rfl rfl rfl rfl (by_Equal (hoE.row) (hr.there.there.there.there.there)) ?_)
            rintro v_142 hs_142 ⟨rfl, rfl⟩
            refine OT.pures hT 2 rfl (.nil (.seq (.cond rfl (fun c144 => ?_) (fun c144 => ?_))))
            ·
              have c144 : ¬ (encNd n).1 = bs := by simpa using c144
              refine TT.seq (.region (.build hT rfl Tryz.zeroValue159 rfl rfl rfl rfl (.store_all hT rfl rfl rfl rfl pl rfl rfl rfl (.inl (Nat.le_refl _)) ?_)))
              refine OT.pures hT 1 rfl (.nil (.seq (.ret (.of (rs := [.cell 2 159, .tmp 3]) [_, _] ([] :: hs) rfl (.cell rfl (Ld.struct_all hT rfl hz rfl) (.tmp rfl .nil)) sl ?_))))
              try dsimp only [one]
              exact ⟨[], _, noNd, 8, rfl, rfl, NdOwn.none _ _ _, .bad rfl rfl (fun ⟨n0, h0⟩ => by have := (hn0 n0 h0).2; subst this; exact c144 h0.2.symm)⟩
            ·
              have c144 : (encNd n).1 = bs := by simpa using c144
              refine TT.skip (.seq (.seq (.region (.load rfl rfl (Ld.struct_all hT rfl hz hN.four) rfl ?_))))
              refine OT.store_all hT rfl rfl rfl rfl pl (by exact hN.four) rfl hN.all1 (.inl (Nat.le_refl _)) ?_
              refine OT.pures hT 1 rfl (.nil (.seq (.ret (.of (rs := [.cell 2 159, .tmp 3]) [_, _] (K :: hs) rfl (.cell rfl (Ld.struct_all hT rfl hz hN.four) (.tmp rfl .nil)) sl ?_))))
              try dsimp only [one]
              exact ⟨K, _, n, 0, rfl, rfl, hN, .ok rfl ⟨⟨enc_fits.1 g139, hf6⟩, c144.symm⟩⟩

end Go.Proofs.YtihpkgmfkbkffaaGreat.Sx
end

section
namespace Go.Proofs.YtihpkgmfkbkffaaGreat.Sx
open Go Go.Sx Go.Pl
variable [Outer]

set_option maxHeartbeats 1000000 in
set_option maxRecDepth 100000 in
theorem ref1_NaN {u : Nat} (hu : u < 2 ^ 64) {hs : List Chunk} : Fun Tryz.prog 112 [.float .f64 u] hs (fun v' hs' => v' = .bool (nanN u) ∧ hs = hs') := by
  refine Fun.enter 14 Tryz.func112 rfl Tryz.ntmps112 rfl ?_
  refine TT.seq (.region (.pures hT 1 rfl (.nil (.seq (.seq (.region (.pures hT 1 rfl (.extern (ext91 _) rfl rfl rfl rfl (.pures hT 1 rfl (.nil (.seq (.seq (.region (.pures hT 2 rfl (.reg 7 rfl (v := .int .u64 ((u &&& 9218868437227405312 : Nat) : Int)) (int_eq (w_and hu (by decide))) (.pures hT 1 rfl (.pures hT 1 rfl (.split 9 rfl (fun g9 => ?_) (fun g9 => ?_)))))))))))))))))))
  ·
    have g9 : u &&& 9218868437227405312 = 9218868437227405312 := by
      have := eq_of_beq g9
      omega
    refine OT.pures hT 2 rfl (.reg 11 rfl (v := .int .u64 ((u &&& 4503599627370495 : Nat) : Int)) (int_eq (w_and hu (by decide))) (.pures hT 1 rfl (.pures hT 2 rfl (.nil (.seq (.ret (.of (rs := [.tmp 2]) [_] hs rfl (.tmp rfl .nil) sl ?_)))))))
    try dsimp only [one]
    refine ⟨congrArg Value.bool ?_, rfl⟩
    rw [nan_is, decide_eq_true g9, Bool.true_and, Bool.eq_iff_iff, bne_iff_ne, decide_eq_true_eq]
    omega
  ·
    have g9 : ¬ u &&& 9218868437227405312 = 9218868437227405312 := by
      intro h; rw [h] at g9; exact absurd g9 (by decide)
    refine OT.pures hT 5 rfl (.nil (.seq (.ret (.of (rs := [.tmp 2]) [_] hs rfl (.tmp rfl .nil) sl ?_))))
    try dsimp only [one]
    refine ⟨congrArg Value.bool ?_, rfl⟩
    rw [nan_is, decide_eq_false g9, Bool.false_and]

set_option maxHeartbeats 1000000 in
set_option maxRecDepth 100000 in
theorem ref1_Place {u : Nat} (hu : u < 2 ^ 64) {hs : List Chunk} : Fun Tryz.prog 62 [.float .f64 u] hs (fun v' hs' => v' = .int .i64 (placeI u) ∧ hs = hs') := by
  refine Fun.enter 18 Tryz.func62 rfl Tryz.ntmps62 rfl ?_
  refine TT.seq (.region (.pures hT 1 rfl (.nil (.seq (.seq (.seq (.region (.pures hT 1 rfl (.call Tryz.call112 rfl rfl rfl rfl (ref1_NaN hu) ?_)))))))))
  rintro v_5 hs_5 ⟨rfl, rfl⟩
  refine OT.nil (.seq (.cond rfl (fun c5 => ?_) (fun c5 => ?_)))
  ·
    refine TT.seq (.region (.pures hT 1 rfl (.nil (.seq (.ret (.of (rs := [.tmp 2]) [_] hs rfl (.tmp rfl .nil) sl ?_))))))
    try dsimp only [one]
    exact ⟨int_eq (by unfold placeI placeN; rw [c5]; rfl), rfl⟩
  ·
    refine TT.skip (.seq (.seq (.region (.pures hT 1 rfl (.extern (ext91 _) rfl rfl rfl rfl (.pures hT 1 rfl (.nil (.seq (.seq (.seq (.region (.pures hT 3 rfl (.nil (.seq (.cond rfl (fun c10 => ?_) (fun c10 => ?_))))))))))))))))
    ·
      have c10 := beq_iff_eq.1 c10
      refine TT.seq (.region (.pures hT 6 rfl (.nil (.seq (.ret (.of (rs := [.tmp 2]) [_] hs rfl (.tmp rfl .nil) sl ?_))))))
      try dsimp only [one]
      exact ⟨int_eq (place_neg hu c5 c10), rfl⟩
    ·
      have c10 := beq_eq_false_iff_ne.1 c10
      refine TT.skip (.seq (.seq (.region (.pures hT 3 rfl (.nil (.seq (.ret (.of (rs := [.tmp 2]) [_] hs rfl (.tmp rfl .nil) sl ?_))))))))
      try dsimp only [one]
      exact ⟨int_eq (place_pos hu c5 c10), rfl⟩

set_option maxHeartbeats 1000000 in
set_option maxRecDepth 100000 in
theorem ref1_EqVal {x y : Vl} (hx : x.f < 2 ^ 64) (hy : y.f < 2 ^ 64) {hs : List Chunk} : Fun Tryz.prog 22 [.agg ⟨encVl x⟩, .agg ⟨encVl y⟩] hs (fun v' hs' => v' = .bool (eqVl x y) ∧ hs = hs') := by
  refine Fun.enter 26 Tryz.func22 rfl Tryz.ntmps22 rfl ?_
  refine TT.seq (.region (.box rfl rfl rfl (fun b_2 => ?_)))
  refine OT.box rfl rfl rfl (fun b_3 => ?_)
  refine OT.pures hT 1 rfl (.nil (.seq (.seq (.draw (([(b_3, blk (encVl y) 36 (0, 0))] :: [(b_2, blk (encVl x) 36 (0, 0))] :: hs)) mixed (.takes (fuel := 20) hT [0, 2] kr kr rfl (.take (fuel := 19) hT 1 rfl rfl kr kr kr rfl (.load rfl (Ld.one hT rfl hz rfl)) rfl ?_))))))
  refine AT.take (fuel := 18) hT 3 rfl rfl kr kr kr rfl (.load rfl (Ld.one hT rfl hz rfl)) rfl ?_
  refine AT.takes (fuel := 16) hT [4, 5] kr kr rfl (.split 10 rfl (fun g10 => ?_) (fun g10 => ?_))
  ·
    have g10 : x.kind = y.kind := eq_of_beq g10
    refine AT.takes (fuel := 14) hT [6, 8] kr kr rfl (.take (fuel := 13) hT 7 rfl rfl kr kr kr rfl (.load rfl (Ld.one hT rfl hz rfl)) rfl ?_)
    refine AT.take (fuel := 12) hT 9 rfl rfl kr kr kr rfl (.load rfl (Ld.one hT rfl hz rfl)) rfl ?_
    refine AT.takes (fuel := 9) hT [10, 11, 12] kr kr rfl (.split 17 rfl (fun g17 => ?_) (fun g17 => ?_))
    ·
      have g17 : decide (x.s = y.s) = true := g17
      refine AT.takes (fuel := 7) hT [13, 16] kr kr rfl (.take (fuel := 6) hT 14 rfl rfl kr kr kr rfl (.load rfl (Ld.one hT rfl hz rfl)) rfl ?_)
      refine AT.take (fuel := 5) hT 17 rfl rfl kr kr kr rfl (.load rfl (Ld.one hT rfl hz rfl)) rfl ?_
      refine AT.op (fuel := 4) 15 kr rfl sl (.call Tryz.call62 rfl rfl rfl rfl (ref1_Place hx) ?_)
      rintro v_20 hs_20 ⟨rfl, rfl⟩
      refine OT.nil (.any (.op (fuel := 3) 18 kr rfl sl (.call Tryz.call62 rfl rfl rfl rfl (ref1_Place hy) ?_)))
      rintro v_23 hs_23 ⟨rfl, rfl⟩
      refine OT.nil (.any (.takes (fuel := 0) hT [19, 20, 21] kr kr rfl (.done kr sl (.seq (.ret (.of (rs := [.tmp 4]) [_] hs rfl (.tmp rfl .nil) sl ?_))))))
      try dsimp only [one]
      refine ⟨congrArg Value.bool ?_, rfl⟩
      unfold eqVl
      rw [decide_eq_true g10, g17, Bool.true_and, Bool.true_and, Bool.eq_iff_iff, beq_iff_eq, decide_eq_true_eq]
      exact placeI_eq
    ·
      have g17 : decide (x.s = y.s) = false := g17
      refine AT.takes (fuel := 0) hT [13, 14, 15, 16, 17, 18, 19, 20, 21] kr kr rfl (.done kr sl (.seq (.ret (.of (rs := [.tmp 4]) [_] hs rfl (.tmp rfl .nil) sl ?_))))
      try dsimp only [one]
      refine ⟨congrArg Value.bool ?_, rfl⟩
      unfold eqVl
      rw [decide_eq_true g10, g17]; rfl
  ·
    have g10 : ¬ x.kind = y.kind := fun h => by rw [h] at g10; simp at g10
    refine AT.takes (fuel := 0) hT [6, 7, 8, 9, 10, 11, 12, 13, 14, 15, 16, 17, 18, 19, 20, 21] kr kr rfl (.done kr sl (.seq (.ret (.of (rs := [.tmp 4]) [_] hs rfl (.tmp rfl .nil) sl ?_))))
    try dsimp only [one]
    refine ⟨congrArg Value.bool ?_, rfl⟩
    unfold eqVl
    rw [decide_eq_false g10]; rfl

end Go.Proofs.YtihpkgmfkbkffaaGreat.Sx
end

section
namespace Go.Proofs.YtihpkgmfkbkffaaGreat.Sx
open Go Go.Sx Go.Pl
variable [Outer]


end Go.Proofs.YtihpkgmfkbkffaaGreat.Sx
end

section
namespace Go.Proofs.YtihpkgmfkbkffaaGreat.Ro
open Go Go.Sx Go.ChangeShapes Go.WideShapes
theorem trod_small {H : Type} {P : Program} {enc : TypeId × Value → H} {w : World} {t e' : TypeId} {v : Value} {d : DataW H} {p : List MemPlace} {ts : List TypeId} {ds : List (DataW H)} {α : Type} {e : α → List Value} {sz : Nat} {hs : List Chunk} {xs : List α}
    (hsz : (DataW.weightsEach P ts ds).all (· ≤ reachBytes) = true) {j : Nat} (hj : ts[j]? = some t) (hd : ds[j]? = some d) (ht : P.underlying t = some (.slice e')) (hb : 0 < P.bytesOf e')
    (h : DataW.Trod enc P w 0 (fun _ => true) true t v d p) (hr : Row e sz hs v xs) : xs.length ≤ 2 ^ 47 := by
  obtain ⟨a, c, rfl⟩ := hr.len
  obtain ⟨n, h⟩ := h
  rcases DataW.trod_slice ht h with ⟨hv, _⟩ | ⟨a', len, cap, elems, rest, m, _, hv, hx, _, _, _, hl, _⟩
  · have hv : [Value.slice a xs.length c] = [.slice none 0 0] := hv
    injection hv with hv _
    injection hv with _ h0 _
    rw [h0]; exact Nat.zero_le _
  · have hv : [Value.slice a xs.length c] = [.slice (some a') len cap] := hv
    injection hv with hv _
    injection hv with _ h0 _
    have hd' : d = .slice (elems.map (·.1)) (rest.map (·.1)) := congrArg Prod.fst hx
    rw [hd'] at hd
    have h1 := sized_slice hsz hj hd ht
    have h2 := reachBytes_lt
    rw [List.length_map, List.length_map] at h1
    have h3 : elems.length + rest.length ≤ (elems.length + rest.length) * P.bytesOf e' := Nat.le_mul_of_pos_right _ hb
    omega
end Go.Proofs.YtihpkgmfkbkffaaGreat.Ro
end
