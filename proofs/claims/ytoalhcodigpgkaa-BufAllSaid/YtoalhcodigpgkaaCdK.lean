/- The pool: what is looked for, and found. Printed by a program of ours off the loaded program and our notes; Lean checks it. -/
import Derived.Test.YtoalhcodigpgkaaPdE
import Derived.Test.YtoalhcodigpgkaaSxT
import Derived.Test.YtoalhcodigpgkaaCdJ
import Derived.Test.YtoalhcodigpgkaaSxL
namespace Go.Proofs.Ytoalhcodigpgkaa.Sx
open Go Go.Sx Go.Pl
variable [Outer]

set_option maxHeartbeats 1000000 in
set_option maxRecDepth 100000 in
theorem buf_New {bd bl : Nat} {r : List Chunk} : Fun Try.prog 11 [.pointer (some ⟨bd, 0, none⟩), .pointer (some ⟨bl, 0, none⟩)] r (fun v' hs' => ∃ H', hs' = H' :: r ∧ IsPool 5 79 75 76 v' (.pointer (some ⟨bd, 0, none⟩)) (.pointer (some ⟨bl, 0, none⟩)) [] H') := by
  refine Fun.enter 9 Try.func11 rfl Try.ntmps11 rfl ?_
  refine TT.seq (.region (.pures hT 1 rfl (.nil (.seq (.seq (.region (.pures hT 2 rfl (.build hT rfl Try.zeroValue75 rfl rfl rfl rfl (.box rfl rfl rfl (fun b_8 => ?_))))))))))
  refine OT.pures hT 1 rfl (.nil (.seq (.ret (.of (rs := [.tmp 4]) [_] (([(b_8, blk _ 75 (0, 0))] ++ ([] ++ [])) :: r) rfl (.tmp rfl .nil) sl ?_))))
  dsimp only [one]
  exact ⟨_, rfl, ⟨b_8, .slice none 0 0, [], [], rfl, rfl, ⟨(fun t h => by cases h), Own.nil, rfl, by simp⟩, rfl⟩⟩

set_option maxHeartbeats 1000000 in
set_option maxRecDepth 100000 in
theorem buf_may {b : Nat} {no : Int} {hs : List Chunk} : Fun Try.prog 30 [.pointer (some ⟨b, 0, none⟩), .int .i64 no] hs (fun v' hs' => v' = .int .i64 (mayPool no) ∧ hs = hs') := by
  refine Fun.enter 12 Try.func30 rfl Try.ntmps30 rfl ?_
  refine TT.seq (.region (.pures hT 1 rfl (.nil (.seq (.seq (.block (.seq (.region (.pures hT 3 rfl (.nil (.seq (.cond_false rfl (.seq (.region (.pures hT 1 rfl (.call Try.call46 rfl rfl rfl rfl (page_May) ?_))))))))))))))))
  rintro v_10 hs_10 ⟨rfl, rfl⟩
  refine OT.pures hT 2 rfl (.nil (.seq (.cond rfl (fun c8 => ?_) (fun c8 => ?_))))
  ·
    have c8 : ¬ mayPage no := of_decide_eq_false (by rw [Bool.not_eq_true'] at c8; exact c8)
    refine TT.seq (.region (.pures hT 1 rfl (.nil (.seq (.ret (.of (rs := [.tmp 4]) [_] hs rfl (.tmp rfl .nil) sl ?_))))))
    dsimp only [one]
    exact ⟨by unfold mayPool; rw [if_neg c8], rfl⟩
  ·
    have c8 : mayPage no := of_decide_eq_true (by rw [Bool.not_eq_false'] at c8; exact c8)
    refine TT.skip (.blk (.seq (.seq (.region (.pures hT 1 rfl (.nil (.seq (.ret (.of (rs := [.tmp 4]) [_] hs rfl (.tmp rfl .nil) sl ?_)))))))))
    dsimp only [one]
    exact ⟨by unfold mayPool; rw [if_pos c8], rfl⟩

set_option maxHeartbeats 1000000 in
set_option maxRecDepth 100000 in
theorem buf_may0 {no : Int} {hs : List Chunk} : Fun Try.prog 30 [.pointer none, .int .i64 no] hs (fun v' hs' => v' = .int .i64 5 ∧ hs = hs') := by
  refine Fun.enter 12 Try.func30 rfl Try.ntmps30 rfl ?_
  refine TT.seq (.region (.pures hT 1 rfl (.nil (.seq (.seq (.block (.seq (.region (.pures hT 3 rfl (.nil (.seq (.cond_true rfl (.seq (.region (.pures hT 1 rfl (.nil (.seq (.ret (.of (rs := [.tmp 4]) [_] hs rfl (.tmp rfl .nil) sl ?_)))))))))))))))))))
  dsimp only [one]
  exact ⟨rfl, rfl⟩

set_option maxHeartbeats 1000000 in
set_option maxRecDepth 100000 in
theorem buf_find1 {bf : Nat} {f : Fr} {vb : Value} {hs : List Chunk} (hm : Has hs bf (blk (frCells f vb) 79 (0, 0))) {bx : Nat} {no : Int} {tx : Nat} {fx : Nat × Nat} (hb : Has hs bx (blk [.int .i64 no] tx fx)) : Fun Try.prog 52 [.pointer (some ⟨bf, 0, none⟩), .pointer (some ⟨bx, 0, none⟩)] hs (fun v' hs' => v' = .bool (isNo no f) ∧ hs = hs') := by
  refine Fun.enter 10 Try.func52 rfl Try.ntmps52 rfl ?_
  refine TT.seq (.region (.pures hT 1 rfl (.nil (.seq (.seq (.draw (hs) mixed (.takes (fuel := 4) hT [0, 1, 2] kr kr rfl (.take (fuel := 3) hT 3 rfl rfl kr kr kr rfl (.load rfl (Ld.one hT rfl hm rfl)) rfl (.take (fuel := 2) hT 4 rfl rfl kr kr kr rfl (.load rfl (Ld.one hT rfl hb rfl)) rfl (.takes (fuel := 0) hT [5, 6] kr kr rfl (.done kr sl (.seq (.ret (.of (rs := [.tmp 3]) [_] hs rfl (.tmp rfl .nil) sl ?_))))))))))))))
  dsimp only [one]
  exact ⟨rfl, rfl⟩

set_option maxHeartbeats 1000000 in
set_option maxRecDepth 100000 in
theorem buf_flush1 {bf : Nat} {f : Fr} {vb : Value} {hs : List Chunk} (hm : Has hs bf (blk (frCells f vb) 79 (0, 0))) {bx : Nat} {no : Int} {tx : Nat} {fx : Nat × Nat} (hb : Has hs bx (blk [.int .i64 no] tx fx)) : Fun Try.prog 37 [.pointer (some ⟨bf, 0, none⟩), .pointer (some ⟨bx, 0, none⟩)] hs (fun v' hs' => v' = .bool (isNoDirty no f) ∧ hs = hs') := by
  refine Fun.enter 16 Try.func37 rfl Try.ntmps37 rfl ?_
  refine TT.seq (.region (.pures hT 1 rfl (.nil (.seq (.seq (.draw (hs) mixed (.takes (fuel := 10) hT [0, 1, 2] kr kr rfl (.take (fuel := 9) hT 3 rfl rfl kr kr kr rfl (.load rfl (Ld.one hT rfl hm rfl)) rfl (.take (fuel := 8) hT 4 rfl rfl kr kr kr rfl (.load rfl (Ld.one hT rfl hb rfl)) rfl (.takes (fuel := 6) hT [5, 6] kr kr rfl (.split 10 rfl (fun g10 => ?_) (fun g10 => ?_))))))))))))
  ·
    refine AT.takes (fuel := 3) hT [7, 8, 9] kr kr rfl (.take (fuel := 2) hT 10 rfl rfl kr kr kr rfl (.load rfl (Ld.one hT rfl hm rfl)) rfl (.takes (fuel := 0) hT [11, 12] kr kr rfl (.done kr sl (.seq (.ret (.of (rs := [.tmp 3]) [_] hs rfl (.tmp rfl .nil) sl ?_))))))
    dsimp only [one]
    exact ⟨by unfold isNoDirty; rw [show (f.no == no) = true from g10]; rfl, rfl⟩
  ·
    refine AT.takes (fuel := 0) hT [7, 8, 9, 10, 11, 12] kr kr rfl (.done kr sl (.seq (.ret (.of (rs := [.tmp 3]) [_] hs rfl (.tmp rfl .nil) sl ?_))))
    dsimp only [one]
    exact ⟨by unfold isNoDirty; rw [show (f.no == no) = false from g10]; rfl, rfl⟩

set_option maxHeartbeats 1000000 in
set_option maxRecDepth 100000 in
theorem buf_room1 {bf : Nat} {f : Fr} {vb : Value} {hs : List Chunk} (hm : Has hs bf (blk (frCells f vb) 79 (0, 0))) : Fun Try.prog 54 [.pointer (some ⟨bf, 0, none⟩)] hs (fun v' hs' => v' = .bool (isClean f) ∧ hs = hs') := by
  refine Fun.enter 8 Try.func54 rfl Try.ntmps54 rfl ?_
  refine TT.seq (.region (.pures hT 1 rfl (.nil (.seq (.seq (.region (.pures hT 3 rfl (.load rfl rfl (Ld.one hT rfl hm rfl) rfl (.pures hT 2 rfl (.nil (.seq (.ret (.of (rs := [.tmp 2]) [_] hs rfl (.tmp rfl .nil) sl ?_)))))))))))))
  dsimp only [one]
  exact ⟨rfl, rfl⟩

set_option maxHeartbeats 1000000 in
set_option maxRecDepth 100000 in
theorem sl_IndexFr {v : Value} {ts : List Tr} {q : Tr → Bool} {N : Nat} {caps : List Value} {hs : List Chunk} (hr : Row encV 1 hs v (ptrs ts)) (hl : ts.length ≤ 1073741824) (hcall : ∀ args w, (callFunc N args).run Try.prog w = .ok (.enter N args) w) (hF : ∀ t ∈ ts, Fun Try.prog N (t.1 :: caps) hs fun v' hs' => v' = .bool (q t) ∧ hs = hs') : Fun Try.prog 36 [v, .func (.func N) ⟨[]⟩ ⟨caps⟩] hs (fun v' hs' => v' = .int .i64 (firstAt q 0 ts) ∧ hs = hs') := by
  refine Fun.enter 19 Try.func36 rfl Try.ntmps36 rfl ?_
  obtain ⟨a0, c0, hv⟩ := hr.len
  subst hv
  have hpl := ptrs_length ts
  refine TT.seq (.region (.pures hT 1 rfl (.nil (.seq (.seq (.seq (.region (.pures hT 3 rfl (.nil (.seq (.block (.loop (ι := Nat) (fun j => (j) ≤ ts.length ∧ firstAt q (j) (ts.drop (j)) = firstAt q 0 ts) (fun j => ts.length - (j)) (fun j => [(0, .slice a0 (ptrs ts).length c0), (1, .func (.func N) ⟨[]⟩ ⟨caps⟩), (7, .int .i64 (ptrs ts).length), (8, .int .i64 ((j) : Nat))]) (fun j => hs) (0) ?_ (SubR.cons rfl (SubR.cons rfl (SubR.cons rfl (SubR.cons rfl (SubR.nil _))))) sl ?_))))))))))))
  · exact ⟨by omega, rfl⟩
  rintro i ⟨hi, hp⟩
  show TT _ _ _ [(0, .slice a0 (ptrs ts).length c0), (1, .func (.func N) ⟨[]⟩ ⟨caps⟩), (7, .int .i64 (ptrs ts).length), (8, .int .i64 (i : Nat))] (hs)
  refine TT.seq (.region (.pures hT 1 rfl (.nil (.seq (.seq (.cond rfl (fun c9 => ?_) (fun c9 => ?_)))))))
  ·
    have c9 := of_decide_eq_true c9
    obtain ⟨t, ht⟩ := nth (l := ts) (i := i) (by omega)
    have hpt := ptrs_at ht
    rw [drop_cons ht, firstAt] at hp
    refine TT.skip (.seq (.seq (.block (.seq (.region (.pures hT 2 rfl (.nil (.seq (.seq (.region (.pures hT 3 rfl (.index hT rfl rfl rfl rfl hr (by omega) hpt rfl (fun ad_14 hel_14 => ?_)))))))))))))
    refine OT.load rfl rfl (hel_14.ld_one hT rfl rfl) rfl ?_
    refine OT.callc hcall rfl rfl rfl rfl (hF t (List.mem_of_getElem? ht)) ?_
    rintro v_16 hs_16 ⟨rfl, rfl⟩
    refine OT.nil (.seq (.cond rfl (fun c16 => ?_) (fun c16 => ?_)))
    ·
      rw [if_pos c16] at hp
      refine TT.seq (.region (.pures hT 2 rfl (.nil (.seq (.ret (.of (rs := [.tmp 4]) [_] hs rfl (.tmp rfl .nil) sl ?_))))))
      dsimp only [one]
      exact ⟨by rw [← hp], rfl⟩
    ·
      rw [if_neg (by simp only [c16]; decide)] at hp
      refine TT.skip (.blk (.seq (.region (.pures hT 2 rfl (.nil (.loop (i + 1) ?_ ?_ (SubR.cons rfl (SubR.cons rfl (SubR.cons rfl (SubR.cons' rfl (by (try dsimp only); exact (int_eq (by rw [wrap_i64 (by omega) (by omega)]; omega))) (SubR.nil _))))) sl))))))
      · exact ⟨by omega, hp⟩
      · omega
  ·
    have c9 := of_decide_eq_false c9
    rw [List.drop_eq_nil_of_le (by omega), firstAt] at hp
    refine TT.exit (.seq (.loop (.here (.seq (.seq (.region (.pures hT 1 rfl (.nil (.seq (.ret (.of (rs := [.tmp 4]) [_] hs rfl (.tmp rfl .nil) sl ?_)))))))))))
    dsimp only [one]
    exact ⟨by rw [← hp], rfl⟩

set_option maxHeartbeats 1000000 in
set_option maxRecDepth 100000 in
theorem sl_DeleteFr {v : Value} {xs : List Value} {i j : Nat} {H : Chunk} {r : List Chunk} (ho : Own encV 1 76 v xs H) (h1 : ones (xs.flatMap encV) = true) (hij : i < j) (hj : j ≤ xs.length) (hl : xs.length ≤ 1073741824) : Fun Try.prog 53 [v, .int .i64 (i : Nat), .int .i64 (j : Nat)] (H :: r) (fun v' hs' => ∃ H', hs' = H' :: r ∧ Own encV 1 76 v' (xs.take i ++ xs.drop j) H') := by
  refine Fun.enter 33 Try.func53 rfl Try.ntmps53 rfl ?_
  obtain ⟨a0, c0, hv⟩ := (ho.row (hs := r)).len
  subst hv
  have hc := ho.cap.2
  have hlt : (xs.take i).length = i := by rw [List.length_take]; omega
  have hld : (xs.drop j).length = xs.length - j := List.length_drop
  have h2 : ones ((xs.drop j).flatMap encV) = true := ones_sub h1 fun x hx => by
    obtain ⟨y, hy, hx⟩ := List.mem_flatMap.1 hx
    exact List.mem_flatMap.2 ⟨y, List.mem_of_mem_drop hy, hx⟩
  refine TT.seq (.region (.pures hT 1 rfl (.nil (.seq (.seq (.region (.pures hT 5 rfl (.slice3 i j xs.length hT rfl rfl rfl ho.row rfl rfl rfl (by omega) (by omega) (by omega) rfl (fun v_13 => ?_)))))))))
  refine OT.nil (.seq (.seq (.seq (.region (.pures hT 3 rfl (.nil (.seq (.cond rfl (fun c16 => ?_) (fun c16 => ?_)))))))))
  ·
    exact absurd (eq_of_beq c16) (by omega)
  ·
    refine TT.skip (.seq (.seq (.region (.pures hT 3 rfl (.nil (.seq (.seq (.draw (r) mixed (.takes (fuel := 4) hT [0, 1, 3, 4] kr kr rfl (.all (fuel := 3) [2, 5] kr (by decide) sl ?_))))))))))
    intro i hi
    simp only [List.mem_cons, List.not_mem_nil, or_false] at hi
    rcases hi with rfl | rfl
    ·
      refine ⟨_, rfl, ?_⟩
      refine OT.slice_to i hT rfl rfl rfl rfl ho (by omega) rfl (fun ho_22 => ?_)
      refine OT.nil (.any (.op (fuel := 2) 5 kr rfl sl (.slice j xs.length hT rfl rfl rfl rfl rfl ho.row (.inr ⟨_, rfl⟩) (.inl ⟨rfl, rfl⟩) (by omega) (by omega) rfl (fun v_25 hv_25 => ?_))))
      refine OT.nil (.any (.op (fuel := 1) 6 kr rfl sl (.append_room hT el73 rfl rfl rfl rfl pl hlt.symm ho_22 hv_25 (by rw [List.take_length]; exact h2) (by rw [hlt, List.take_length, hld]; omega) (by rw [List.take_length, hld]; omega) rfl (fun H_26 ho_26 => ?_))))
      refine OT.nil (.any (.takes (fuel := 0) hT [7] kr kr rfl (.done kr sl (.seq (.seq (.region (.pures hT 4 rfl (.slice_val (i + ((xs.take xs.length).drop j).length) xs.length hT rfl rfl rfl rfl rfl (.inr ⟨_, rfl⟩) (.inr ⟨_, rfl⟩) (by rw [List.take_length, hld]; omega) hc rfl (.clear_spare el73 Try.zeroValue76 rfl rfl (by rw [List.length_append, hlt]) rfl rfl pl ho_26 (by rw [List.take_length, hld]; omega) hc (fun H_c ho_c => ?_))))))))))
      refine OT.nil (.seq (.seq (.region (.pures hT 2 rfl (.nil (.seq (.ret (.of (rs := [.tmp 6]) [_] (H_c :: r) rfl (.tmp rfl .nil) sl ?_))))))))
      dsimp only [one]
      exact ⟨_, rfl, by rw [List.take_length] at ho_c ⊢; exact ho_c⟩
    ·
      refine ⟨_, rfl, ?_⟩
      refine OT.slice j xs.length hT rfl rfl rfl rfl rfl ho.row (.inr ⟨_, rfl⟩) (.inl ⟨rfl, rfl⟩) (by omega) (by omega) rfl (fun v_25 hv_25 => ?_)
      refine OT.nil (.any (.op (fuel := 2) 2 kr rfl sl (.slice_to i hT rfl rfl rfl rfl ho (by omega) rfl (fun ho_22 => ?_))))
      refine OT.nil (.any (.op (fuel := 1) 6 kr rfl sl (.append_room hT el73 rfl rfl rfl rfl pl hlt.symm ho_22 hv_25 (by rw [List.take_length]; exact h2) (by rw [hlt, List.take_length, hld]; omega) (by rw [List.take_length, hld]; omega) rfl (fun H_26 ho_26 => ?_))))
      refine OT.nil (.any (.takes (fuel := 0) hT [7] kr kr rfl (.done kr sl (.seq (.seq (.region (.pures hT 4 rfl (.slice_val (i + ((xs.take xs.length).drop j).length) xs.length hT rfl rfl rfl rfl rfl (.inr ⟨_, rfl⟩) (.inr ⟨_, rfl⟩) (by rw [List.take_length, hld]; omega) hc rfl (.clear_spare el73 Try.zeroValue76 rfl rfl (by rw [List.length_append, hlt]) rfl rfl pl ho_26 (by rw [List.take_length, hld]; omega) hc (fun H_c ho_c => ?_))))))))))
      refine OT.nil (.seq (.seq (.region (.pures hT 2 rfl (.nil (.seq (.ret (.of (rs := [.tmp 6]) [_] (H_c :: r) rfl (.tmp rfl .nil) sl ?_))))))))
      dsimp only [one]
      exact ⟨_, rfl, by rw [List.take_length] at ho_c ⊢; exact ho_c⟩

set_option maxHeartbeats 2000000 in
set_option maxRecDepth 100000 in
theorem buf_find {b : Nat} {pd pw v : Value} {ts : List Tr} {Kl : Chunk} {r : List Chunk} (hP : PoolAt 5 79 76 v ts Kl) {no : Int} : Fun Try.prog 31 [.pointer (some ⟨b, 0, none⟩), .int .i64 no] ([(b, blk [pd, pw, v] 75 (0, 0))] :: Kl :: chunk ts :: r) (fun v' hs' => ∃ v2 K2, hs' = [(b, blk [pd, pw, v2] 75 (0, 0))] :: K2 :: chunk (askedT ts no) :: r ∧ PoolAt 5 79 76 v2 (askedT ts no) K2 ∧ v' = .pointer (findP ts no)) := by
  refine Fun.enter 37 Try.func31 rfl Try.ntmps31 rfl ?_
  obtain ⟨av, cv, hv⟩ := (hP.own.row (hs := r)).len
  subst hv
  have hown := hP.own
  have hfew := hP.few
  have hpl := ptrs_length ts
  refine TT.seq (.region (.box rfl rfl rfl (fun b_3 => ?_)))
  refine OT.pures hT 1 rfl (.nil (.seq (.seq (.region (.pures hT 3 rfl (.load rfl rfl (Ld.slc hT rfl hz rfl) rfl ?_))))))
  refine OT.pures hT 1 rfl (.call Try.call36 rfl rfl rfl rfl (sl_IndexFr (q := fun t : Tr => isNo no t.2.1) (N := 52) (caps := [.pointer (some ⟨b_3, 0, none⟩)]) (hown.row.there.there) hfew Try.call52 (fun t ht => by obtain ⟨bf, vb, Kb, h1, h2, h3, h4, h5⟩ := chunk_has hP.all ht; rw [h1]; exact buf_find1 (.there (.there (.there (.here h5)))) Has.one)) ?_)
  rintro v_12 hs_12 ⟨rfl, rfl⟩
  refine OT.pures hT 1 rfl (.nil (.seq (.seq (.seq (.region (.pures hT 2 rfl (.nil (.seq (.cond rfl (fun c14 => ?_) (fun c14 => ?_))))))))))
  ·
    have c14 := of_decide_eq_true c14
    have ha : (askedT ts no) = ts := by unfold askedT; rw [if_pos c14]
    have hfp : findP ts no = none := by unfold findP; rw [if_pos c14]
    rw [ha, hfp]
    refine TT.seq (.region (.pures hT 1 rfl (.nil (.seq (.ret (.of (rs := [.tmp 4]) [_] ([(b, blk [pd, pw, (.slice av (ptrs ts).length cv)] 75 (0, 0))] :: Kl :: chunk ts :: r) rfl (.tmp rfl .nil) sl ?_))))))
    dsimp only [one]
    exact ⟨_, _, rfl, hP, rfl⟩
  ·
    have c14 := of_decide_eq_false c14
    obtain ⟨i, hi, hil⟩ := firstAt_some c14
    obtain ⟨t, ht⟩ := nth (l := ts) (i := i) hil
    have ha : (askedT ts no) = cut ts i ++ [t] := by unfold askedT; rw [if_neg c14, hi, Int.toNat_natCast, toEnd_some ht]
    rw [hi]
    have hpt := ptrs_at ht
    obtain ⟨bf, vb, Kb, hq1, hq2, hq3, hq4, hq5⟩ := chunk_has hP.all (List.mem_of_getElem? ht)
    have hfp : findP ts no = some ⟨bf, 0, none⟩ := by unfold findP; rw [if_neg c14, hi, Int.toNat_natCast, List.getD_eq_getElem?_getD, ht]; simp only [Option.getD_some, hq1, ptrOf]
    rw [hfp]
    refine TT.skip (.seq (.seq (.region (.pures hT 3 rfl (.load rfl rfl (Ld.slc hT rfl hz rfl) rfl ?_)))))
    refine OT.pures hT 1 rfl (.index hT rfl rfl rfl rfl (hown.row.there.there) (by omega) hpt rfl (fun ad_20 hel_20 => ?_))
    refine OT.load rfl rfl (hel_20.ld_one hT rfl rfl) rfl (.pures hT 1 rfl (.nil (.seq (.seq (.region (.pures hT 4 rfl (.load rfl rfl (Ld.slc hT rfl hz rfl) rfl ?_)))))))
    refine OT.pures hT 3 rfl (.reg 29 rfl (v := .int .i64 ((i + 1 : Nat) : Int)) (int_eq (by rw [wrap_i64 (by omega) (by omega)]; omega)) (.call Try.call53 rfl rfl rfl rfl (Fun.pull pl (sl_DeleteFr hown (ones_ptrs hP.all) (by omega) (by omega) (by omega))) ?_))
    rintro v_30 hs_30 ⟨H1, rfl, ho1⟩
    refine OT.pures hT 1 rfl ?_
    refine OT.buildSlice (enc := encV) (xs := [t.1]) (xos := [.tmp 31]) el73 rfl rfl rfl rfl (by rw [hq1]; rfl) (by rw [hq1]; simp [Value.cells]) (fun _ _ => rfl) rfl (by decide) rfl (fun v_32 H_32 ho_32 => ?_)
    refine OT.append hT el73 rfl rfl rfl rfl pl ho1 ro (by rw [hq1]; rfl) (by simp only [List.length_append, List.length_take, List.length_drop, List.length_cons, List.length_nil]; omega) rfl (fun v_33 H_33 ho_33 => ?_)
    have how : Own encV 1 76 v_33 (ptrs (askedT ts no)) H_33 := by rw [ha]; unfold ptrs cut at *; simpa using ho_33
    obtain ⟨a33, c33, hv33⟩ := (how.row (hs := r)).len
    subst hv33
    refine OT.pures hT 2 rfl (.store hT rfl rfl rfl rfl pl rfl (Nat.le_of_ble_eq_true rfl) rfl (.inl (Nat.le_refl _)) (cs' := [pd, pw, .slice a33 (ptrs (askedT ts no)).length c33]) rfl ?_)
    refine OT.nil (.seq (.seq (.region (.pures hT 2 rfl (.nil (.seq (.ret (.swap (chunk_perm (askedT_perm ts no)) pl ?_))))))))
    refine RT.of (rs := [.tmp 4]) [_] ([(b, blk [pd, pw, (.slice a33 (ptrs (askedT ts no)).length c33)] 75 (0, 0))] :: H_33 :: chunk (askedT ts no) :: r) rfl (.tmp rfl .nil) sl ?_
    dsimp only [one]
    exact ⟨_, _, rfl, ⟨hP.all.perm (askedT_perm ts no), how, rfl, by rw [← (askedT_perm ts no).length_eq]; exact hfew⟩, hq1⟩

set_option maxHeartbeats 1000000 in
set_option maxRecDepth 100000 in
theorem buf_Held {b : Nat} {pd pw v : Value} {ts : List Tr} {Kl : Chunk} {r : List Chunk} (hP : PoolAt 5 79 76 v ts Kl) : Fun Try.prog 20 [.pointer (some ⟨b, 0, none⟩)] ([(b, blk [pd, pw, v] 75 (0, 0))] :: Kl :: chunk ts :: r) (fun v' hs' => v' = .int .i64 ts.length ∧ ([(b, blk [pd, pw, v] 75 (0, 0))] :: Kl :: chunk ts :: r) = hs') := by
  refine Fun.enter 10 Try.func20 rfl Try.ntmps20 rfl ?_
  obtain ⟨av, cv, hv⟩ := (hP.own.row (hs := r)).len
  subst hv
  have hpl := ptrs_length ts
  refine TT.seq (.region (.pures hT 1 rfl (.nil (.seq (.seq (.seq (.region (.pures hT 2 rfl (.nil (.seq (.cond_false rfl (.skip (.seq (.seq (.region (.pures hT 3 rfl (.load rfl rfl (Ld.slc hT rfl hz rfl) rfl ?_)))))))))))))))))
  refine OT.pures hT 2 rfl (.nil (.seq (.ret (.of (rs := [.tmp 2]) [_] ([(b, blk [pd, pw, (.slice av (ptrs ts).length cv)] 75 (0, 0))] :: Kl :: chunk ts :: r) rfl (.tmp rfl .nil) sl ?_))))
  dsimp only [one]
  exact ⟨by rw [hpl], rfl⟩

end Go.Proofs.Ytoalhcodigpgkaa.Sx
