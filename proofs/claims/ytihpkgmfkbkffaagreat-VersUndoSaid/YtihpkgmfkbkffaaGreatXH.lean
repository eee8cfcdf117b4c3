/- Several texts in one. The keys of a map, in order. Printed by a program of ours off the loaded program and our notes; Lean checks it. Sheets. Printed by a program of ours off the loaded program and our notes; Lean checks it. What a sheet has changed. Printed by a program of ours off the loaded program and our notes; Lean checks it. Pages taken, given back, counted; the tree's first page. Printed by a program of ours off the loaded program and our notes; Lean checks it. Elements put in, taken out. Printed by a program of ours off the loaded program and our notes; Lean checks it. A tree's pages: read, written, taken, given back. Printed by a program of ours off the loaded program and our notes; Lean checks it. A tree's nodes: cut in two, laid. Printed by a program of ours off the loaded program and our notes; Lean checks it. A cell put into a page's part of a tree. Printed by a program of ours off the loaded program and our notes; Lean checks it. -/
import Derived.Test.YtihpkgmfkbkffaaGreatXC
import Derived.Test.YtihpkgmfkbkffaaGreatXB
import Derived.Test.YtihpkgmfkbkffaaGreatIter
import Derived.Test.YtihpkgmfkbkffaaGreatShelf
import Derived.Test.YtihpkgmfkbkffaaGreatXF
import Derived.Test.YtihpkgmfkbkffaaGreatXG
set_option linter.unusedVariables false
set_option linter.unusedSimpArgs false
set_option linter.unusedSectionVars false

section
namespace Go.Proofs.YtihpkgmfkbkffaaGreat.Sx
open Go Go.Sx Go.Pl
variable [Outer]

open Go.Maps Go.Proofs Go.RowKit in
omit [Outer] in
theorem sorts_in (m : Nat) : AnyZI.SortsIn Tryz.prog Tryz.sortedI_ren Fence.wide m :=
  ⟨fun blk off cap ss W hH hblk hsz => callsIn_wide.2 (Tryz.slices_Sort_int blk off cap ss W hH hblk hsz), fun p cap W => callsIn_wide.2 (Tryz.slices_Sort_int_none p cap W)⟩

open Go.Maps Go.Proofs Go.RowKit in
theorem mp_Keys {b : Nat} {hs : List Chunk} : Fun Tryz.prog 81 [.map (some b)] hs fun v' hs' => ∃ bx, v' = .func (.func 125) ⟨[]⟩ ⟨[.pointer (some ⟨bx, 0, none⟩)]⟩ ∧ hs' = [(bx, blk [.map (some b)] 108 (0, 0))] :: hs :=
  keys_of (fun mb w => (callsIn_wide (n := 5)).1 (AnyZI.keys_in Tryz.keysI Fence.wide 5 trivial rfl mb w))

open Go.Maps Go.Proofs Go.RowKit in
theorem sl_Sorted {m : Int → Option Value} {b bx : Nat} {M : Chunk} (hM : IsMap m b M) {N : Nat} (hN : ∀ z, m z ≠ none → 0 ≤ z ∧ z < N) (hN2 : N ≤ 4096) {hs : List Chunk} :
    Fun Tryz.prog 80 [.func (.func 125) ⟨[]⟩ ⟨[.pointer (some ⟨bx, 0, none⟩)]⟩] ([(bx, blk [.map (some b)] 108 (0, 0))] :: M :: hs) fun v' hs' => ∃ H, hs' = H :: [(bx, blk [.map (some b)] 108 (0, 0))] :: M :: hs ∧ Own Go.Sx.encI 1 3 v' (keysTo m N) H := by
  refine sorted_keys (tK := 3) Tryz.underlying3 (fun b nn bx D0 w hlt hcell hown hsz => ?_) hM hN hN2
  have hseq : SeqGives Fence.wide 2 Tryz.prog 125 #[.pointer (some ⟨bx, 0, none⟩)] encZ (fun ss => ss.Perm (intKeys D0)) (Maps.size D0) w :=
    AnyZI.keys_gives (ρ := Tryz.keysI_ren) { Tryz.keysI with } Fence.wide _ trivial rfl (by omega) bx b nn D0 _ hlt hcell hown
  refine (callsIn_wide (n := 5)).1 ((AnyZI.sorted_in Tryz.sortedI Fence.wide 5 trivial trivial trivial trivial rfl (by omega) (sorts_in _) (enters_of Tryz.func124 kr rfl) 125 #[.pointer (some ⟨bx, 0, none⟩)] trivial (enters_of Tryz.func125 kr rfl) _ _ (Nat.le_trans hsz (by decide)) (by omega) _ hseq).mono ?_)
  rintro e w' ⟨v, ss, h1, h2, h3, h4, h5⟩
  exact ⟨v, ss, h1, h2, h3, h4, h5⟩

end Go.Proofs.YtihpkgmfkbkffaaGreat.Sx
end

section
namespace Go.Proofs.YtihpkgmfkbkffaaGreat.Sx
open Go Go.Sx Go.Pl
variable [Outer]

omit [Outer] in
theorem mapS : IntMap Tryz.prog 108 9 (.string ⟨#[]⟩) := ⟨⟨3, Tryz.underlying108, Tryz.underlying3⟩, Tryz.zeroValue9⟩

set_option maxHeartbeats 1000000 in
set_option maxRecDepth 100000 in
theorem bytes_Clone {v : Value} {xs : List UInt8} {hs : List Chunk} (hr : Row Go.Sx.encB 1 hs v xs) (hl : xs.length ≤ 1073741824) : Fun Tryz.prog 126 [v] hs (fun v' hs' => ∃ H', hs' = H' :: hs ∧ Own Go.Sx.encB 1 5 v' xs H') := by
  refine Fun.enter 8 Tryz.func126 rfl Tryz.ntmps126 rfl ?_
  obtain ⟨a0, c0, hv⟩ := hr.len
  subst hv
  refine TT.seq (.region (.pures hT 1 rfl (.nil (.seq (.seq (.seq (.region (.pures hT 2 rfl (.nil (.seq (.cond rfl (fun c4 => ?_) (fun c4 => ?_))))))))))))
  ·
    obtain rfl : a0 = none := by cases a0 with | none => rfl | some x => cases c4
    have hx := hr.of_none
    refine TT.seq (.region (.pures hT 1 rfl (.nil (.seq (.ret (.of (rs := [.tmp 2]) [_] ([] :: hs) rfl (.tmp rfl .nil) sl ?_))))))
    try dsimp only [one]
    exact ⟨_, rfl, by rw [hx]; exact Own.nil⟩
  ·
    refine TT.skip (.seq (.seq (.region ?_)))
    refine OT.buildSlice (enc := Go.Sx.encB) (xs := ([] : List UInt8)) (xos := []) el27 rfl rfl rfl rfl rfl (by intro v hv; cases hv) (by intro v hv; cases hv) rfl (by decide) rfl (fun v_5 H_5 ho_5 => ?_)
    refine OT.pures hT 1 rfl ?_
    refine OT.append hT el27 rfl rfl rfl rfl pl ho_5 hr.there (ones_bytes _) (by simp only [List.length_nil]; omega) rfl (fun v_7 H_7 ho_7 => ?_)
    refine OT.pures hT 1 rfl (.nil (.seq (.ret (.of (rs := [.tmp 2]) [_] (H_7 :: hs) rfl (.tmp rfl .nil) sl ?_))))
    try dsimp only [one]
    exact ⟨_, rfl, ho_7⟩

set_option maxHeartbeats 1000000 in
set_option maxRecDepth 100000 in
theorem sh_New {ti : Nat} {ui : Value} {I : Chunk → Prop} {H : Chunk} {r : List Chunk} (hI : I H) : Fun Tryz.prog 15 [.iface ti ui] (H :: r) (fun v' hs' => ∃ b H', v' = .pointer (some ⟨b, 0, none⟩) ∧ hs' = H' :: r ∧ ShOf 110 b (.iface ti ui) I (fun _ => none) H') := by
  refine Fun.enter 7 Tryz.func15 rfl Tryz.ntmps15 rfl ?_
  refine TT.seq (.region (.pures hT 1 rfl (.nil (.seq (.seq (.region (.pures hT 1 rfl (.makeMap rfl rfl (fun b_4 H_4 ho_4 => ?_)))))))))
  refine OT.build (cs := [.iface ti ui, .map (some b_4)]) hT rfl Tryz.zeroValue110 rfl rfl rfl rfl (.box rfl rfl rfl (fun b_6 => ?_))
  refine OT.pures hT 1 rfl (.nil (.seq (.ret (.of (rs := [.tmp 2]) [_] ((([(b_6, blk [.iface ti ui, .map (some b_4)] 110 (0, 0))] ++ H_4) ++ H) :: r) rfl (.tmp rfl .nil) sl ?_))))
  try dsimp only [one]
  exact ⟨b_6, _, rfl, rfl, b_4, H_4, H, rfl, ho_4, MayChg.none, hI⟩

set_option maxHeartbeats 1000000 in
set_option maxRecDepth 100000 in
theorem sh_may {b : Nat} {no : Int} {hs : List Chunk} : Fun Tryz.prog 154 [.pointer (some ⟨b, 0, none⟩), .int .i64 no] hs (fun v' hs' => v' = .int .i64 (if mayPage no then 0 else 3) ∧ hs = hs') := by
  refine Fun.enter 15 Tryz.func154 rfl Tryz.ntmps154 rfl ?_
  refine TT.seq (.region (.pures hT 1 rfl (.nil (.seq (.seq (.block (.seq (.region (.pures hT 3 rfl (.nil (.seq (.cond_false rfl (.seq (.region (.pures hT 3 rfl (.split 11 rfl (fun g11 => ?_) (fun g11 => ?_)))))))))))))))))
  ·
    have g11 := of_decide_eq_true g11
    refine OT.pures hT 4 rfl (.nil (.seq (.cond_true rfl (.seq (.region (.pures hT 1 rfl (.nil (.seq (.ret (.of (rs := [.tmp 4]) [_] hs rfl (.tmp rfl .nil) sl ?_))))))))))
    try dsimp only [one]
    exact ⟨int_eq (by rw [if_neg (by unfold mayPage; omega)]), rfl⟩
  ·
    have g11 := of_decide_eq_false g11
    refine OT.pures hT 4 rfl (.nil (.seq (.cond rfl (fun c8 => ?_) (fun c8 => ?_))))
    ·
      have c8 := of_decide_eq_true c8
      refine TT.seq (.region (.pures hT 1 rfl (.nil (.seq (.ret (.of (rs := [.tmp 4]) [_] hs rfl (.tmp rfl .nil) sl ?_))))))
      try dsimp only [one]
      exact ⟨int_eq (by rw [if_neg (by unfold mayPage; omega)]), rfl⟩
    ·
      have c8 := of_decide_eq_false c8
      refine TT.skip (.blk (.seq (.seq (.region (.pures hT 1 rfl (.nil (.seq (.ret (.of (rs := [.tmp 4]) [_] hs rfl (.tmp rfl .nil) sl ?_)))))))))
      try dsimp only [one]
      exact ⟨int_eq (by rw [if_pos (by unfold mayPage; omega)]), rfl⟩

set_option maxHeartbeats 1000000 in
set_option maxRecDepth 100000 in
theorem sh_below {b : Nat} {P : Value} {I : Chunk → Prop} {E : Int → Chunk → Prop} {Qb : Pages} (hP : PgsA Tryz.prog 5 P I E (pgOf Qb)) (hQ : Long Qb) {bd : Bool} {m : Chg} {H : Chunk} {r : List Chunk} (hH : ShOf 110 b P (St I E bd) m H) {no : Int} (hno : mayPage no) : Fun Tryz.prog 82 [.pointer (some ⟨b, 0, none⟩), .int .i64 no] (H :: r) (fun v' hs' => ∃ bd' H' K w e bs, hs' = H' :: K :: r ∧ v' = .tuple ⟨[w, .int .i64 e]⟩ ∧ Own Go.Sx.encB 1 5 w bs K ∧ ShOf 110 b P (St I E bd') m H' ∧ PgR (0, Qb no) bd bd' e bs) := by
  refine Fun.enter 27 Tryz.func82 rfl Tryz.ntmps82 rfl ?_
  obtain ⟨mb, M, G, rfl, hM, hmm, hG⟩ := hH.is
  obtain ⟨ti, ui, rfl⟩ := hP.iface
  refine TT.split (TT.split ?_)
  have hpg : pgOf Qb no = (0, Qb no) := by unfold pgOf; rw [if_pos hno]
  unfold mayPage at hno
  refine TT.seq (.region (.pures hT 2 rfl (.nil (.seq (.seq (.seq (.region (.pures hT 3 rfl (.load rfl rfl (Ld.one hT rfl hz rfl) rfl ?_)))))))))
  refine OT.pures hT 1 rfl (.nil (.seq (.cond_false rfl (.skip (.seq (.seq (.region (.pures hT 3 rfl (.load rfl rfl (Ld.one hT rfl hz rfl) rfl ?_)))))))))
  refine OT.pures hT 1 rfl (.pageA hP rfl rfl rfl rfl pl hG (by omega) (by omega) (fun bd_19 H_19 K_19 w_19 e_19 bs_19 ho_19 hst_19 hr_19 => ?_))
  rw [hpg] at hr_19
  obtain ⟨a19, c19, rfl⟩ := (ho_19.row (hs := [])).len
  refine OT.pures hT 5 rfl (.nil (.seq (.seq (.seq (.region (.pures hT 2 rfl (.nil (.seq (.cond rfl (fun c23 => ?_) (fun c23 => ?_))))))))))
  ·
    have c23 : e_19 ≠ 0 := by simpa using c23
    refine TT.seq (.region (.pures hT 3 rfl (.nil (.seq (.ret (.of (rs := [.tmp 4, .tmp 5]) [_, _] ((([(b, blk [.iface ti ui, .map (some mb)] 110 (0, 0))] ++ M) ++ H_19) :: [] :: r) rfl (.tmp rfl (.tmp rfl .nil)) sl ?_))))))
    try dsimp only [one]
    exact ⟨bd_19, _, [], _, e_19, [], rfl, rfl, Own.nil, ⟨mb, M, H_19, rfl, hM, hmm, hst_19⟩, hr_19.stay, fun h => absurd h c23, fun h => ⟨(hr_19.good h).1, fun he => absurd he c23, fun _ => rfl⟩, fun h1 h2 => ⟨c23, rfl⟩⟩
  ·
    have c23 : e_19 = 0 := by simpa using c23
    refine TT.skip (.seq (.seq (.region (.pures hT 1 rfl (.call Tryz.call126 rfl rfl rfl rfl (bytes_Clone (xs := bs_19) (ho_19.row.pull pl).there (by have := hr_19.len c23; omega)) ?_)))))
    rintro v_26 hs_26 ⟨HC, rfl, hoC⟩
    refine OT.pures hT 2 rfl (.nil (.seq (.ret (.of (rs := [.tmp 4, .tmp 5]) [_, _] ((([(b, blk [.iface ti ui, .map (some mb)] 110 (0, 0))] ++ M) ++ H_19) :: HC :: r) rfl (.tmp rfl (.tmp rfl .nil)) sl ?_))))
    try dsimp only [one]
    exact ⟨bd_19, _, HC, _, 0, bs_19, rfl, rfl, hoC, ⟨mb, M, H_19, rfl, hM, hmm, hst_19⟩, by rw [c23] at hr_19; exact hr_19⟩

set_option maxHeartbeats 1000000 in
set_option maxRecDepth 100000 in
theorem sh_PageM {b : Nat} {P : Value} {I : Chunk → Prop} {E : Int → Chunk → Prop} {Qb : Pages} (hP : PgsA Tryz.prog 5 P I E (pgOf Qb)) (hQ : Long Qb) {bd : Bool} {m : Chg} {H : Chunk} {r : List Chunk} (hH : ShOf 110 b P (St I E bd) m H) {no : Int} : Fun Tryz.prog 234 [.pointer (some ⟨b, 0, none⟩), .int .i64 no] (H :: r) (fun v' hs' => ∃ bd' H' K w e bs, hs' = H' :: K :: r ∧ v' = .tuple ⟨[w, .int .i64 e]⟩ ∧ Own Go.Sx.encB 1 5 w bs K ∧ ShOf 110 b P (St I E bd') m H' ∧ PgR (pgOf (layC Qb m) no) bd bd' e bs) := by
  refine Fun.enter 32 Tryz.func234 rfl Tryz.ntmps234 rfl ?_
  obtain ⟨mb, M, G, rfl, hM, hmm, hG⟩ := hH.is
  obtain ⟨ti, ui, rfl⟩ := hP.iface
  refine TT.split (TT.split ?_)
  refine TT.seq (.region (.pures hT 2 rfl (.nil (.seq (.seq (.seq (.region (.pures hT 2 rfl (.call Tryz.call154 rfl rfl rfl rfl (sh_may) ?_)))))))))
  rintro v_11 hs_11 ⟨rfl, rfl⟩
  refine OT.pures hT 1 rfl (.nil (.seq (.seq (.region (.pures hT 2 rfl (.nil (.seq (.cond rfl (fun c13 => ?_) (fun c13 => ?_)))))))))
  ·
    have hno : ¬ mayPage no := fun h => by rw [if_pos h] at c13; cases c13
    refine TT.seq (.region (.pures hT 3 rfl (.nil (.seq (.ret (.of (rs := [.tmp 4, .tmp 5]) [_, _] ((([(b, blk [.iface ti ui, .map (some mb)] 110 (0, 0))] ++ M) ++ G) :: [] :: r) rfl (.tmp rfl (.tmp rfl .nil)) sl ?_))))))
    try dsimp only [one]
    rw [if_neg hno]
    exact ⟨bd, _, [], _, 3, [], rfl, rfl, Own.nil, ⟨mb, M, G, rfl, hM, hmm, hG⟩, fun h => h, fun h => (by cases h), fun _ => ⟨by unfold pgOf; rw [if_neg hno], fun h => (by cases h), fun _ => rfl⟩, fun h1 h2 => (by rw [h1] at h2; cases h2)⟩
  ·
    have hno : mayPage no := Decidable.byContradiction fun h => by rw [if_neg h] at c13; cases c13
    have hpg : pgOf (layC Qb m) no = (0, layC Qb m no) := by unfold pgOf; rw [if_pos hno]
    refine TT.skip (.seq (.seq (.seq (.region (.pures hT 3 rfl (.load rfl rfl (Ld.one hT rfl hz rfl) rfl ?_))))))
    refine OT.pures hT 1 rfl (.lookup_ok mapS rfl rfl rfl pl hM rfl ?_)
    refine OT.pures hT 5 rfl (.nil (.seq (.seq (.region (.pures hT 1 rfl (.nil (.seq (.cond rfl (fun c24 => ?_) (fun c24 => ?_)))))))))
    ·
      obtain ⟨x, hx⟩ : ∃ x, m no = some x := by
        cases hx : m no with
        | none => unfold strM at c24; rw [hx] at c24; cases c24
        | some x => exact ⟨x, rfl⟩
      have hgd : (strM m no).getD (.string ⟨#[]⟩) = .string ⟨⟨x⟩⟩ := by unfold strM; rw [hx]; rfl
      refine TT.reg 7 rfl hgd ?_
      have hxl := (hmm no x hx).2
      refine TT.seq (.region (.pures hT 1 rfl (.conv_sb hT rfl rfl rfl rfl rfl rfl (fun v_26 H_26 ho_26 => ?_))))
      refine OT.pures hT 2 rfl (.nil (.seq (.ret (.of (rs := [.tmp 4, .tmp 5]) [_, _] ((([(b, blk [.iface ti ui, .map (some mb)] 110 (0, 0))] ++ M) ++ G) :: H_26 :: r) rfl (.tmp rfl (.tmp rfl .nil)) sl ?_))))
      try dsimp only [one]
      exact ⟨bd, _, _, _, 0, x, rfl, rfl, ho_26, ⟨mb, M, G, rfl, hM, hmm, hG⟩, fun h => h, fun _ => by rw [hxl]; decide, fun _ => ⟨by rw [hpg], fun _ => by rw [hpg]; unfold layC; rw [hx]; rfl, fun h => absurd rfl h⟩, fun h1 h2 => (by rw [h1] at h2; cases h2)⟩
    ·
      have hx : m no = none := by
        cases hx : m no with
        | none => rfl
        | some x => unfold strM at c24; rw [hx] at c24; cases c24
      refine TT.skip (.seq (.seq (.region (.pures hT 2 rfl (.call Tryz.call82 rfl rfl rfl rfl (Fun.join (Fun.join (sh_below hP hQ hH hno))) ?_)))))
      rintro v_29 hs_29 ⟨bd1, H1, K1, w1, e1, bs1, rfl, rfl, ho1, hs1, hr1⟩
      refine OT.pures hT 4 rfl (.nil (.seq (.ret (.of (rs := [.tmp 4, .tmp 5]) [_, _] (H1 :: K1 :: r) rfl (.tmp rfl (.tmp rfl .nil)) sl ?_))))
      try dsimp only [one]
      have hl : layC Qb m no = Qb no := by unfold layC; rw [hx]; rfl
      exact ⟨bd1, H1, K1, w1, e1, bs1, rfl, rfl, ho1, hs1, by rw [hpg, hl]; exact hr1⟩

theorem sheet_Pgs {b : Nat} {P : Value} {I : Chunk → Prop} {E : Int → Chunk → Prop} {Qb : Pages} (hP : PgsA Tryz.prog 5 P I E (pgOf Qb)) (hQ : Long Qb) {Qt : Pages} : PgsA Tryz.prog 5 (.iface 24 (.pointer (some ⟨b, 0, none⟩))) (ShAt 110 b P I Qb Qt) (ShBad 110 b P E) (pgOf Qt) := by
  refine ⟨24, .pointer (some ⟨b, 0, none⟩), 234, .pointer (some ⟨b, 0, none⟩), rfl, fun w => by kernel_rfl, Tryz.call234, fun bd no H r h1 h2 hS => ?_⟩
  have hH : ∃ m', ShOf 110 b P (St I E bd) m' H ∧ (bd = false → Qt = layC Qb m') := by
    cases bd with
    | false => obtain ⟨m, h, h2⟩ := hS; exact ⟨m, h, fun _ => h2⟩
    | true => obtain ⟨_, m', h⟩ := hS; exact ⟨m', h, fun h => (by cases h)⟩
  obtain ⟨m', hH, hm⟩ := hH
  refine (sh_PageM hP hQ hH).mono ?_
  rintro v' hs' ⟨bd', H', K, w, e, bs, rfl, rfl, ho, hs, hr⟩
  refine ⟨bd', H', K, w, e, bs, rfl, rfl, ho, ?_, hr.stay, hr.len, fun h => ?_, hr.fail⟩
  · cases bd' with
    | false => cases bd with
      | false => exact ⟨m', hs, hm rfl⟩
      | true => exact absurd (hr.stay rfl) (by simp)
    | true => exact ⟨0, m', hs⟩
  · have hb : bd = false := by cases bd with
      | false => rfl
      | true => rw [hr.stay rfl] at h; cases h
    rw [hm hb]; exact hr.good h

set_option maxHeartbeats 1000000 in
set_option maxRecDepth 100000 in
theorem sh_SetM {b : Nat} {P : Value} {t u} (hv : P = .iface t u) {J : Chunk → Prop} {m : Chg} {H : Chunk} {r : List Chunk} (hH : ShOf 110 b P J m H) {no : Int} {v : Value} {bs : List UInt8} (hr : Row Go.Sx.encB 1 r v bs) (hb : bs.length ≤ 1073741824) : Fun Tryz.prog 109 [.pointer (some ⟨b, 0, none⟩), .int .i64 no, v] (H :: r) (fun v' hs' => ∃ H', hs' = H' :: r ∧ ((¬ mayPage no ∧ v' = .int .i64 3 ∧ H' = H) ∨ (mayPage no ∧ bs.length ≠ 256 ∧ v' = .int .i64 1 ∧ H' = H) ∨ (mayPage no ∧ bs.length = 256 ∧ v' = .int .i64 0 ∧ ShOf 110 b P J (updO m no bs) H'))) := by
  refine Fun.enter 24 Tryz.func109 rfl Tryz.ntmps109 rfl ?_
  obtain ⟨mb, M, G, rfl, hM, hmm, hG⟩ := hH.is
  subst hv
  refine TT.split (TT.split ?_)
  obtain ⟨a0, c0, hv⟩ := hr.len
  subst hv
  refine TT.seq (.region (.pures hT 1 rfl (.nil (.seq (.seq (.seq (.region (.pures hT 2 rfl (.call Tryz.call154 rfl rfl rfl rfl (sh_may) ?_)))))))))
  rintro v_10 hs_10 ⟨rfl, rfl⟩
  refine OT.pures hT 1 rfl (.nil (.seq (.seq (.region (.pures hT 2 rfl (.nil (.seq (.cond rfl (fun c12 => ?_) (fun c12 => ?_)))))))))
  ·
    have hno : ¬ mayPage no := fun h => by rw [if_pos h] at c12; cases c12
    refine TT.seq (.region (.pures hT 2 rfl (.nil (.seq (.ret (.of (rs := [.tmp 6]) [_] ((([(b, blk [.iface t u, .map (some mb)] 110 (0, 0))] ++ M) ++ G) :: r) rfl (.tmp rfl .nil) sl ?_))))))
    try dsimp only [one]
    exact ⟨_, rfl, .inl ⟨hno, by rw [if_neg hno]; rfl, rfl⟩⟩
  ·
    have hno : mayPage no := Decidable.byContradiction fun h => by rw [if_neg h] at c12; cases c12
    refine TT.skip (.seq (.seq (.seq (.region (.pures hT 3 rfl (.nil (.seq (.cond rfl (fun c16 => ?_) (fun c16 => ?_)))))))))
    ·
      have c16 : (bs.length : Int) ≠ 256 := by simpa using c16
      refine TT.seq (.region (.pures hT 1 rfl (.nil (.seq (.ret (.of (rs := [.tmp 6]) [_] ((([(b, blk [.iface t u, .map (some mb)] 110 (0, 0))] ++ M) ++ G) :: r) rfl (.tmp rfl .nil) sl ?_))))))
      try dsimp only [one]
      exact ⟨_, rfl, .inr (.inl ⟨hno, by omega, rfl, rfl⟩)⟩
    ·
      have c16 : (bs.length : Int) = 256 := by simpa using c16
      refine TT.skip (.seq (.seq (.draw (([(b, blk [.iface t u, .map (some mb)] 110 (0, 0))] :: r)) mixed (.takes (fuel := 3) hT [0, 1, 2, 4, 5] kr kr rfl (.take (fuel := 2) hT 3 rfl rfl kr kr kr rfl (.load rfl (Ld.one hT rfl hz rfl)) rfl ?_)))))
      refine AT.conv (fuel := 1) 6 rfl kr kr kr hT rfl rfl rfl rfl rfl hr.there rfl (.op (fuel := 0) 7 kr rfl sl (.mapUpdate mapS rfl rfl rfl rfl pl hM (fun H_y ho_y => ?_)))
      rw [show (Value.string ⟨⟨bs⟩⟩) = .string (txt bs) from rfl, strM_upd] at ho_y
      refine OT.nil (.any (.done kr sl (.seq (.seq (.region (.pures hT 1 rfl (.nil (.seq (.ret (.of (rs := [.tmp 6]) [_] ((([(b, blk [.iface t u, .map (some mb)] 110 (0, 0))] ++ H_y) ++ G) :: r) rfl (.tmp rfl .nil) sl ?_))))))))))
      try dsimp only [one]
      exact ⟨_, rfl, .inr (.inr ⟨hno, by omega, rfl, mb, H_y, G, rfl, ho_y, hmm.upd hno (by omega), hG⟩)⟩

end Go.Proofs.YtihpkgmfkbkffaaGreat.Sx
end

section
namespace Go.Proofs.YtihpkgmfkbkffaaGreat.Sx
open Go Go.Sx Go.Pl
variable [Outer]

set_option maxHeartbeats 2000000 in
set_option maxRecDepth 100000 in
theorem sh_Changes {b : Nat} {P : Value} {I : Chunk → Prop} {E : Int → Chunk → Prop} {Qb : Pages} (hP : PgsA Tryz.prog 5 P I E (pgOf Qb)) (hQ : Long Qb) {bd : Bool} {m : Chg} {H : Chunk} {r : List Chunk} (hH : ShOf 110 b P (St I E bd) m H) : Fun Tryz.prog 47 [.pointer (some ⟨b, 0, none⟩)] (H :: r) (fun v' hs' => ∃ bd' ts HI H', hs' = HI :: H' :: r ∧ OwnIms 143 5 v' ts HI ∧ ShOf 110 b P (St I E bd') m H' ∧ (bd = true → bd' = true) ∧ (bd' = false → imgs ts = chgs Qb (layC Qb m) 96) ∧ (∀ x ∈ imgs ts, mayPage x.1 ∧ x.2.length = 256) ∧ ts.length ≤ 96) := by
  refine Fun.enter 54 Tryz.func47 rfl Tryz.ntmps47 rfl ?_
  obtain ⟨mb, M, G, rfl, hM, hmm, hG⟩ := hH.is
  have hP0 := hP
  obtain ⟨ti, ui, rfl⟩ := hP.iface
  have hkl := keys_few m
  refine TT.split (TT.split ?_)
  refine TT.seq (.region (.pures hT 1 rfl (.nil (.seq (.seq (.seq (.region (.pures hT 2 rfl (.nil (.seq (.cond_false rfl (.skip (.seq (.seq (.region (.pures hT 1 rfl (.nil (.seq (.seq (.seq (.region (.pures hT 3 rfl (.load rfl rfl (Ld.one hT rfl hz rfl) rfl ?_)))))))))))))))))))))))
  refine OT.call Tryz.call81 rfl rfl rfl rfl (mp_Keys) ?_
  rintro v_14 hs_14 ⟨bx, rfl, rfl⟩
  refine OT.call Tryz.call80 rfl rfl rfl rfl (Fun.weaken sl (sl_Sorted hM (strM_in hmm) (by decide))) ?_
  rintro v_15 hs_15 ⟨HK, rfl, hoK⟩
  obtain ⟨ak, ck, rfl⟩ := (hoK.row (hs := [])).len
  refine OT.pures hT 2 rfl (.nil (.seq (.block (.chunk0 (.chunk0 (.loop (ι := Nat × (List It) × Value × Chunk × Bool × Chunk) (fun j => (j.1) ≤ (keysTo (strM m) 96).length ∧ (j.2.1).length ≤ (j.1) ∧ (∀ u ∈ (j.2.1), Own Go.Sx.encB 1 5 u.1.v u.1.b u.2) ∧ Own encIm 2 143 (j.2.2.1) ((j.2.1).map (·.1)) (j.2.2.2.1) ∧ ShOf 110 b (.iface ti ui) (St I E (j.2.2.2.2.1)) m (j.2.2.2.2.2) ∧ (bd = true → (j.2.2.2.2.1) = true) ∧ ((j.2.2.2.2.1) = false → imgs ((j.2.1).map (·.1)) = ((keysTo (strM m) 96).take (j.1)).filterMap (fun no => if layC Qb m no = Qb no then none else some (no, layC Qb m no))) ∧ (∀ x ∈ imgs ((j.2.1).map (·.1)), mayPage x.1 ∧ x.2.length = 256)) (fun j => (keysTo (strM m) 96).length - (j.1)) (fun j => [(0, .pointer (some ⟨b, 0, none⟩)), (3, (j.2.2.1)), (15, .slice ak (keysTo (strM m) 96).length ck), (16, .int .i64 ((keysTo (strM m) 96).length : Nat)), (17, .int .i64 ((j.1) : Nat))]) (fun j => (j.2.2.2.1) :: itChunk (j.2.1) :: HK :: (j.2.2.2.2.2) :: r) (0, [], .slice none 0 0, [], bd, (([(b, blk [.iface ti ui, .map (some mb)] 110 (0, 0))] ++ M) ++ G)) ?_ (SubR.cons rfl (SubR.cons rfl (SubR.cons rfl (SubR.cons rfl (SubR.cons rfl (SubR.nil _)))))) (.empty (.empty sl)) ?_))))))
  · dsimp only
    exact ⟨by omega, Nat.le_refl _, (by intro u hu; cases hu), Own.nil, hH, fun h => h, fun _ => rfl, (by intro x hx; cases hx)⟩
  rintro ⟨i, us, w, K, bd1, H1⟩ hI
  dsimp only at hI
  obtain ⟨hin, hul, hus, hw, hS, hbb, him, hmay⟩ := hI
  show TT _ _ _ [(0, .pointer (some ⟨b, 0, none⟩)), (3, w), (15, .slice ak (keysTo (strM m) 96).length ck), (16, .int .i64 ((keysTo (strM m) 96).length : Nat)), (17, .int .i64 (i : Nat))] (K :: itChunk us :: HK :: H1 :: r)
  refine TT.seq (.region (.pures hT 1 rfl (.nil (.seq (.seq (.cond rfl (fun c18 => ?_) (fun c18 => ?_)))))))
  ·
    have c18 := of_decide_eq_true c18
    obtain ⟨no, hno⟩ := nth (l := keysTo (strM m) 96) (i := i) (by omega)
    obtain ⟨x, hx, hmp⟩ := key_at hmm hno
    have hxl := (hmm no x hx).2
    have hlx : layC Qb m no = x := by unfold layC; rw [hx]; rfl
    have hgd : (strM m no).getD (.string ⟨#[]⟩) = .string ⟨⟨x⟩⟩ := by unfold strM; rw [hx]; rfl
    refine TT.skip (.seq (.seq (.block (.seq (.region (.index hT rfl rfl rfl rfl hoK.row.there.there (by omega) (by rw [Int.toNat_natCast]; exact hno) rfl (fun ad_19 hel_19 => ?_)))))))
    refine OT.load rfl rfl (hel_19.ld_one hT rfl rfl) rfl (.pures hT 1 rfl (.nil (.seq (.seq (.region (.pures hT 2 rfl (.call Tryz.call82 rfl rfl rfl rfl (Fun.pull pl (sh_below hP0 hQ hS hmp)) ?_)))))))
    rintro v_24 hs_24 ⟨bd2, H2, K2, w2, e2, bs2, rfl, rfl, ho2, hS2, hr2⟩
    obtain ⟨mb1, M1, G1, rfl, hM1, hmm1, hG1⟩ := hS2.is
    refine OT.split_chunk (OT.split_chunk ?_)
    obtain ⟨a2, c2, rfl⟩ := (ho2.row (hs := [])).len
    refine OT.pures hT 5 rfl (.nil (.seq (.seq (.draw (([(b, blk [.iface ti ui, .map (some mb1)] 110 (0, 0))] :: K2 :: r)) mixed (.takes (fuel := 10) hT [0, 1, 2] kr kr rfl (.split 29 rfl (fun g29 => ?_) (fun g29 => ?_)))))))
    ·
      refine AT.takes (fuel := 0) hT [3, 4, 5, 6, 7, 8, 9, 10, 11, 12] kr kr rfl (.done kr sl (.seq (.cond_true rfl (.region (.pures hT 5 rfl (.load rfl rfl (Ld.one hT rfl hz rfl) rfl ?_))))))
      refine OT.pures hT 1 rfl (.lookup mapS rfl rfl rfl pl hM1 rfl ?_)
      refine OT.reg 47 rfl hgd (.conv_sb hT rfl rfl rfl rfl rfl rfl (fun v_48 H_48 ho_48 => ?_))
      obtain ⟨a8, c8, rfl⟩ := (ho_48.row (hs := [])).len
      refine OT.build (cs := [.int .i64 no, .slice a8 x.length c8]) hT rfl Tryz.zeroValue143 rfl rfl rfl rfl ?_
      refine OT.buildSlice (enc := encIm) (xs := [(⟨no, .slice a8 x.length c8, x⟩ : Im)]) (xos := [.tmp 49]) el101 rfl rfl rfl rfl rfl (by simp [Value.cells]) (fun _ _ => rfl) rfl (by decide) rfl (fun v_50 H_50 ho_50 => ?_)
      refine OT.append hT el101 rfl rfl rfl rfl pl hw ho_50.row rfl (by simp only [List.length_cons, List.length_nil, List.length_map]; omega) rfl (fun v_51 H_51 ho_51 => ?_)
      refine OT.pures hT 1 rfl (.nil (.blk (.seq (.region (.pures hT 2 rfl (.nil (.loop (i + 1, us ++ [(⟨no, .slice a8 x.length c8, x⟩, H_48)], v_51, H_51, bd2, (([(b, blk [.iface ti ui, .map (some mb1)] 110 (0, 0))] ++ M1) ++ G1)) ?_ ?_ (SubR.cons rfl (SubR.cons rfl (SubR.cons rfl (SubR.cons rfl (SubR.cons' rfl (by (try dsimp only); exact (int_eq (by rw [wrap_i64 (by omega) (by omega)]; omega))) (SubR.nil _)))))) (by rw [itChunk_snoc]; exact sl))))))))
      · dsimp only
        refine ⟨by omega, by rw [List.length_append]; simp only [List.length_singleton]; omega, ?_, by rw [List.map_append]; exact ho_51, ⟨mb1, M1, G1, rfl, hM1, hmm1, hG1⟩, fun h => hr2.stay (hbb h), fun h => ?_, ?_⟩
        · exact own_snoc hus ho_48
        · have hg := (hr2.good h).1
          exact absurd hg (by simpa using g29)
        · exact may_snoc hmay hmp hxl
      · dsimp only
        omega
    ·
      have c27 : e2 = 0 := by simpa using g29
      refine AT.takes (fuel := 5) hT [3, 5, 6, 7, 9] kr kr rfl (.take (fuel := 4) hT 8 rfl rfl kr kr kr rfl (.load rfl (Ld.one hT rfl hz rfl)) rfl ?_)
      refine AT.conv (fuel := 3) 4 rfl kr kr kr hT rfl rfl rfl rfl rfl ho2.row.there rfl (.op (fuel := 2) 10 kr rfl sl (.lookup mapS rfl rfl rfl pl hM1 rfl ?_))
      refine OT.reg 37 rfl hgd (.nil (.any (.takes (fuel := 0) hT [11, 12] kr kr rfl (.done kr sl (.seq (.cond rfl (fun c39 => ?_) (fun c39 => ?_)))))))
      ·
        refine TT.region (.pures hT 5 rfl (.load rfl rfl (Ld.one hT rfl hz rfl) rfl ?_))
        refine OT.pures hT 1 rfl (.lookup mapS rfl rfl rfl pl hM1 rfl ?_)
        refine OT.reg 47 rfl hgd (.conv_sb hT rfl rfl rfl rfl rfl rfl (fun v_48 H_48 ho_48 => ?_))
        obtain ⟨a8, c8, rfl⟩ := (ho_48.row (hs := [])).len
        refine OT.build (cs := [.int .i64 no, .slice a8 x.length c8]) hT rfl Tryz.zeroValue143 rfl rfl rfl rfl ?_
        refine OT.buildSlice (enc := encIm) (xs := [(⟨no, .slice a8 x.length c8, x⟩ : Im)]) (xos := [.tmp 49]) el101 rfl rfl rfl rfl rfl (by simp [Value.cells]) (fun _ _ => rfl) rfl (by decide) rfl (fun v_50 H_50 ho_50 => ?_)
        refine OT.append hT el101 rfl rfl rfl rfl pl hw ho_50.row rfl (by simp only [List.length_cons, List.length_nil, List.length_map]; omega) rfl (fun v_51 H_51 ho_51 => ?_)
        refine OT.pures hT 1 rfl (.nil (.blk (.seq (.region (.pures hT 2 rfl (.nil (.loop (i + 1, us ++ [(⟨no, .slice a8 x.length c8, x⟩, H_48)], v_51, H_51, bd2, (([(b, blk [.iface ti ui, .map (some mb1)] 110 (0, 0))] ++ M1) ++ G1)) ?_ ?_ (SubR.cons rfl (SubR.cons rfl (SubR.cons rfl (SubR.cons rfl (SubR.cons' rfl (by (try dsimp only); exact (int_eq (by rw [wrap_i64 (by omega) (by omega)]; omega))) (SubR.nil _)))))) (by rw [itChunk_snoc]; exact sl))))))))
        · dsimp only
          refine ⟨by omega, by rw [List.length_append]; simp only [List.length_singleton]; omega, ?_, by rw [List.map_append]; exact ho_51, ⟨mb1, M1, G1, rfl, hM1, hmm1, hG1⟩, fun h => hr2.stay (hbb h), fun h => ?_, ?_⟩
          · exact own_snoc hus ho_48
          · have hb1 := bd_back hr2 h
            rw [take_succ hno, List.filterMap_append, List.map_append, imgs_append, ← him hb1]
            congr 1
            have hg := hr2.good h
            exact (keep_new (by rw [hlx, show Qb no = bs2 from (hg.2.1 c27).symm]; exact txt_ne2 c39) hlx).symm
          · exact may_snoc hmay hmp hxl
        · dsimp only
          omega
      ·
        refine TT.skip (.blk (.seq (.region (.pures hT 2 rfl (.nil (.loop (i + 1, us, w, K, bd2, (([(b, blk [.iface ti ui, .map (some mb1)] 110 (0, 0))] ++ M1) ++ G1)) ?_ ?_ (SubR.cons rfl (SubR.cons rfl (SubR.cons rfl (SubR.cons rfl (SubR.cons' rfl (by (try dsimp only); exact (int_eq (by rw [wrap_i64 (by omega) (by omega)]; omega))) (SubR.nil _)))))) sl))))))
        · dsimp only
          refine ⟨by omega, by omega, hus, hw, ⟨mb1, M1, G1, rfl, hM1, hmm1, hG1⟩, fun h => hr2.stay (hbb h), fun h => ?_, hmay⟩
          have hb1 := bd_back hr2 h
          rw [take_succ hno, List.filterMap_append, ← him hb1]
          have hg := hr2.good h
          rw [keep_same (by rw [hlx, show Qb no = bs2 from (hg.2.1 c27).symm]; exact txt_eq2 c39)]
          rw [List.append_nil]
        · dsimp only
          omega
  ·
    have c18 := of_decide_eq_false c18
    obtain rfl : i = (keysTo (strM m) 96).length := by omega
    rw [List.take_length, chgs_keys] at him
    refine TT.exit (.seq (.loop (.here (.seq (.seq (.region (.pures hT 2 rfl (.nil (.seq (.ret (.of (rs := [.tmp 2]) [_] ((K ++ itChunk us) :: H1 :: r) rfl (.tmp rfl .nil) sl ?_)))))))))))
    try dsimp only [one]
    exact ⟨bd1, us.map Prod.fst, _, _, rfl, (⟨us, K, rfl, hus, hw, rfl⟩ : OwnIms _ _ w _ _), hS, hbb, him, hmay, by rw [List.length_map]; omega⟩

end Go.Proofs.YtihpkgmfkbkffaaGreat.Sx
end

section
namespace Go.Proofs.YtihpkgmfkbkffaaGreat.Sx
open Go Go.Sx Go.Pl
variable [Outer]

set_option maxHeartbeats 1000000 in
set_option maxRecDepth 100000 in
theorem al_Root {P : Value} {I : Chunk → Prop} {E : Int → Chunk → Prop} {pg : Int → Int × List UInt8} {H : Chunk} {r : List Chunk} (hP : Pgs Tryz.prog 5 P I E pg) (hI : I H) : Fun Tryz.prog 133 [P] (H :: r) (fun v' hs' => ∃ H' no e, hs' = H' :: r ∧ v' = .tuple ⟨[.int .i64 no, .int .i64 e]⟩ ∧ ((I H' ∧ (no, e) = rootX (pg 1)) ∨ (e ≠ 0 ∧ E e H'))) := by
  refine Fun.enter 27 Tryz.func133 rfl Tryz.ntmps133 rfl ?_
  refine TT.seq (.region (.pures hT 2 rfl (.nil (.seq (.seq (.region (.pures hT 1 rfl (.call Tryz.call157 rfl rfl rfl rfl (alloc_read hP hI) ?_))))))))
  rintro v_9 hs_9 ⟨H1, K1, w1, e1, bs1, rfl, rfl, ho1, hq1⟩
  refine OT.pures hT 5 rfl (.nil (.seq (.seq (.seq (.region (.pures hT 2 rfl (.nil (.seq (.cond rfl (fun c13 => ?_) (fun c13 => ?_))))))))))
  ·
    have c13 := bne_iff_ne.1 c13
    rcases hq1 with ⟨h, _⟩ | ⟨h, rfl, hq⟩
    · exact absurd h c13
    refine TT.seq (.region (.pures hT 3 rfl (.nil (.seq (.ret (.of (rs := [.tmp 2, .tmp 3]) [_, _] (H1 :: r) rfl (.tmp rfl (.tmp rfl .nil)) sl ?_))))))
    try dsimp only [one]
    rcases hq with ⟨h1, h2⟩ | h2
    · exact ⟨H1, 0, e1, rfl, rfl, .inl ⟨h2, by unfold rootX; dsimp only; rw [if_pos (by rw [h1]; exact c13), h1]⟩⟩
    · exact ⟨H1, 0, e1, rfl, rfl, .inr ⟨c13, h2⟩⟩
  ·
    have c13 := bne_eq_false_iff_eq.1 c13
    rcases hq1 with ⟨rfl, hx, hI1⟩ | ⟨h, _⟩
    rotate_left
    · exact absurd c13 h
    have hl1 := whole_len hx
    refine TT.skip (.seq (.seq (.region (.pures hT 1 rfl ?_))))
    obtain ⟨c4, hc4⟩ := nth (l := bs1) (i := 4) (by omega)
    have hrt : rootOf bs1 = (c4.toNat : Int) := by unfold rootOf; rw [List.getD_eq_getElem?_getD, hc4]; rfl
    have hc4l := c4.toNat_lt
    refine OT.index hT rfl rfl rfl rfl ho1.row.there (by omega) (by exact hc4) rfl (fun ad_16 hel_16 => ?_)
    refine OT.load rfl rfl (hel_16.ld_one hT rfl rfl) rfl (.pures hT 1 rfl (.reg 18 rfl (v := .int .i64 (rootOf bs1)) (int_eq (by rw [hrt, wrap_i64 (by omega) (by omega)])) (.pures hT 1 rfl (.nil (.seq (.seq (.seq (.region (.pures hT 3 rfl (.split 21 rfl (fun g21 => ?_) (fun g21 => ?_)))))))))))
    ·
      have g21 : rootOf bs1 ≠ 0 := by simpa using g21
      refine OT.pures hT 1 rfl (.call Tryz.call166 rfl rfl rfl rfl (alloc_is) ?_)
      rintro v_23 hs_23 ⟨rfl, rfl⟩
      refine OT.pures hT 2 rfl (.nil (.seq (.cond rfl (fun c25 => ?_) (fun c25 => ?_))))
      ·
        have c25 : ¬ mayUse (rootOf bs1) := by simpa using c25
        refine TT.seq (.region (.pures hT 2 rfl (.nil (.seq (.ret (.of (rs := [.tmp 2, .tmp 3]) [_, _] (H1 :: r) rfl (.tmp rfl (.tmp rfl .nil)) sl ?_))))))
        try dsimp only [one]
        exact ⟨H1, 0, 3, rfl, rfl, .inl ⟨hI1, by unfold rootX; dsimp only; rw [hx, if_neg (by simp), if_pos ⟨g21, c25⟩]⟩⟩
      ·
        have c25 : mayUse (rootOf bs1) := by simpa using c25
        refine TT.skip (.seq (.seq (.region (.pures hT 3 rfl (.nil (.seq (.ret (.of (rs := [.tmp 2, .tmp 3]) [_, _] (H1 :: r) rfl (.tmp rfl (.tmp rfl .nil)) sl ?_))))))))
        try dsimp only [one]
        exact ⟨H1, _, 0, rfl, rfl, .inl ⟨hI1, by unfold rootX; dsimp only; rw [hx, if_neg (by simp), if_neg (fun h => h.2 c25)]⟩⟩
    ·
      have g21 : rootOf bs1 = 0 := by simpa using g21
      refine OT.pures hT 4 rfl (.nil (.seq (.cond_false rfl (.skip (.seq (.seq (.region (.pures hT 3 rfl (.nil (.seq (.ret (.of (rs := [.tmp 2, .tmp 3]) [_, _] (H1 :: r) rfl (.tmp rfl (.tmp rfl .nil)) sl ?_))))))))))))
      try dsimp only [one]
      exact ⟨H1, _, 0, rfl, rfl, .inl ⟨hI1, by unfold rootX; dsimp only; rw [hx, if_neg (by simp), if_neg (fun h => h.1 g21)]⟩⟩


theorem sh_read {b : Nat} {P : Value} {I : Chunk → Prop} {E : Int → Chunk → Prop} {Qb : Pages} (hP : PgsA Tryz.prog 5 P I E (pgOf Qb)) (hQ : Long Qb) {Qt : Pages} {H : Chunk} {r : List Chunk} (hH : ShAt 110 b P I Qb Qt H) : Fun Tryz.prog 157 [.iface 24 (.pointer (some ⟨b, 0, none⟩))] (H :: r) (fun v' hs' => ∃ H' K w e bs, hs' = H' :: K :: r ∧ v' = .tuple ⟨[w, .int .i64 e]⟩ ∧ Own Go.Sx.encB 1 5 w bs K ∧ ((e = 0 ∧ bs = Qt 1 ∧ ShAt 110 b P I Qb Qt H') ∨ (e ≠ 0 ∧ bs = [] ∧ ∃ e, ShBad 110 b P E e H'))) := by
  refine (alloc_read (sheet_Pgs hP hQ).pgs hH).mono ?_
  rintro v' hs' ⟨H', K, w, e, bs, h1, h2, h3, h4⟩
  refine ⟨H', K, w, e, bs, h1, h2, h3, ?_⟩
  rw [whole_pg (hH.long hQ)] at h4
  rcases h4 with ⟨h5, h6, h7⟩ | ⟨h5, h6, ⟨h7, _⟩ | h7⟩
  · exact .inl ⟨h5, (congrArg Prod.snd h6).symm, h7⟩
  · exact absurd h7.symm h5
  · exact .inr ⟨h5, h6, h7⟩

theorem sh_Set {b : Nat} {P : Value} {I : Chunk → Prop} {E : Int → Chunk → Prop} {Qb : Pages} (hP : PgsA Tryz.prog 5 P I E (pgOf Qb)) (hQ : Long Qb) {Qt : Pages} {H : Chunk} {r : List Chunk} (hH : ShAt 110 b P I Qb Qt H) {no : Int} {v : Value} {bs : List UInt8} (hr : Row Go.Sx.encB 1 r v bs) (hno : mayPage no) (hb : bs.length = 256) : Fun Tryz.prog 109 [.pointer (some ⟨b, 0, none⟩), .int .i64 no, v] (H :: r) (fun v' hs' => ∃ H', hs' = H' :: r ∧ v' = .int .i64 0 ∧ ShAt 110 b P I Qb (upd Qt no bs) H') := by
  obtain ⟨m, hm, rfl⟩ := hH
  obtain ⟨ti, ui, hv⟩ := hP.iface
  refine (sh_SetM hv hm hr (by omega)).mono ?_
  rintro v' hs' ⟨H', h1, ⟨h2, _⟩ | ⟨_, h2, _⟩ | ⟨_, _, h2, h3⟩⟩
  · exact absurd hno h2
  · exact absurd hb h2
  · exact ⟨H', h1, h2, _, h3, (layC_upd _ _ _ _).symm⟩

set_option maxHeartbeats 1000000 in
set_option maxRecDepth 100000 in
theorem al_SetRoot {b : Nat} {P : Value} {I : Chunk → Prop} {E : Int → Chunk → Prop} {Qb : Pages} (hP : PgsA Tryz.prog 5 P I E (pgOf Qb)) (hQ : Long Qb) {Qt : Pages} {H : Chunk} {r : List Chunk} (hH : ShAt 110 b P I Qb Qt H) {no : Int} (hno : no = 0 ∨ mayUse no) : Fun Tryz.prog 143 [.pointer (some ⟨b, 0, none⟩), .int .i64 no] (H :: r) (fun v' hs' => ∃ H' e, hs' = H' :: r ∧ v' = .int .i64 e ∧ ((e = 0 ∧ ShAt 110 b P I Qb (upd Qt 1 ((Qt 1).set 4 (UInt8.ofNat no.toNat))) H') ∨ (e ≠ 0 ∧ ∃ e, ShBad 110 b P E e H'))) := by
  refine Fun.enter 30 Tryz.func143 rfl Tryz.ntmps143 rfl ?_
  have hnb : 0 ≤ no ∧ no < 32 := by unfold mayUse at hno; omega
  refine TT.seq (.region (.pures hT 1 rfl (.nil (.seq (.seq (.seq (.region (.pures hT 3 rfl (.split 9 rfl (fun g9 => ?_) (fun g9 => ?_))))))))))
  ·
    have g9 : no ≠ 0 := by simpa using g9
    refine OT.pures hT 1 rfl (.call Tryz.call166 rfl rfl rfl rfl (alloc_is) ?_)
    rintro v_11 hs_11 ⟨rfl, rfl⟩
    refine OT.pures hT 2 rfl (.nil (.seq (.cond rfl (fun c13 => ?_) (fun c13 => ?_))))
    ·
      exact absurd (hno.resolve_left g9) (by simpa using c13)
    ·
      refine TT.skip (.seq (.seq (.region (.pures hT 1 rfl (.mkiface Tryz.underlying24 rfl rfl rfl rfl (.call Tryz.call157 rfl rfl rfl rfl (sh_read hP hQ hH) ?_))))))
      rintro v_17 hs_17 ⟨H1, K1, w1, e1, bs1, rfl, rfl, ho1, hq1⟩
      refine OT.pures hT 5 rfl (.nil (.seq (.seq (.seq (.region (.pures hT 2 rfl (.nil (.seq (.cond rfl (fun c21 => ?_) (fun c21 => ?_))))))))))
      ·
        have c21 := bne_iff_ne.1 c21
        rcases hq1 with ⟨h, _⟩ | ⟨h, rfl, hq⟩
        · exact absurd h c21
        refine TT.seq (.region (.pures hT 2 rfl (.nil (.seq (.ret (.of (rs := [.tmp 4]) [_] (H1 :: r) rfl (.tmp rfl .nil) sl ?_))))))
        try dsimp only [one]
        exact ⟨H1, e1, rfl, rfl, .inr ⟨c21, hq⟩⟩
      ·
        have c21 := bne_eq_false_iff_eq.1 c21
        rcases hq1 with ⟨rfl, hx, hI1⟩ | ⟨h, _⟩
        rotate_left
        · exact absurd c21 h
        have hl1 : bs1.length = 256 := by rw [hx]; exact hH.long hQ 1 (by unfold mayPage; omega)
        obtain ⟨aw, cw, rfl⟩ := (ho1.row (hs := [])).len
        obtain ⟨bw, ow, rfl⟩ := own_addr ho1 (by omega)
        refine TT.skip (.seq (.seq (.region (.pures hT 2 rfl (.pures hT 1 rfl (.reg 25 rfl (v := .int .u8 ((UInt8.ofNat no.toNat).toNat : Int)) (int_eq (byte_no hnb)) (.index_raw hT rfl rfl rfl rfl (by omega) (by omega) rfl (.store_el 4 0 hT rfl rfl rfl rfl pl ho1 (nth4 hl1) rfl rfl (by decide) rfl (show splice (Go.Sx.encB _) 0 [.int .u8 ((UInt8.ofNat no.toNat).toNat : Int)] = Go.Sx.encB (UInt8.ofNat no.toNat) from rfl) (fun H_y ho_y => ?_)))))))))
        refine OT.nil (.seq (.seq (.region (.pures hT 2 rfl (.call Tryz.call109 rfl rfl rfl rfl (Fun.weaken sl (sh_Set hP hQ hI1 (no := 1) (r := H_y :: r) ho_y.row (by unfold mayPage; omega) (by rw [List.length_set]; exact hl1))) ?_)))))
        rintro v_29 hs_29 ⟨H2, rfl, rfl, hI2⟩
        refine OT.pures hT 1 rfl (.nil (.seq (.ret (.of (rs := [.tmp 4]) [_] (H2 :: r) rfl (.tmp rfl .nil) sl ?_))))
        try dsimp only [one]
        rw [hx] at hI2
        exact ⟨H2, 0, rfl, rfl, .inl ⟨rfl, hI2⟩⟩
  ·
    refine OT.pures hT 4 rfl (.nil (.seq (.cond_false rfl (.skip (.seq (.seq (.region (.pures hT 1 rfl (.mkiface Tryz.underlying24 rfl rfl rfl rfl (.call Tryz.call157 rfl rfl rfl rfl (sh_read hP hQ hH) ?_))))))))))
    rintro v_17 hs_17 ⟨H1, K1, w1, e1, bs1, rfl, rfl, ho1, hq1⟩
    refine OT.pures hT 5 rfl (.nil (.seq (.seq (.seq (.region (.pures hT 2 rfl (.nil (.seq (.cond rfl (fun c21 => ?_) (fun c21 => ?_))))))))))
    ·
      have c21 := bne_iff_ne.1 c21
      rcases hq1 with ⟨h, _⟩ | ⟨h, rfl, hq⟩
      · exact absurd h c21
      refine TT.seq (.region (.pures hT 2 rfl (.nil (.seq (.ret (.of (rs := [.tmp 4]) [_] (H1 :: r) rfl (.tmp rfl .nil) sl ?_))))))
      try dsimp only [one]
      exact ⟨H1, e1, rfl, rfl, .inr ⟨c21, hq⟩⟩
    ·
      have c21 := bne_eq_false_iff_eq.1 c21
      rcases hq1 with ⟨rfl, hx, hI1⟩ | ⟨h, _⟩
      rotate_left
      · exact absurd c21 h
      have hl1 : bs1.length = 256 := by rw [hx]; exact hH.long hQ 1 (by unfold mayPage; omega)
      obtain ⟨aw, cw, rfl⟩ := (ho1.row (hs := [])).len
      obtain ⟨bw, ow, rfl⟩ := own_addr ho1 (by omega)
      refine TT.skip (.seq (.seq (.region (.pures hT 2 rfl (.pures hT 1 rfl (.reg 25 rfl (v := .int .u8 ((UInt8.ofNat no.toNat).toNat : Int)) (int_eq (byte_no hnb)) (.index_raw hT rfl rfl rfl rfl (by omega) (by omega) rfl (.store_el 4 0 hT rfl rfl rfl rfl pl ho1 (nth4 hl1) rfl rfl (by decide) rfl (show splice (Go.Sx.encB _) 0 [.int .u8 ((UInt8.ofNat no.toNat).toNat : Int)] = Go.Sx.encB (UInt8.ofNat no.toNat) from rfl) (fun H_y ho_y => ?_)))))))))
      refine OT.nil (.seq (.seq (.region (.pures hT 2 rfl (.call Tryz.call109 rfl rfl rfl rfl (Fun.weaken sl (sh_Set hP hQ hI1 (no := 1) (r := H_y :: r) ho_y.row (by unfold mayPage; omega) (by rw [List.length_set]; exact hl1))) ?_)))))
      rintro v_29 hs_29 ⟨H2, rfl, rfl, hI2⟩
      refine OT.pures hT 1 rfl (.nil (.seq (.ret (.of (rs := [.tmp 4]) [_] (H2 :: r) rfl (.tmp rfl .nil) sl ?_))))
      try dsimp only [one]
      rw [hx] at hI2
      exact ⟨H2, 0, rfl, rfl, .inl ⟨rfl, hI2⟩⟩

set_option maxHeartbeats 1000000 in
set_option maxRecDepth 100000 in
theorem al_Take {b : Nat} {P : Value} {I : Chunk → Prop} {E : Int → Chunk → Prop} {Qb : Pages} (hP : PgsA Tryz.prog 5 P I E (pgOf Qb)) (hQ : Long Qb) {Qt : Pages} {H : Chunk} {r : List Chunk} (hH : ShAt 110 b P I Qb Qt H) : Fun Tryz.prog 142 [.pointer (some ⟨b, 0, none⟩)] (H :: r) (fun v' hs' => ∃ H' no e, hs' = H' :: r ∧ v' = .tuple ⟨[.int .i64 no, .int .i64 e]⟩ ∧ ((∃ n : Nat, takeB (Qt 1) = some n ∧ e = 0 ∧ no = (n : Nat) ∧ ShAt 110 b P I Qb (upd (upd Qt 1 (setB (Qt 1) n)) (n : Nat) (noughts 256)) H') ∨ (takeB (Qt 1) = none ∧ e = 4 ∧ ShAt 110 b P I Qb Qt H') ∨ (e ≠ 0 ∧ ∃ e, ShBad 110 b P E e H'))) := by
  refine Fun.enter 45 Tryz.func142 rfl Tryz.ntmps142 rfl ?_
  refine TT.seq (.region (.pures hT 2 rfl (.nil (.seq (.seq (.region (.pures hT 1 rfl (.mkiface Tryz.underlying24 rfl rfl rfl rfl (.call Tryz.call157 rfl rfl rfl rfl (sh_read hP hQ hH) ?_)))))))))
  rintro v_11 hs_11 ⟨H1, K1, w1, e1, bs1, rfl, rfl, ho1, hq1⟩
  refine OT.pures hT 5 rfl (.nil (.seq (.seq (.seq (.region (.pures hT 2 rfl (.nil (.seq (.cond rfl (fun c15 => ?_) (fun c15 => ?_))))))))))
  ·
    have c15 := bne_iff_ne.1 c15
    rcases hq1 with ⟨h, _⟩ | ⟨h, rfl, hq⟩
    · exact absurd h c15
    refine TT.seq (.region (.pures hT 3 rfl (.nil (.seq (.ret (.of (rs := [.tmp 2, .tmp 3]) [_, _] (H1 :: r) rfl (.tmp rfl (.tmp rfl .nil)) sl ?_))))))
    try dsimp only [one]
    exact ⟨H1, 0, e1, rfl, rfl, .inr (.inr ⟨c15, hq⟩)⟩
  ·
    have c15 := bne_eq_false_iff_eq.1 c15
    rcases hq1 with ⟨rfl, hx, hI1⟩ | ⟨h, _⟩
    rotate_left
    · exact absurd c15 h
    have hl1 : bs1.length = 256 := by rw [hx]; exact hH.long hQ 1 (by unfold mayPage; omega)
    obtain ⟨aw, cw, rfl⟩ := (ho1.row (hs := [])).len
    obtain ⟨bw, ow, rfl⟩ := own_addr ho1 (by omega)
    refine TT.skip (.seq (.seq (.seq (.region (.pures hT 1 rfl (.nil (.seq (.block (.loop (ι := Nat) (fun j => 2 ≤ (j) ∧ (j) ≤ 32 ∧ takeTo bs1 (j)) (fun j => 32 - (j)) (fun j => [(0, .pointer (some ⟨b, 0, none⟩)), (4, .slice (some ⟨bw, ow, none⟩) bs1.length cw), (6, .int .i64 ((j) : Nat))]) (fun j => H1 :: K1 :: r) (2) ?_ (SubR.cons rfl (SubR.cons rfl (SubR.cons rfl (SubR.nil _)))) sl ?_)))))))))
    · exact ⟨by omega, by omega, fun k h1 h2 => by omega⟩
    rintro n ⟨hn2, hn, htk⟩
    show TT _ _ _ [(0, .pointer (some ⟨b, 0, none⟩)), (4, .slice (some ⟨bw, ow, none⟩) bs1.length cw), (6, .int .i64 (n : Nat))] (H1 :: K1 :: r)
    refine TT.seq (.seq (.region (.pures hT 2 rfl (.nil (.seq (.cond rfl (fun c18 => ?_) (fun c18 => ?_)))))))
    ·
      have c18 := of_decide_eq_true c18
      have hn32 : n < 32 := by omega
      obtain ⟨cx, hcx⟩ := nth (l := bs1) (i := n / 8) (by omega)
      refine TT.skip (.seq (.seq (.block (.seq (.seq (.region (.pures hT 2 rfl (.call Tryz.call158 rfl rfl rfl rfl (alloc_has (ho1.row.there) hl1) ?_))))))))
      rintro v_23 hs_23 ⟨rfl, rfl⟩
      refine OT.nil (.seq (.cond rfl (fun c23 => ?_) (fun c23 => ?_)))
      ·
        refine TT.exit (.seq (.here (.seq (.region (.pures hT 3 rfl (.nil (.loop (n + 1) ?_ ?_ (SubR.cons rfl (SubR.cons rfl (SubR.cons' rfl (by (try dsimp only); exact (int_eq (by rw [wrap_i64 (by omega) (by omega)]; omega))) (SubR.nil _)))) sl)))))))
        · exact ⟨by omega, by omega, fun k h1 h2 => if h : k = n then (by rw [h]; exact c23) else htk k h1 (by omega)⟩
        · omega
      ·
        refine TT.skip (.seq (.seq (.draw (r) mixed (.takes (fuel := 6) hT [0, 1, 2, 5, 6] kr kr rfl (.take (fuel := 5) hT 3 rfl rfl kr kr kr rfl (Fl.index (i := ((n / 8 : Nat) : Int)) hT rfl rfl (congrArg some (int_eq (q8 hn32))) (by omega) (by omega)) rfl (.take (fuel := 4) hT 7 rfl rfl kr kr kr rfl (Fl.shl (b := ((n % 8 : Nat) : Int)) rfl (congrArg some (int_eq (r8 n))) (by omega)) rfl (.op (fuel := 3) 4 kr rfl sl (.load rfl rfl ((ho1.el_at hcx).there.ld_one hT rfl rfl) rfl (.nil (.any (.takes (fuel := 2) hT [8] kr kr rfl (.take (fuel := 1) hT 9 rfl rfl kr kr kr rfl (Fl.index (i := ((n / 8 : Nat) : Int)) hT rfl rfl (congrArg some (int_eq (q8 hn32))) (by omega) (by omega)) rfl (.op (fuel := 0) 10 kr rfl sl (.store_el (n / 8) 0 hT rfl rfl rfl rfl pl ho1 hcx rfl rfl (by decide) rfl (or_cell cx n) (fun H_y ho_y => ?_)))))))))))))))
        rw [set_is hcx] at ho_y
        refine OT.nil (.any (.done kr sl (.seq (.seq (.seq (.region (.pures hT 2 rfl (.call Tryz.call109 rfl rfl rfl rfl (Fun.weaken sl (sh_Set hP hQ hI1 (no := 1) (r := H_y :: r) ho_y.row (by unfold mayPage; omega) (by rw [setB_len]; exact hl1))) ?_))))))))
        rintro v_36 hs_36 ⟨H2, rfl, rfl, hI2⟩
        refine OT.pures hT 1 rfl (.nil (.seq (.seq (.region (.pures hT 2 rfl (.nil (.seq (.cond_false rfl (.skip (.seq (.seq (.region (.pures hT 3 rfl ?_)))))))))))))
        refine OT.make (enc := Go.Sx.encB) (z0 := (0 : UInt8)) (n := 256) el27 Tryz.zeroValue5 rfl rfl rfl rfl rfl (by omega) rfl (fun v_43 H_43 ho_43 => ?_)
        refine OT.call Tryz.call109 rfl rfl rfl rfl (Fun.weaken sl (sh_Set hP hQ hI2 (no := (n : Nat)) (r := H_43 :: r) ho_43.row (by unfold mayPage; omega) (by rw [List.length_replicate]))) ?_
        rintro v_44 hs_44 ⟨H3, rfl, rfl, hI3⟩
        refine OT.pures hT 2 rfl (.nil (.seq (.ret (.of (rs := [.tmp 2, .tmp 3]) [_, _] (H3 :: r) rfl (.tmp rfl (.tmp rfl .nil)) sl ?_))))
        try dsimp only [one]
        rw [hx] at hI3 htk c23
        exact ⟨H3, _, 0, rfl, rfl, .inl ⟨n, takeB_some hn2 hn32 htk c23, rfl, rfl, hI3⟩⟩
    ·
      have c18 := of_decide_eq_false c18
      obtain rfl : n = 32 := by omega
      refine TT.exit (.seq (.loop (.here (.seq (.seq (.region (.pures hT 2 rfl (.nil (.seq (.ret (.of (rs := [.tmp 2, .tmp 3]) [_, _] (H1 :: r) rfl (.tmp rfl (.tmp rfl .nil)) sl ?_)))))))))))
      try dsimp only [one]
      rw [hx] at htk
      exact ⟨H1, 0, 4, rfl, rfl, .inr (.inl ⟨takeB_none htk, rfl, hI1⟩)⟩

set_option maxHeartbeats 1000000 in
set_option maxRecDepth 100000 in
theorem al_Free {b : Nat} {P : Value} {I : Chunk → Prop} {E : Int → Chunk → Prop} {Qb : Pages} (hP : PgsA Tryz.prog 5 P I E (pgOf Qb)) (hQ : Long Qb) {Qt : Pages} {H : Chunk} {r : List Chunk} (hH : ShAt 110 b P I Qb Qt H) {n : Nat} (hn32 : n < 32) : Fun Tryz.prog 183 [.pointer (some ⟨b, 0, none⟩), .int .i64 (n : Nat)] (H :: r) (fun v' hs' => ∃ H' e, hs' = H' :: r ∧ v' = .int .i64 e ∧ ((hasB (Qt 1) (n : Nat) = true ∧ e = 0 ∧ ShAt 110 b P I Qb (upd Qt 1 (clrB (Qt 1) n)) H') ∨ (hasB (Qt 1) (n : Nat) = false ∧ e = 6 ∧ ShAt 110 b P I Qb Qt H') ∨ (e ≠ 0 ∧ ∃ e, ShBad 110 b P E e H'))) := by
  refine Fun.enter 35 Tryz.func183 rfl Tryz.ntmps183 rfl ?_
  refine TT.seq (.region (.pures hT 1 rfl (.nil (.seq (.seq (.region (.pures hT 1 rfl (.mkiface Tryz.underlying24 rfl rfl rfl rfl (.call Tryz.call157 rfl rfl rfl rfl (sh_read hP hQ hH) ?_)))))))))
  rintro v_10 hs_10 ⟨H1, K1, w1, e1, bs1, rfl, rfl, ho1, hq1⟩
  refine OT.pures hT 5 rfl (.nil (.seq (.seq (.block (.seq (.region (.pures hT 3 rfl (.nil (.seq (.cond rfl (fun c13 => ?_) (fun c13 => ?_)))))))))))
  ·
    have c13 := bne_iff_ne.1 c13
    rcases hq1 with ⟨h, _⟩ | ⟨h, rfl, hq⟩
    · exact absurd h c13
    refine TT.seq (.region (.pures hT 2 rfl (.nil (.seq (.ret (.of (rs := [.tmp 4]) [_] (H1 :: r) rfl (.tmp rfl .nil) sl ?_))))))
    try dsimp only [one]
    exact ⟨H1, e1, rfl, rfl, .inr (.inr ⟨c13, hq⟩)⟩
  ·
    have c13 := bne_eq_false_iff_eq.1 c13
    rcases hq1 with ⟨rfl, hx, hI1⟩ | ⟨h, _⟩
    rotate_left
    · exact absurd c13 h
    have hl1 : bs1.length = 256 := by rw [hx]; exact hH.long hQ 1 (by unfold mayPage; omega)
    obtain ⟨aw, cw, rfl⟩ := (ho1.row (hs := [])).len
    obtain ⟨bw, ow, rfl⟩ := own_addr ho1 (by omega)
    refine TT.seq (.region (.pures hT 2 rfl (.call Tryz.call158 rfl rfl rfl rfl (alloc_has (ho1.row.there) hl1) ?_)))
    rintro v_20 hs_20 ⟨rfl, rfl⟩
    refine OT.pures hT 2 rfl (.nil (.seq (.cond rfl (fun c17 => ?_) (fun c17 => ?_))))
    ·
      have c17 : hasB bs1 (n : Nat) = false := by simpa using c17
      refine TT.seq (.region (.pures hT 1 rfl (.nil (.seq (.ret (.of (rs := [.tmp 4]) [_] (H1 :: r) rfl (.tmp rfl .nil) sl ?_))))))
      try dsimp only [one]
      rw [hx] at c17
      exact ⟨H1, 6, rfl, rfl, .inr (.inl ⟨c17, rfl, hI1⟩)⟩
    ·
      have c17 : hasB bs1 (n : Nat) = true := by simpa using c17
      obtain ⟨cx, hcx⟩ := nth (l := bs1) (i := n / 8) (by omega)
      refine TT.skip (.blk (.seq (.seq (.draw (r) mixed (.takes (fuel := 6) hT [0, 1, 2, 5, 6] kr kr rfl (.take (fuel := 5) hT 3 rfl rfl kr kr kr rfl (Fl.index (i := ((n / 8 : Nat) : Int)) hT rfl rfl (congrArg some (int_eq (q8 hn32))) (by omega) (by omega)) rfl (.take (fuel := 4) hT 7 rfl rfl kr kr kr rfl (Fl.shl (b := ((n % 8 : Nat) : Int)) rfl (congrArg some (int_eq (r8 n))) (by omega)) rfl (.op (fuel := 3) 4 kr rfl sl (.load rfl rfl ((ho1.el_at hcx).there.ld_one hT rfl rfl) rfl (.nil (.any (.takes (fuel := 2) hT [8] kr kr rfl (.take (fuel := 1) hT 9 rfl rfl kr kr kr rfl (Fl.index (i := ((n / 8 : Nat) : Int)) hT rfl rfl (congrArg some (int_eq (q8 hn32))) (by omega) (by omega)) rfl (.op (fuel := 0) 10 kr rfl sl (.store_el (n / 8) 0 hT rfl rfl rfl rfl pl ho1 hcx rfl rfl (by decide) rfl (and_cell cx n) (fun H_y ho_y => ?_))))))))))))))))
      rw [clr_is hcx] at ho_y
      refine OT.nil (.any (.done kr sl (.seq (.seq (.region (.pures hT 2 rfl (.call Tryz.call109 rfl rfl rfl rfl (Fun.weaken sl (sh_Set hP hQ hI1 (no := 1) (r := H_y :: r) ho_y.row (by unfold mayPage; omega) (by rw [clrB_len]; exact hl1))) ?_)))))))
      rintro v_34 hs_34 ⟨H2, rfl, rfl, hI2⟩
      refine OT.pures hT 1 rfl (.nil (.seq (.ret (.of (rs := [.tmp 4]) [_] (H2 :: r) rfl (.tmp rfl .nil) sl ?_))))
      try dsimp only [one]
      rw [hx] at hI2 c17
      exact ⟨H2, 0, rfl, rfl, .inl ⟨c17, rfl, hI2⟩⟩

end Go.Proofs.YtihpkgmfkbkffaaGreat.Sx
end

section
namespace Go.Proofs.YtihpkgmfkbkffaaGreat.Sx
open Go Go.Sx Go.Pl
variable [Outer]

set_option maxHeartbeats 2000000 in
set_option maxRecDepth 100000 in
theorem sl_InsertC {a : Option Addr} {n c : Nat} {xs : List Cell} {y : Cell} {i b2 : Nat} {H : Chunk} {r : List Chunk} (ho : Own encCell 8 113 (.slice a n c) xs H) (hi : i ≤ xs.length) (hl : xs.length ≤ 1000000) : Fun Tryz.prog 145 [.slice a n c, .int .i64 (i : Nat), .slice (some ⟨b2, 0, none⟩) 1 1] (H :: [(b2, blk (encCell y) 113 (0, 0))] :: r) (fun v' hs' => ∃ H', hs' = H' :: r ∧ Own encCell 8 113 v' (insAt xs i y) H') := by
  refine Fun.enter 95 Tryz.func145 rfl Tryz.ntmps145 rfl ?_
  obtain ⟨a0, c0, hv⟩ := (ho.row (hs := r)).len
  injection hv with _ hn _
  subst hn
  have hrv : Row encCell 8 ([(b2, blk (encCell y) 113 (0, 0))] :: r) (.slice (some ⟨b2, 0, none⟩) 1 1) [y] := Row.of_blk (o := 0) Has.one (fun _ _ => rfl) rfl (Nat.le_refl _) rfl
  refine TT.seq (.region (.pures hT 1 rfl (.nil (.seq (.seq (.region (.pures hT 2 rfl (.slice i xs.length hT rfl rfl rfl rfl rfl ho.row (.inr ⟨_, rfl⟩) (.inl ⟨rfl, rfl⟩) (by omega) (by omega) rfl (fun v_12 hv_12 => ?_)))))))))
  refine OT.nil (.seq (.seq (.region (.pures hT 3 rfl (.nil (.seq (.seq (.seq (.region (.pures hT 2 rfl (.nil (.seq (.cond_false rfl (.skip (.seq (.seq (.region (.pures hT 3 rfl (.nil (.seq (.seq (.seq (.region (.pures hT 3 rfl (.nil (.seq (.cond rfl (fun c22 => ?_) (fun c22 => ?_))))))))))))))))))))))))))))
  ·
    have c22 : (i : Int) = xs.length := by simpa using c22
    obtain rfl : i = xs.length := by omega
    refine TT.seq (.region (.pures hT 2 rfl ?_))
    refine OT.append hT el122 rfl rfl rfl rfl pl ho hrv.there rfl (by simp only [List.length_singleton]; omega) rfl (fun v_25 H_25 ho_25 => ?_)
    refine OT.pures hT 1 rfl (.nil (.seq (.ret (.of (rs := [.tmp 6]) [_] (H_25 :: r) rfl (.tmp rfl .nil) sl ?_))))
    try dsimp only [one]
    exact ⟨H_25, rfl, by rw [← ins_end]; exact ho_25⟩
  ·
    have c22 : ¬ (i : Int) = xs.length := by simpa using c22
    have hin : i < xs.length := by omega
    obtain ⟨b, o, rfl⟩ := own_at ho (by omega)
    refine TT.skip (.seq (.seq (.seq (.region (.pures hT 4 rfl (.cap hT rfl rfl rfl rfl (.pures hT 1 rfl (.nil (.seq (.cond rfl (fun c31 => ?_) (fun c31 => ?_)))))))))))
    ·
      have c31 : (c : Int) < (xs.length : Int) + 1 := by
        have := of_decide_eq_true c31
        rw [wrap_i64 (by omega) (by omega)] at this; omega
      have hcn := (ho.row (hs := r)).cap_le
      refine TT.seq (.region (.pures hT 2 rfl (.slice_own 0 i hT rfl rfl rfl rfl rfl (.inl ⟨rfl, rfl⟩) (.inr ⟨_, rfl⟩) (by omega) (by omega) (by omega) rfl (.pures hT 5 rfl (.reg 39 rfl (v := .int .i64 ((xs.length + 1 - i : Nat) : Int)) (int_eq (by rw [wrap_i64 (n := (xs.length : Int) + ((1 : Nat) : Int)) (by omega) (by omega), wrap_i64 (by omega) (by omega)]; omega)) ?_)))))
      have hro := ho.sub_row (hs := [(b2, blk (encCell y) 113 (0, 0))] :: r) (L := 0) (M := i) (by omega) (by omega) (by omega)
      rw [List.drop_zero] at hro
      have htl : (xs.take i).length = i := by rw [List.length_take]; omega
      refine OT.append_zeros_new (z0 := noCell) (m := xs.length + 1 - i) Tryz.zeroValue113 rfl (by decide) hT el122 rfl rfl rfl rfl hro (by omega) (by rw [htl]; rfl) (by rw [htl]; omega) rfl (fun v_40 H_40 ho_40 => ?_)
      obtain ⟨b9, o9, c9, rfl⟩ := own_slice ho_40 (by rw [List.length_append, List.length_replicate]; omega)
      have hl9 : (xs.take i ++ List.replicate (xs.length + 1 - i) noCell).length = xs.length + 1 := by rw [List.length_append, List.length_replicate]; omega
      rw [hl9] at ho_40
      have hc9 := (ho_40.row (hs := r)).cap_le
      rw [hl9] at hc9 ⊢
      refine OT.pures hT 1 rfl (.nil (.seq (.seq (.region (.pures hT 2 rfl (.slice_own i (xs.length + 1) hT rfl rfl rfl rfl rfl (.inr ⟨_, rfl⟩) (.inl ⟨rfl, rfl⟩) (by omega) (by omega) (by omega) rfl (.pures hT 1 rfl (.copy_own i hT rfl rfl rfl rfl pl ho_40 (ys := [y]) hrv.there.there (by rw [hl9]; simp only [List.length_singleton]; omega) (by omega) rfl rfl (fun H_45 ho_45 => ?_)))))))))
      rw [List.take_of_length_le (l := [y]) (by show 1 ≤ _; omega)] at ho_45
      refine OT.nil (.seq (.seq (.draw (r) mixed (.takes (fuel := 3) hT [0, 1, 2, 3, 5, 6] kr kr rfl (.take (fuel := 2) hT 4 rfl rfl kr kr kr rfl (Fl.slice (i + 1) (xs.length + 1) hT rfl rfl rfl rfl (.inr ⟨.i64, by rw [wrap_i64 (by omega) (by omega)]; exact congrArg some (int_eq (by omega))⟩) (.inl ⟨rfl, rfl⟩) (by omega) (by omega) (by omega)) rfl (.take (fuel := 1) hT 7 rfl rfl kr kr kr rfl (Fl.slice i xs.length hT rfl rfl rfl rfl (.inr ⟨_, rfl⟩) (.inl ⟨rfl, rfl⟩) (by omega) (by omega) (by omega)) rfl (.op (fuel := 0) 8 kr rfl sl ?_)))))))
      have hro2 := ho.sub_row (hs := [(b2, blk (encCell y) 113 (0, 0))] :: r) (L := i) (M := xs.length) (by omega) (Nat.le_refl _) (by omega)
      rw [List.take_length] at hro2
      have hld : (xs.drop i).length = xs.length - i := List.length_drop
      have hl45 : (over (xs.take i ++ List.replicate (xs.length + 1 - i) noCell) i [y]).length = xs.length + 1 := by rw [length_over (by rw [hl9]; simp only [List.length_singleton]; omega)]; exact hl9
      refine OT.copy_own (i + 1) hT rfl rfl rfl rfl pl ho_45 (ys := xs.drop i) hro2.there (by rw [hl45, hld]; omega) (by omega) (ones_cells _) rfl (fun H_54 ho_54 => ?_)
      rw [List.take_of_length_le (l := xs.drop i) (by omega), ins_new hin rfl] at ho_54
      refine OT.nil (.any (.done kr sl (.seq (.seq (.region (.pures hT 2 rfl (.nil (.seq (.ret (.of (rs := [.tmp 6]) [_] (H_54 :: r) rfl (.tmp rfl .nil) sl ?_))))))))))
      try dsimp only [one]
      exact ⟨H_54, rfl, ho_54⟩
    ·
      have c31 : ¬ (c : Int) < (xs.length : Int) + 1 := by
        have := of_decide_eq_false c31
        rw [wrap_i64 (by omega) (by omega)] at this; omega
      refine TT.skip (.seq (.seq (.region (.pures hT 4 rfl (.slice_own 0 (xs.length + 1) hT rfl rfl rfl rfl rfl (.inl ⟨rfl, rfl⟩) (.inr ⟨.i64, by rw [wrap_i64 (by omega) (by omega)]; exact congrArg some (int_eq (by omega))⟩) (by omega) (by omega) (by omega) rfl (.pures hT 1 rfl (.nil (.seq (.seq (.seq (.region (.pures hT 5 rfl (.reg 0 rfl (v := .slice (some ⟨b, o, none⟩) (xs.length + 1) c) (by rw [Nat.zero_mul, Nat.add_zero]; rfl) (.reg 62 rfl (v := .slice (some ⟨b, o, none⟩) (xs.length + 1) c) (by rw [Nat.zero_mul, Nat.add_zero]; rfl) (.slice_own (i + 1) (xs.length + 1) hT rfl rfl rfl rfl rfl (.inr ⟨.i64, by rw [wrap_i64 (by omega) (by omega)]; exact congrArg some (int_eq (by omega))⟩) (.inl ⟨rfl, rfl⟩) (by omega) (by omega) (by omega) rfl (.overlaps Tryz.func174 kr kr kr (tS := 122) (tR := 4) kr hT rfl rfl rfl rfl rfl pl ho (by omega) (by decide) Has.one ?_))))))))))))))))
      refine OT.pures hT 1 rfl (.nil (.seq (.cond_true rfl (.seq (.draw (r) mixed (.takes (fuel := 3) hT [0, 1, 2, 3, 5, 6] kr kr rfl (.take (fuel := 2) hT 4 rfl rfl kr kr kr rfl (Fl.slice (i + 1) (xs.length + 1) hT rfl rfl rfl rfl (.inr ⟨.i64, by rw [wrap_i64 (by omega) (by omega)]; exact congrArg some (int_eq (by omega))⟩) (.inl ⟨rfl, rfl⟩) (by omega) (by omega) (by omega)) rfl (.take (fuel := 1) hT 7 rfl rfl kr kr kr rfl (Fl.slice i (xs.length + 1) hT rfl rfl rfl rfl (.inr ⟨_, rfl⟩) (.inl ⟨rfl, rfl⟩) (by omega) (by omega) (by omega)) rfl (.op (fuel := 0) 8 kr rfl sl (.copy_up (i := i) hT rfl rfl rfl rfl pl ho hin (by omega) (by omega) (by omega) (ones_cells _) rfl (fun H_77 ho_77 => ?_)))))))))))
      refine OT.nil (.any (.done kr sl (.seq (.seq (.region (.pures hT 2 rfl (.slice_own i (xs.length + 1) hT rfl rfl rfl rfl rfl (.inr ⟨_, rfl⟩) (.inl ⟨rfl, rfl⟩) (by omega) (by omega) (by omega) rfl (.pures hT 1 rfl (.copy_own i hT rfl rfl rfl rfl pl ho_77 (ys := [y]) hrv.there (by rw [List.length_append, List.length_take, List.length_drop]; simp only [List.length_singleton]; omega) (by rw [List.length_append, List.length_drop]; omega) rfl rfl (fun H_82 ho_82 => ?_))))))))))
      rw [List.take_of_length_le (l := [y]) (by show 1 ≤ _; omega), ins_in hin] at ho_82
      refine OT.nil (.seq (.seq (.region (.pures hT 2 rfl (.nil (.seq (.ret (.of (rs := [.tmp 6]) [_] (H_82 :: r) rfl (.tmp rfl .nil) sl ?_))))))))
      try dsimp only [one]
      exact ⟨H_82, rfl, ho_82⟩

set_option maxHeartbeats 1000000 in
set_option maxRecDepth 100000 in
theorem sl_DeleteC {v : Value} {xs : List Cell} {i j : Nat} {H : Chunk} {r : List Chunk} (ho : Own encCell 8 113 v xs H) (hij : i ≤ j) (hj : j ≤ xs.length) (hl : xs.length ≤ 1073741824) : Fun Tryz.prog 149 [v, .int .i64 (i : Nat), .int .i64 (j : Nat)] (H :: r) (fun v' hs' => ∃ H', hs' = H' :: r ∧ Own encCell 8 113 v' (xs.take i ++ xs.drop j) H') := by
  refine Fun.enter 33 Tryz.func149 rfl Tryz.ntmps149 rfl ?_
  obtain ⟨a0, c0, hv⟩ := (ho.row (hs := r)).len
  subst hv
  have hc := ho.cap.2
  have hlt : (xs.take i).length = i := by rw [List.length_take]; omega
  have hld : (xs.drop j).length = xs.length - j := List.length_drop
  refine TT.seq (.region (.pures hT 1 rfl (.nil (.seq (.seq (.region (.pures hT 5 rfl (.slice3 i j xs.length hT rfl rfl rfl ho.row rfl rfl rfl (by omega) (by omega) (by omega) rfl (fun v_13 => ?_)))))))))
  refine OT.nil (.seq (.seq (.seq (.region (.pures hT 3 rfl (.nil (.seq (.cond rfl (fun c16 => ?_) (fun c16 => ?_)))))))))
  ·
    have c16 : (i : Int) = j := by simpa using c16
    obtain rfl : i = j := by omega
    refine TT.seq (.region (.pures hT 2 rfl (.nil (.seq (.ret (.of (rs := [.tmp 6]) [_] (H :: r) rfl (.tmp rfl .nil) sl ?_))))))
    try dsimp only [one]
    exact ⟨H, rfl, by rw [List.take_append_drop]; exact ho⟩
  ·
    refine TT.skip (.seq (.seq (.region (.pures hT 3 rfl (.nil (.seq (.seq (.draw (r) mixed (.takes (fuel := 4) hT [0, 1, 3, 4] kr kr rfl (.all (fuel := 3) [2, 5] kr (by decide) sl ?_))))))))))
    intro i hi
    simp only [List.mem_cons, List.not_mem_nil, or_false] at hi
    rcases hi with rfl | rfl
    ·
      refine ⟨_, rfl, ?_⟩
      refine OT.slice_to i hT rfl rfl rfl rfl ho (by omega) rfl (fun ho_22 => ?_)
      refine OT.nil (.any (.op (fuel := 2) 5 kr rfl sl (.slice j xs.length hT rfl rfl rfl rfl rfl ho.row (.inr ⟨_, rfl⟩) (.inl ⟨rfl, rfl⟩) (by omega) (by omega) rfl (fun v_25 hv_25 => ?_))))
      refine OT.nil (.any (.op (fuel := 1) 6 kr rfl sl (.append_room hT el122 rfl rfl rfl rfl pl hlt.symm ho_22 hv_25 (ones_cells _) (by rw [hlt, List.take_length, hld]; omega) (by rw [List.take_length, hld]; omega) rfl (fun H_26 ho_26 => ?_))))
      refine OT.nil (.any (.takes (fuel := 0) hT [7] kr kr rfl (.done kr sl (.seq (.seq (.region (.pures hT 4 rfl (.slice_val (i + ((xs.take xs.length).drop j).length) xs.length hT rfl rfl rfl rfl rfl (.inr ⟨_, rfl⟩) (.inr ⟨_, rfl⟩) (by rw [List.take_length, hld]; omega) hc rfl (.clear_spare el122 Tryz.zeroValue113 rfl rfl (by rw [List.length_append, hlt]) rfl rfl pl ho_26 (by rw [List.take_length, hld]; omega) hc (fun H_c ho_c => ?_))))))))))
      refine OT.nil (.seq (.seq (.region (.pures hT 2 rfl (.nil (.seq (.ret (.of (rs := [.tmp 6]) [_] (H_c :: r) rfl (.tmp rfl .nil) sl ?_))))))))
      try dsimp only [one]
      exact ⟨_, rfl, by rw [List.take_length] at ho_c ⊢; exact ho_c⟩
    ·
      refine ⟨_, rfl, ?_⟩
      refine OT.slice j xs.length hT rfl rfl rfl rfl rfl ho.row (.inr ⟨_, rfl⟩) (.inl ⟨rfl, rfl⟩) (by omega) (by omega) rfl (fun v_25 hv_25 => ?_)
      refine OT.nil (.any (.op (fuel := 2) 2 kr rfl sl (.slice_to i hT rfl rfl rfl rfl ho (by omega) rfl (fun ho_22 => ?_))))
      refine OT.nil (.any (.op (fuel := 1) 6 kr rfl sl (.append_room hT el122 rfl rfl rfl rfl pl hlt.symm ho_22 hv_25 (ones_cells _) (by rw [hlt, List.take_length, hld]; omega) (by rw [List.take_length, hld]; omega) rfl (fun H_26 ho_26 => ?_))))
      refine OT.nil (.any (.takes (fuel := 0) hT [7] kr kr rfl (.done kr sl (.seq (.seq (.region (.pures hT 4 rfl (.slice_val (i + ((xs.take xs.length).drop j).length) xs.length hT rfl rfl rfl rfl rfl (.inr ⟨_, rfl⟩) (.inr ⟨_, rfl⟩) (by rw [List.take_length, hld]; omega) hc rfl (.clear_spare el122 Tryz.zeroValue113 rfl rfl (by rw [List.length_append, hlt]) rfl rfl pl ho_26 (by rw [List.take_length, hld]; omega) hc (fun H_c ho_c => ?_))))))))))
      refine OT.nil (.seq (.seq (.region (.pures hT 2 rfl (.nil (.seq (.ret (.of (rs := [.tmp 6]) [_] (H_c :: r) rfl (.tmp rfl .nil) sl ?_))))))))
      try dsimp only [one]
      exact ⟨_, rfl, by rw [List.take_length] at ho_c ⊢; exact ho_c⟩

set_option maxHeartbeats 2000000 in
set_option maxRecDepth 100000 in
theorem sl_InsertS {a : Option Addr} {n c : Nat} {xs : List ByteArray} {y : ByteArray} {i b2 : Nat} {H : Chunk} {r : List Chunk} (ho : Own Go.Sx.encS 1 9 (.slice a n c) xs H) (hi : i ≤ xs.length) (hl : xs.length ≤ 1000000) : Fun Tryz.prog 147 [.slice a n c, .int .i64 (i : Nat), .slice (some ⟨b2, 0, none⟩) 1 1] (H :: [(b2, blk (Go.Sx.encS y) 9 (0, 0))] :: r) (fun v' hs' => ∃ H', hs' = H' :: r ∧ Own Go.Sx.encS 1 9 v' (insAt xs i y) H') := by
  refine Fun.enter 95 Tryz.func147 rfl Tryz.ntmps147 rfl ?_
  obtain ⟨a0, c0, hv⟩ := (ho.row (hs := r)).len
  injection hv with _ hn _
  subst hn
  have hrv : Row Go.Sx.encS 1 ([(b2, blk (Go.Sx.encS y) 9 (0, 0))] :: r) (.slice (some ⟨b2, 0, none⟩) 1 1) [y] := Row.of_blk (o := 0) Has.one (fun _ _ => rfl) rfl (Nat.le_refl _) rfl
  refine TT.seq (.region (.pures hT 1 rfl (.nil (.seq (.seq (.region (.pures hT 2 rfl (.slice i xs.length hT rfl rfl rfl rfl rfl ho.row (.inr ⟨_, rfl⟩) (.inl ⟨rfl, rfl⟩) (by omega) (by omega) rfl (fun v_12 hv_12 => ?_)))))))))
  refine OT.nil (.seq (.seq (.region (.pures hT 3 rfl (.nil (.seq (.seq (.seq (.region (.pures hT 2 rfl (.nil (.seq (.cond_false rfl (.skip (.seq (.seq (.region (.pures hT 3 rfl (.nil (.seq (.seq (.seq (.region (.pures hT 3 rfl (.nil (.seq (.cond rfl (fun c22 => ?_) (fun c22 => ?_))))))))))))))))))))))))))))
  ·
    have c22 : (i : Int) = xs.length := by simpa using c22
    obtain rfl : i = xs.length := by omega
    refine TT.seq (.region (.pures hT 2 rfl ?_))
    refine OT.append hT el91 rfl rfl rfl rfl pl ho hrv.there rfl (by simp only [List.length_singleton]; omega) rfl (fun v_25 H_25 ho_25 => ?_)
    refine OT.pures hT 1 rfl (.nil (.seq (.ret (.of (rs := [.tmp 6]) [_] (H_25 :: r) rfl (.tmp rfl .nil) sl ?_))))
    try dsimp only [one]
    exact ⟨H_25, rfl, by rw [← ins_end]; exact ho_25⟩
  ·
    have c22 : ¬ (i : Int) = xs.length := by simpa using c22
    have hin : i < xs.length := by omega
    obtain ⟨b, o, rfl⟩ := own_at ho (by omega)
    refine TT.skip (.seq (.seq (.seq (.region (.pures hT 4 rfl (.cap hT rfl rfl rfl rfl (.pures hT 1 rfl (.nil (.seq (.cond rfl (fun c31 => ?_) (fun c31 => ?_)))))))))))
    ·
      have c31 : (c : Int) < (xs.length : Int) + 1 := by
        have := of_decide_eq_true c31
        rw [wrap_i64 (by omega) (by omega)] at this; omega
      have hcn := (ho.row (hs := r)).cap_le
      refine TT.seq (.region (.pures hT 2 rfl (.slice_own 0 i hT rfl rfl rfl rfl rfl (.inl ⟨rfl, rfl⟩) (.inr ⟨_, rfl⟩) (by omega) (by omega) (by omega) rfl (.pures hT 5 rfl (.reg 39 rfl (v := .int .i64 ((xs.length + 1 - i : Nat) : Int)) (int_eq (by rw [wrap_i64 (n := (xs.length : Int) + ((1 : Nat) : Int)) (by omega) (by omega), wrap_i64 (by omega) (by omega)]; omega)) ?_)))))
      have hro := ho.sub_row (hs := [(b2, blk (Go.Sx.encS y) 9 (0, 0))] :: r) (L := 0) (M := i) (by omega) (by omega) (by omega)
      rw [List.drop_zero] at hro
      have htl : (xs.take i).length = i := by rw [List.length_take]; omega
      refine OT.append_zeros_new (z0 := (⟨#[]⟩ : ByteArray)) (m := xs.length + 1 - i) Tryz.zeroValue9 rfl (by decide) hT el91 rfl rfl rfl rfl hro (by omega) (by rw [htl]; rfl) (by rw [htl]; omega) rfl (fun v_40 H_40 ho_40 => ?_)
      obtain ⟨b9, o9, c9, rfl⟩ := own_slice ho_40 (by rw [List.length_append, List.length_replicate]; omega)
      have hl9 : (xs.take i ++ List.replicate (xs.length + 1 - i) (⟨#[]⟩ : ByteArray)).length = xs.length + 1 := by rw [List.length_append, List.length_replicate]; omega
      rw [hl9] at ho_40
      have hc9 := (ho_40.row (hs := r)).cap_le
      rw [hl9] at hc9 ⊢
      refine OT.pures hT 1 rfl (.nil (.seq (.seq (.region (.pures hT 2 rfl (.slice_own i (xs.length + 1) hT rfl rfl rfl rfl rfl (.inr ⟨_, rfl⟩) (.inl ⟨rfl, rfl⟩) (by omega) (by omega) (by omega) rfl (.pures hT 1 rfl (.copy_own i hT rfl rfl rfl rfl pl ho_40 (ys := [y]) hrv.there.there (by rw [hl9]; simp only [List.length_singleton]; omega) (by omega) rfl rfl (fun H_45 ho_45 => ?_)))))))))
      rw [List.take_of_length_le (l := [y]) (by show 1 ≤ _; omega)] at ho_45
      refine OT.nil (.seq (.seq (.draw (r) mixed (.takes (fuel := 3) hT [0, 1, 2, 3, 5, 6] kr kr rfl (.take (fuel := 2) hT 4 rfl rfl kr kr kr rfl (Fl.slice (i + 1) (xs.length + 1) hT rfl rfl rfl rfl (.inr ⟨.i64, by rw [wrap_i64 (by omega) (by omega)]; exact congrArg some (int_eq (by omega))⟩) (.inl ⟨rfl, rfl⟩) (by omega) (by omega) (by omega)) rfl (.take (fuel := 1) hT 7 rfl rfl kr kr kr rfl (Fl.slice i xs.length hT rfl rfl rfl rfl (.inr ⟨_, rfl⟩) (.inl ⟨rfl, rfl⟩) (by omega) (by omega) (by omega)) rfl (.op (fuel := 0) 8 kr rfl sl ?_)))))))
      have hro2 := ho.sub_row (hs := [(b2, blk (Go.Sx.encS y) 9 (0, 0))] :: r) (L := i) (M := xs.length) (by omega) (Nat.le_refl _) (by omega)
      rw [List.take_length] at hro2
      have hld : (xs.drop i).length = xs.length - i := List.length_drop
      have hl45 : (over (xs.take i ++ List.replicate (xs.length + 1 - i) (⟨#[]⟩ : ByteArray)) i [y]).length = xs.length + 1 := by rw [length_over (by rw [hl9]; simp only [List.length_singleton]; omega)]; exact hl9
      refine OT.copy_own (i + 1) hT rfl rfl rfl rfl pl ho_45 (ys := xs.drop i) hro2.there (by rw [hl45, hld]; omega) (by omega) (ones_strs _) rfl (fun H_54 ho_54 => ?_)
      rw [List.take_of_length_le (l := xs.drop i) (by omega), ins_new hin rfl] at ho_54
      refine OT.nil (.any (.done kr sl (.seq (.seq (.region (.pures hT 2 rfl (.nil (.seq (.ret (.of (rs := [.tmp 6]) [_] (H_54 :: r) rfl (.tmp rfl .nil) sl ?_))))))))))
      try dsimp only [one]
      exact ⟨H_54, rfl, ho_54⟩
    ·
      have c31 : ¬ (c : Int) < (xs.length : Int) + 1 := by
        have := of_decide_eq_false c31
        rw [wrap_i64 (by omega) (by omega)] at this; omega
      refine TT.skip (.seq (.seq (.region (.pures hT 4 rfl (.slice_own 0 (xs.length + 1) hT rfl rfl rfl rfl rfl (.inl ⟨rfl, rfl⟩) (.inr ⟨.i64, by rw [wrap_i64 (by omega) (by omega)]; exact congrArg some (int_eq (by omega))⟩) (by omega) (by omega) (by omega) rfl (.pures hT 1 rfl (.nil (.seq (.seq (.seq (.region (.pures hT 5 rfl (.reg 0 rfl (v := .slice (some ⟨b, o, none⟩) (xs.length + 1) c) (by rw [Nat.zero_mul, Nat.add_zero]; rfl) (.reg 62 rfl (v := .slice (some ⟨b, o, none⟩) (xs.length + 1) c) (by rw [Nat.zero_mul, Nat.add_zero]; rfl) (.slice_own (i + 1) (xs.length + 1) hT rfl rfl rfl rfl rfl (.inr ⟨.i64, by rw [wrap_i64 (by omega) (by omega)]; exact congrArg some (int_eq (by omega))⟩) (.inl ⟨rfl, rfl⟩) (by omega) (by omega) (by omega) rfl (.overlaps Tryz.func179 kr kr kr (tS := 91) (tR := 4) kr hT rfl rfl rfl rfl rfl pl ho (by omega) (by decide) Has.one ?_))))))))))))))))
      refine OT.pures hT 1 rfl (.nil (.seq (.cond_true rfl (.seq (.draw (r) mixed (.takes (fuel := 3) hT [0, 1, 2, 3, 5, 6] kr kr rfl (.take (fuel := 2) hT 4 rfl rfl kr kr kr rfl (Fl.slice (i + 1) (xs.length + 1) hT rfl rfl rfl rfl (.inr ⟨.i64, by rw [wrap_i64 (by omega) (by omega)]; exact congrArg some (int_eq (by omega))⟩) (.inl ⟨rfl, rfl⟩) (by omega) (by omega) (by omega)) rfl (.take (fuel := 1) hT 7 rfl rfl kr kr kr rfl (Fl.slice i (xs.length + 1) hT rfl rfl rfl rfl (.inr ⟨_, rfl⟩) (.inl ⟨rfl, rfl⟩) (by omega) (by omega) (by omega)) rfl (.op (fuel := 0) 8 kr rfl sl (.copy_up (i := i) hT rfl rfl rfl rfl pl ho hin (by omega) (by omega) (by omega) (ones_strs _) rfl (fun H_77 ho_77 => ?_)))))))))))
      refine OT.nil (.any (.done kr sl (.seq (.seq (.region (.pures hT 2 rfl (.slice_own i (xs.length + 1) hT rfl rfl rfl rfl rfl (.inr ⟨_, rfl⟩) (.inl ⟨rfl, rfl⟩) (by omega) (by omega) (by omega) rfl (.pures hT 1 rfl (.copy_own i hT rfl rfl rfl rfl pl ho_77 (ys := [y]) hrv.there (by rw [List.length_append, List.length_take, List.length_drop]; simp only [List.length_singleton]; omega) (by rw [List.length_append, List.length_drop]; omega) rfl rfl (fun H_82 ho_82 => ?_))))))))))
      rw [List.take_of_length_le (l := [y]) (by show 1 ≤ _; omega), ins_in hin] at ho_82
      refine OT.nil (.seq (.seq (.region (.pures hT 2 rfl (.nil (.seq (.ret (.of (rs := [.tmp 6]) [_] (H_82 :: r) rfl (.tmp rfl .nil) sl ?_))))))))
      try dsimp only [one]
      exact ⟨H_82, rfl, ho_82⟩

set_option maxHeartbeats 1000000 in
set_option maxRecDepth 100000 in
theorem sl_DeleteS {v : Value} {xs : List ByteArray} {i j : Nat} {H : Chunk} {r : List Chunk} (ho : Own Go.Sx.encS 1 9 v xs H) (hij : i ≤ j) (hj : j ≤ xs.length) (hl : xs.length ≤ 1073741824) : Fun Tryz.prog 152 [v, .int .i64 (i : Nat), .int .i64 (j : Nat)] (H :: r) (fun v' hs' => ∃ H', hs' = H' :: r ∧ Own Go.Sx.encS 1 9 v' (xs.take i ++ xs.drop j) H') := by
  refine Fun.enter 33 Tryz.func152 rfl Tryz.ntmps152 rfl ?_
  obtain ⟨a0, c0, hv⟩ := (ho.row (hs := r)).len
  subst hv
  have hc := ho.cap.2
  have hlt : (xs.take i).length = i := by rw [List.length_take]; omega
  have hld : (xs.drop j).length = xs.length - j := List.length_drop
  refine TT.seq (.region (.pures hT 1 rfl (.nil (.seq (.seq (.region (.pures hT 5 rfl (.slice3 i j xs.length hT rfl rfl rfl ho.row rfl rfl rfl (by omega) (by omega) (by omega) rfl (fun v_13 => ?_)))))))))
  refine OT.nil (.seq (.seq (.seq (.region (.pures hT 3 rfl (.nil (.seq (.cond rfl (fun c16 => ?_) (fun c16 => ?_)))))))))
  ·
    have c16 : (i : Int) = j := by simpa using c16
    obtain rfl : i = j := by omega
    refine TT.seq (.region (.pures hT 2 rfl (.nil (.seq (.ret (.of (rs := [.tmp 6]) [_] (H :: r) rfl (.tmp rfl .nil) sl ?_))))))
    try dsimp only [one]
    exact ⟨H, rfl, by rw [List.take_append_drop]; exact ho⟩
  ·
    refine TT.skip (.seq (.seq (.region (.pures hT 3 rfl (.nil (.seq (.seq (.draw (r) mixed (.takes (fuel := 4) hT [0, 1, 3, 4] kr kr rfl (.all (fuel := 3) [2, 5] kr (by decide) sl ?_))))))))))
    intro i hi
    simp only [List.mem_cons, List.not_mem_nil, or_false] at hi
    rcases hi with rfl | rfl
    ·
      refine ⟨_, rfl, ?_⟩
      refine OT.slice_to i hT rfl rfl rfl rfl ho (by omega) rfl (fun ho_22 => ?_)
      refine OT.nil (.any (.op (fuel := 2) 5 kr rfl sl (.slice j xs.length hT rfl rfl rfl rfl rfl ho.row (.inr ⟨_, rfl⟩) (.inl ⟨rfl, rfl⟩) (by omega) (by omega) rfl (fun v_25 hv_25 => ?_))))
      refine OT.nil (.any (.op (fuel := 1) 6 kr rfl sl (.append_room hT el91 rfl rfl rfl rfl pl hlt.symm ho_22 hv_25 (ones_strs _) (by rw [hlt, List.take_length, hld]; omega) (by rw [List.take_length, hld]; omega) rfl (fun H_26 ho_26 => ?_))))
      refine OT.nil (.any (.takes (fuel := 0) hT [7] kr kr rfl (.done kr sl (.seq (.seq (.region (.pures hT 4 rfl (.slice_val (i + ((xs.take xs.length).drop j).length) xs.length hT rfl rfl rfl rfl rfl (.inr ⟨_, rfl⟩) (.inr ⟨_, rfl⟩) (by rw [List.take_length, hld]; omega) hc rfl (.clear_spare el91 Tryz.zeroValue9 rfl rfl (by rw [List.length_append, hlt]) rfl rfl pl ho_26 (by rw [List.take_length, hld]; omega) hc (fun H_c ho_c => ?_))))))))))
      refine OT.nil (.seq (.seq (.region (.pures hT 2 rfl (.nil (.seq (.ret (.of (rs := [.tmp 6]) [_] (H_c :: r) rfl (.tmp rfl .nil) sl ?_))))))))
      try dsimp only [one]
      exact ⟨_, rfl, by rw [List.take_length] at ho_c ⊢; exact ho_c⟩
    ·
      refine ⟨_, rfl, ?_⟩
      refine OT.slice j xs.length hT rfl rfl rfl rfl rfl ho.row (.inr ⟨_, rfl⟩) (.inl ⟨rfl, rfl⟩) (by omega) (by omega) rfl (fun v_25 hv_25 => ?_)
      refine OT.nil (.any (.op (fuel := 2) 2 kr rfl sl (.slice_to i hT rfl rfl rfl rfl ho (by omega) rfl (fun ho_22 => ?_))))
      refine OT.nil (.any (.op (fuel := 1) 6 kr rfl sl (.append_room hT el91 rfl rfl rfl rfl pl hlt.symm ho_22 hv_25 (ones_strs _) (by rw [hlt, List.take_length, hld]; omega) (by rw [List.take_length, hld]; omega) rfl (fun H_26 ho_26 => ?_))))
      refine OT.nil (.any (.takes (fuel := 0) hT [7] kr kr rfl (.done kr sl (.seq (.seq (.region (.pures hT 4 rfl (.slice_val (i + ((xs.take xs.length).drop j).length) xs.length hT rfl rfl rfl rfl rfl (.inr ⟨_, rfl⟩) (.inr ⟨_, rfl⟩) (by rw [List.take_length, hld]; omega) hc rfl (.clear_spare el91 Tryz.zeroValue9 rfl rfl (by rw [List.length_append, hlt]) rfl rfl pl ho_26 (by rw [List.take_length, hld]; omega) hc (fun H_c ho_c => ?_))))))))))
      refine OT.nil (.seq (.seq (.region (.pures hT 2 rfl (.nil (.seq (.ret (.of (rs := [.tmp 6]) [_] (H_c :: r) rfl (.tmp rfl .nil) sl ?_))))))))
      try dsimp only [one]
      exact ⟨_, rfl, by rw [List.take_length] at ho_c ⊢; exact ho_c⟩

set_option maxHeartbeats 2000000 in
set_option maxRecDepth 100000 in
theorem sl_InsertI {a : Option Addr} {n c : Nat} {xs : List Int} {y : Int} {i b2 : Nat} {H : Chunk} {r : List Chunk} (ho : Own Go.Sx.encI 1 3 (.slice a n c) xs H) (hi : i ≤ xs.length) (hl : xs.length ≤ 1000000) : Fun Tryz.prog 148 [.slice a n c, .int .i64 (i : Nat), .slice (some ⟨b2, 0, none⟩) 1 1] (H :: [(b2, blk (Go.Sx.encI y) 3 (0, 0))] :: r) (fun v' hs' => ∃ H', hs' = H' :: r ∧ Own Go.Sx.encI 1 3 v' (insAt xs i y) H') := by
  refine Fun.enter 95 Tryz.func148 rfl Tryz.ntmps148 rfl ?_
  obtain ⟨a0, c0, hv⟩ := (ho.row (hs := r)).len
  injection hv with _ hn _
  subst hn
  have hrv : Row Go.Sx.encI 1 ([(b2, blk (Go.Sx.encI y) 3 (0, 0))] :: r) (.slice (some ⟨b2, 0, none⟩) 1 1) [y] := Row.of_blk (o := 0) Has.one (fun _ _ => rfl) rfl (Nat.le_refl _) rfl
  refine TT.seq (.region (.pures hT 1 rfl (.nil (.seq (.seq (.region (.pures hT 2 rfl (.slice i xs.length hT rfl rfl rfl rfl rfl ho.row (.inr ⟨_, rfl⟩) (.inl ⟨rfl, rfl⟩) (by omega) (by omega) rfl (fun v_12 hv_12 => ?_)))))))))
  refine OT.nil (.seq (.seq (.region (.pures hT 3 rfl (.nil (.seq (.seq (.seq (.region (.pures hT 2 rfl (.nil (.seq (.cond_false rfl (.skip (.seq (.seq (.region (.pures hT 3 rfl (.nil (.seq (.seq (.seq (.region (.pures hT 3 rfl (.nil (.seq (.cond rfl (fun c22 => ?_) (fun c22 => ?_))))))))))))))))))))))))))))
  ·
    have c22 : (i : Int) = xs.length := by simpa using c22
    obtain rfl : i = xs.length := by omega
    refine TT.seq (.region (.pures hT 2 rfl ?_))
    refine OT.append hT el22 rfl rfl rfl rfl pl ho hrv.there rfl (by simp only [List.length_singleton]; omega) rfl (fun v_25 H_25 ho_25 => ?_)
    refine OT.pures hT 1 rfl (.nil (.seq (.ret (.of (rs := [.tmp 6]) [_] (H_25 :: r) rfl (.tmp rfl .nil) sl ?_))))
    try dsimp only [one]
    exact ⟨H_25, rfl, by rw [← ins_end]; exact ho_25⟩
  ·
    have c22 : ¬ (i : Int) = xs.length := by simpa using c22
    have hin : i < xs.length := by omega
    obtain ⟨b, o, rfl⟩ := own_at ho (by omega)
    refine TT.skip (.seq (.seq (.seq (.region (.pures hT 4 rfl (.cap hT rfl rfl rfl rfl (.pures hT 1 rfl (.nil (.seq (.cond rfl (fun c31 => ?_) (fun c31 => ?_)))))))))))
    ·
      have c31 : (c : Int) < (xs.length : Int) + 1 := by
        have := of_decide_eq_true c31
        rw [wrap_i64 (by omega) (by omega)] at this; omega
      have hcn := (ho.row (hs := r)).cap_le
      refine TT.seq (.region (.pures hT 2 rfl (.slice_own 0 i hT rfl rfl rfl rfl rfl (.inl ⟨rfl, rfl⟩) (.inr ⟨_, rfl⟩) (by omega) (by omega) (by omega) rfl (.pures hT 5 rfl (.reg 39 rfl (v := .int .i64 ((xs.length + 1 - i : Nat) : Int)) (int_eq (by rw [wrap_i64 (n := (xs.length : Int) + ((1 : Nat) : Int)) (by omega) (by omega), wrap_i64 (by omega) (by omega)]; omega)) ?_)))))
      have hro := ho.sub_row (hs := [(b2, blk (Go.Sx.encI y) 3 (0, 0))] :: r) (L := 0) (M := i) (by omega) (by omega) (by omega)
      rw [List.drop_zero] at hro
      have htl : (xs.take i).length = i := by rw [List.length_take]; omega
      refine OT.append_zeros_new (z0 := (0 : Int)) (m := xs.length + 1 - i) Tryz.zeroValue3 rfl (by decide) hT el22 rfl rfl rfl rfl hro (by omega) (by rw [htl]; rfl) (by rw [htl]; omega) rfl (fun v_40 H_40 ho_40 => ?_)
      obtain ⟨b9, o9, c9, rfl⟩ := own_slice ho_40 (by rw [List.length_append, List.length_replicate]; omega)
      have hl9 : (xs.take i ++ List.replicate (xs.length + 1 - i) (0 : Int)).length = xs.length + 1 := by rw [List.length_append, List.length_replicate]; omega
      rw [hl9] at ho_40
      have hc9 := (ho_40.row (hs := r)).cap_le
      rw [hl9] at hc9 ⊢
      refine OT.pures hT 1 rfl (.nil (.seq (.seq (.region (.pures hT 2 rfl (.slice_own i (xs.length + 1) hT rfl rfl rfl rfl rfl (.inr ⟨_, rfl⟩) (.inl ⟨rfl, rfl⟩) (by omega) (by omega) (by omega) rfl (.pures hT 1 rfl (.copy_own i hT rfl rfl rfl rfl pl ho_40 (ys := [y]) hrv.there.there (by rw [hl9]; simp only [List.length_singleton]; omega) (by omega) rfl rfl (fun H_45 ho_45 => ?_)))))))))
      rw [List.take_of_length_le (l := [y]) (by show 1 ≤ _; omega)] at ho_45
      refine OT.nil (.seq (.seq (.draw (r) mixed (.takes (fuel := 3) hT [0, 1, 2, 3, 5, 6] kr kr rfl (.take (fuel := 2) hT 4 rfl rfl kr kr kr rfl (Fl.slice (i + 1) (xs.length + 1) hT rfl rfl rfl rfl (.inr ⟨.i64, by rw [wrap_i64 (by omega) (by omega)]; exact congrArg some (int_eq (by omega))⟩) (.inl ⟨rfl, rfl⟩) (by omega) (by omega) (by omega)) rfl (.take (fuel := 1) hT 7 rfl rfl kr kr kr rfl (Fl.slice i xs.length hT rfl rfl rfl rfl (.inr ⟨_, rfl⟩) (.inl ⟨rfl, rfl⟩) (by omega) (by omega) (by omega)) rfl (.op (fuel := 0) 8 kr rfl sl ?_)))))))
      have hro2 := ho.sub_row (hs := [(b2, blk (Go.Sx.encI y) 3 (0, 0))] :: r) (L := i) (M := xs.length) (by omega) (Nat.le_refl _) (by omega)
      rw [List.take_length] at hro2
      have hld : (xs.drop i).length = xs.length - i := List.length_drop
      have hl45 : (over (xs.take i ++ List.replicate (xs.length + 1 - i) (0 : Int)) i [y]).length = xs.length + 1 := by rw [length_over (by rw [hl9]; simp only [List.length_singleton]; omega)]; exact hl9
      refine OT.copy_own (i + 1) hT rfl rfl rfl rfl pl ho_45 (ys := xs.drop i) hro2.there (by rw [hl45, hld]; omega) (by omega) (ones_ints _) rfl (fun H_54 ho_54 => ?_)
      rw [List.take_of_length_le (l := xs.drop i) (by omega), ins_new hin rfl] at ho_54
      refine OT.nil (.any (.done kr sl (.seq (.seq (.region (.pures hT 2 rfl (.nil (.seq (.ret (.of (rs := [.tmp 6]) [_] (H_54 :: r) rfl (.tmp rfl .nil) sl ?_))))))))))
      try dsimp only [one]
      exact ⟨H_54, rfl, ho_54⟩
    ·
      have c31 : ¬ (c : Int) < (xs.length : Int) + 1 := by
        have := of_decide_eq_false c31
        rw [wrap_i64 (by omega) (by omega)] at this; omega
      refine TT.skip (.seq (.seq (.region (.pures hT 4 rfl (.slice_own 0 (xs.length + 1) hT rfl rfl rfl rfl rfl (.inl ⟨rfl, rfl⟩) (.inr ⟨.i64, by rw [wrap_i64 (by omega) (by omega)]; exact congrArg some (int_eq (by omega))⟩) (by omega) (by omega) (by omega) rfl (.pures hT 1 rfl (.nil (.seq (.seq (.seq (.region (.pures hT 5 rfl (.reg 0 rfl (v := .slice (some ⟨b, o, none⟩) (xs.length + 1) c) (by rw [Nat.zero_mul, Nat.add_zero]; rfl) (.reg 62 rfl (v := .slice (some ⟨b, o, none⟩) (xs.length + 1) c) (by rw [Nat.zero_mul, Nat.add_zero]; rfl) (.slice_own (i + 1) (xs.length + 1) hT rfl rfl rfl rfl rfl (.inr ⟨.i64, by rw [wrap_i64 (by omega) (by omega)]; exact congrArg some (int_eq (by omega))⟩) (.inl ⟨rfl, rfl⟩) (by omega) (by omega) (by omega) rfl (.overlaps Tryz.func181 kr kr kr (tS := 22) (tR := 4) kr hT rfl rfl rfl rfl rfl pl ho (by omega) (by decide) Has.one ?_))))))))))))))))
      refine OT.pures hT 1 rfl (.nil (.seq (.cond_true rfl (.seq (.draw (r) mixed (.takes (fuel := 3) hT [0, 1, 2, 3, 5, 6] kr kr rfl (.take (fuel := 2) hT 4 rfl rfl kr kr kr rfl (Fl.slice (i + 1) (xs.length + 1) hT rfl rfl rfl rfl (.inr ⟨.i64, by rw [wrap_i64 (by omega) (by omega)]; exact congrArg some (int_eq (by omega))⟩) (.inl ⟨rfl, rfl⟩) (by omega) (by omega) (by omega)) rfl (.take (fuel := 1) hT 7 rfl rfl kr kr kr rfl (Fl.slice i (xs.length + 1) hT rfl rfl rfl rfl (.inr ⟨_, rfl⟩) (.inl ⟨rfl, rfl⟩) (by omega) (by omega) (by omega)) rfl (.op (fuel := 0) 8 kr rfl sl (.copy_up (i := i) hT rfl rfl rfl rfl pl ho hin (by omega) (by omega) (by omega) (ones_ints _) rfl (fun H_77 ho_77 => ?_)))))))))))
      refine OT.nil (.any (.done kr sl (.seq (.seq (.region (.pures hT 2 rfl (.slice_own i (xs.length + 1) hT rfl rfl rfl rfl rfl (.inr ⟨_, rfl⟩) (.inl ⟨rfl, rfl⟩) (by omega) (by omega) (by omega) rfl (.pures hT 1 rfl (.copy_own i hT rfl rfl rfl rfl pl ho_77 (ys := [y]) hrv.there (by rw [List.length_append, List.length_take, List.length_drop]; simp only [List.length_singleton]; omega) (by rw [List.length_append, List.length_drop]; omega) rfl rfl (fun H_82 ho_82 => ?_))))))))))
      rw [List.take_of_length_le (l := [y]) (by show 1 ≤ _; omega), ins_in hin] at ho_82
      refine OT.nil (.seq (.seq (.region (.pures hT 2 rfl (.nil (.seq (.ret (.of (rs := [.tmp 6]) [_] (H_82 :: r) rfl (.tmp rfl .nil) sl ?_))))))))
      try dsimp only [one]
      exact ⟨H_82, rfl, ho_82⟩

set_option maxHeartbeats 1000000 in
set_option maxRecDepth 100000 in
theorem sl_DeleteI {v : Value} {xs : List Int} {i j : Nat} {H : Chunk} {r : List Chunk} (ho : Own Go.Sx.encI 1 3 v xs H) (hij : i ≤ j) (hj : j ≤ xs.length) (hl : xs.length ≤ 1073741824) : Fun Tryz.prog 151 [v, .int .i64 (i : Nat), .int .i64 (j : Nat)] (H :: r) (fun v' hs' => ∃ H', hs' = H' :: r ∧ Own Go.Sx.encI 1 3 v' (xs.take i ++ xs.drop j) H') := by
  refine Fun.enter 33 Tryz.func151 rfl Tryz.ntmps151 rfl ?_
  obtain ⟨a0, c0, hv⟩ := (ho.row (hs := r)).len
  subst hv
  have hc := ho.cap.2
  have hlt : (xs.take i).length = i := by rw [List.length_take]; omega
  have hld : (xs.drop j).length = xs.length - j := List.length_drop
  refine TT.seq (.region (.pures hT 1 rfl (.nil (.seq (.seq (.region (.pures hT 5 rfl (.slice3 i j xs.length hT rfl rfl rfl ho.row rfl rfl rfl (by omega) (by omega) (by omega) rfl (fun v_13 => ?_)))))))))
  refine OT.nil (.seq (.seq (.seq (.region (.pures hT 3 rfl (.nil (.seq (.cond rfl (fun c16 => ?_) (fun c16 => ?_)))))))))
  ·
    have c16 : (i : Int) = j := by simpa using c16
    obtain rfl : i = j := by omega
    refine TT.seq (.region (.pures hT 2 rfl (.nil (.seq (.ret (.of (rs := [.tmp 6]) [_] (H :: r) rfl (.tmp rfl .nil) sl ?_))))))
    try dsimp only [one]
    exact ⟨H, rfl, by rw [List.take_append_drop]; exact ho⟩
  ·
    refine TT.skip (.seq (.seq (.region (.pures hT 3 rfl (.nil (.seq (.seq (.draw (r) mixed (.takes (fuel := 4) hT [0, 1, 3, 4] kr kr rfl (.all (fuel := 3) [2, 5] kr (by decide) sl ?_))))))))))
    intro i hi
    simp only [List.mem_cons, List.not_mem_nil, or_false] at hi
    rcases hi with rfl | rfl
    ·
      refine ⟨_, rfl, ?_⟩
      refine OT.slice_to i hT rfl rfl rfl rfl ho (by omega) rfl (fun ho_22 => ?_)
      refine OT.nil (.any (.op (fuel := 2) 5 kr rfl sl (.slice j xs.length hT rfl rfl rfl rfl rfl ho.row (.inr ⟨_, rfl⟩) (.inl ⟨rfl, rfl⟩) (by omega) (by omega) rfl (fun v_25 hv_25 => ?_))))
      refine OT.nil (.any (.op (fuel := 1) 6 kr rfl sl (.append_room hT el22 rfl rfl rfl rfl pl hlt.symm ho_22 hv_25 (ones_ints _) (by rw [hlt, List.take_length, hld]; omega) (by rw [List.take_length, hld]; omega) rfl (fun H_26 ho_26 => ?_))))
      refine OT.nil (.any (.takes (fuel := 0) hT [7] kr kr rfl (.done kr sl (.seq (.seq (.region (.pures hT 4 rfl (.slice_val (i + ((xs.take xs.length).drop j).length) xs.length hT rfl rfl rfl rfl rfl (.inr ⟨_, rfl⟩) (.inr ⟨_, rfl⟩) (by rw [List.take_length, hld]; omega) hc rfl (.clear_spare el22 Tryz.zeroValue3 rfl rfl (by rw [List.length_append, hlt]) rfl rfl pl ho_26 (by rw [List.take_length, hld]; omega) hc (fun H_c ho_c => ?_))))))))))
      refine OT.nil (.seq (.seq (.region (.pures hT 2 rfl (.nil (.seq (.ret (.of (rs := [.tmp 6]) [_] (H_c :: r) rfl (.tmp rfl .nil) sl ?_))))))))
      try dsimp only [one]
      exact ⟨_, rfl, by rw [List.take_length] at ho_c ⊢; exact ho_c⟩
    ·
      refine ⟨_, rfl, ?_⟩
      refine OT.slice j xs.length hT rfl rfl rfl rfl rfl ho.row (.inr ⟨_, rfl⟩) (.inl ⟨rfl, rfl⟩) (by omega) (by omega) rfl (fun v_25 hv_25 => ?_)
      refine OT.nil (.any (.op (fuel := 2) 2 kr rfl sl (.slice_to i hT rfl rfl rfl rfl ho (by omega) rfl (fun ho_22 => ?_))))
      refine OT.nil (.any (.op (fuel := 1) 6 kr rfl sl (.append_room hT el22 rfl rfl rfl rfl pl hlt.symm ho_22 hv_25 (ones_ints _) (by rw [hlt, List.take_length, hld]; omega) (by rw [List.take_length, hld]; omega) rfl (fun H_26 ho_26 => ?_))))
      refine OT.nil (.any (.takes (fuel := 0) hT [7] kr kr rfl (.done kr sl (.seq (.seq (.region (.pures hT 4 rfl (.slice_val (i + ((xs.take xs.length).drop j).length) xs.length hT rfl rfl rfl rfl rfl (.inr ⟨_, rfl⟩) (.inr ⟨_, rfl⟩) (by rw [List.take_length, hld]; omega) hc rfl (.clear_spare el22 Tryz.zeroValue3 rfl rfl (by rw [List.length_append, hlt]) rfl rfl pl ho_26 (by rw [List.take_length, hld]; omega) hc (fun H_c ho_c => ?_))))))))))
      refine OT.nil (.seq (.seq (.region (.pures hT 2 rfl (.nil (.seq (.ret (.of (rs := [.tmp 6]) [_] (H_c :: r) rfl (.tmp rfl .nil) sl ?_))))))))
      try dsimp only [one]
      exact ⟨_, rfl, by rw [List.take_length] at ho_c ⊢; exact ho_c⟩

end Go.Proofs.YtihpkgmfkbkffaaGreat.Sx
end

section
namespace Go.Proofs.YtihpkgmfkbkffaaGreat.Sx
open Go Go.Sx Go.Pl
variable [Outer]

/-- what a panic of the tree's tells: why, and what is behind it -/
def Broke (I : Chunk → Prop) (E : Int → Chunk → Prop) (res : Int → Prop) (r : List Chunk) (v' : Value) (hs' : List Chunk) : Prop := ∃ e H', v' = flt e ∧ e ≠ 0 ∧ hs' = H' :: r ∧ ((res e ∧ I H') ∨ ∃ e0, E e0 H')

theorem str_Compare {a b : ByteArray} {hs : List Chunk} : Fun Tryz.prog 137 [.string a, .string b] hs fun v' hs' => v' = .int .i64 (cmpK a b) ∧ hs = hs' := fun w hm => (Tryz.strings_Compare a b w).mono fun e w' h => by obtain ⟨rfl, rfl⟩ := h; exact ⟨_, _, rfl, ⟨rfl, rfl⟩, hm⟩

set_option maxHeartbeats 1000000 in
set_option maxRecDepth 100000 in
theorem tr_find1 {x : Cell} {k : ByteArray} {hs : List Chunk} : Fun Tryz.prog 136 [.agg ⟨encCell x⟩, .string k] hs (fun v' hs' => v' = .int .i64 (cmpK x.key k) ∧ hs = hs') := by
  refine Fun.enter 9 Tryz.func136 rfl Tryz.ntmps136 rfl ?_
  refine TT.seq (.region (.box rfl rfl rfl (fun b_2 => ?_)))
  refine OT.pures hT 1 rfl (.nil (.seq (.seq (.region (.pures hT 1 rfl (.load rfl rfl (Ld.one hT rfl hz rfl) rfl ?_))))))
  refine OT.pures hT 1 rfl (.call Tryz.call137 rfl rfl rfl rfl (str_Compare) ?_)
  rintro v_8 hs_8 ⟨rfl, rfl⟩
  refine OT.pures hT 1 rfl (.nil (.seq (.ret (.of (rs := [.tmp 4]) [_] hs rfl (.tmp rfl .nil) sl ?_))))
  try dsimp only [one]
  exact ⟨rfl, rfl⟩

set_option maxHeartbeats 1000000 in
set_option maxRecDepth 100000 in
theorem sl_SearchC {v : Value} {cells : List Cell} {k : ByteArray} {hs : List Chunk} (hr : Row encCell 8 hs v cells) (hl : cells.length ≤ 1000000) (hrs : rising (keysOf cells)) : Fun Tryz.prog 135 [v, .string k, .func (.func 136) #[] #[]] hs (fun v' hs' => v' = .tuple ⟨[.int .i64 (findI (keysOf cells) k : Nat), .bool (decide ((keysOf cells)[findI (keysOf cells) k]? = some k))]⟩ ∧ hs = hs') := by
  refine Fun.enter 49 Tryz.func135 rfl Tryz.ntmps135 rfl ?_
  obtain ⟨a0, c0, hv⟩ := hr.len
  subst hv
  have hkl := keys_len cells
  refine TT.seq (.region (.pures hT 2 rfl (.nil (.seq (.seq (.region (.pures hT 3 rfl (.nil (.seq (.seq (.region (.pures hT 3 rfl (.nil (.seq (.seq (.block (.loop (ι := Nat × Nat) (fun j => (j.1) ≤ (j.2) ∧ (j.2) ≤ cells.length ∧ (∀ (z : Nat) (x : ByteArray), z < (j.1) → (keysOf cells)[z]? = some x → kLt x k = true) ∧ (∀ (z : Nat) (x : ByteArray), (j.2) ≤ z → (keysOf cells)[z]? = some x → kLt x k = false)) (fun j => (j.2) - (j.1)) (fun j => [(0, .slice a0 cells.length c0), (1, .string k), (2, .func (.func 136) #[] #[]), (8, .int .i64 (cells.length : Nat)), (9, .int .i64 ((j.1) : Nat)), (10, .int .i64 ((j.2) : Nat))]) (fun j => hs) (0, cells.length) ?_ (SubR.cons rfl (SubR.cons rfl (SubR.cons rfl (SubR.cons rfl (SubR.cons rfl (SubR.cons rfl (SubR.nil _))))))) sl ?_)))))))))))))))))
  · dsimp only
    exact ⟨by omega, by omega, fun j x h => by omega, fun j x h hx => by rw [List.getElem?_eq_none (by omega)] at hx; cases hx⟩
  rintro ⟨p, q⟩ hI
  dsimp only at hI
  obtain ⟨hpq, hql, hlo, hhi⟩ := hI
  show TT _ _ _ [(0, .slice a0 cells.length c0), (1, .string k), (2, .func (.func 136) #[] #[]), (8, .int .i64 (cells.length : Nat)), (9, .int .i64 (p : Nat)), (10, .int .i64 (q : Nat))] (hs)
  refine TT.seq (.seq (.region (.pures hT 3 rfl (.nil (.seq (.cond rfl (fun c17 => ?_) (fun c17 => ?_)))))))
  ·
    have c17 := of_decide_eq_true c17
    obtain ⟨x, hx⟩ := nth (l := cells) (i := (p + q) / 2) (by omega)
    have hxk := keys_at hx
    refine TT.skip (.seq (.block (.seq (.region (.pures hT 7 rfl (.nil (.seq (.seq (.region (.pures hT 3 rfl (.reg 11 rfl (v := .int .i64 (((p + q) / 2 : Nat) : Int)) (int_eq (half (by omega))) (.reg 26 rfl (v := .int .i64 (((p + q) / 2 : Nat) : Int)) (int_eq (half (by omega))) (.index hT rfl rfl rfl rfl hr (by omega) (by rw [Int.toNat_natCast]; exact hx) rfl (fun ad_27 hel_27 => ?_))))))))))))))
    refine OT.load rfl rfl (hel_27.ld_struct hT rfl) rfl (.pures hT 1 rfl ?_)
    refine OT.callc Tryz.call136 rfl rfl rfl rfl (tr_find1) ?_
    rintro v_30 hs_30 ⟨rfl, rfl⟩
    refine OT.pures hT 1 rfl (.reg 31 rfl (v := .bool (kLt x.key k)) (congrArg Value.bool (cmpK_lt _ _)) (.nil (.seq (.cond rfl (fun c31 => ?_) (fun c31 => ?_)))))
    ·
      refine TT.region (.pures hT 3 rfl (.nil (.blk (.loop ((p + q) / 2 + 1, q) ?_ ?_ (SubR.cons rfl (SubR.cons rfl (SubR.cons rfl (SubR.cons rfl (SubR.cons' rfl (by (try dsimp only); exact (int_eq (by rw [wrap_i64 (by omega) (by omega)]; omega))) (SubR.cons rfl (SubR.nil _))))))) sl))))
      · dsimp only
        refine ⟨by omega, hql, fun j y hj hy => ?_, hhi⟩
        by_cases e : j = (p + q) / 2
        · subst e; rw [hxk] at hy; cases hy; exact c31
        · exact kLt_trans (rising_at hrs (by omega) hy hxk) c31
      · dsimp only
        omega
    ·
      refine TT.region (.pures hT 2 rfl (.nil (.blk (.loop (p, (p + q) / 2) ?_ ?_ (SubR.cons rfl (SubR.cons rfl (SubR.cons rfl (SubR.cons rfl (SubR.cons rfl (SubR.cons rfl (SubR.nil _))))))) sl))))
      · dsimp only
        refine ⟨by omega, by omega, hlo, fun j y hj hy => ?_⟩
        by_cases e : j = (p + q) / 2
        · subst e; rw [hxk] at hy; cases hy; exact c31
        · cases hh : kLt y k with
          | false => rfl
          | true => have := kLt_trans (rising_at hrs (by omega) hxk hy) hh; rw [c31] at this; cases this
      · dsimp only
        omega
  ·
    have c17 := of_decide_eq_false c17
    obtain rfl : p = q := by omega
    have hst : findI (keysOf cells) k = p := Stands.is ⟨by omega, hlo, hhi⟩
    refine TT.exit (.seq (.loop (.here (.seq (.seq (.region (.pures hT 5 rfl (.split 39 rfl (fun g39 => ?_) (fun g39 => ?_)))))))))
    ·
      obtain ⟨y, hy⟩ := nth (l := cells) (i := p) (by have := of_decide_eq_true g39; omega)
      have hyk := keys_at hy
      refine OT.pures hT 3 rfl (.index hT rfl rfl rfl rfl hr (by omega) (by rw [Int.toNat_natCast]; exact hy) rfl (fun ad_43 hel_43 => ?_))
      refine OT.load rfl rfl (hel_43.ld_struct hT rfl) rfl (.pures hT 1 rfl ?_)
      refine OT.callc Tryz.call136 rfl rfl rfl rfl (tr_find1) ?_
      rintro v_46 hs_46 ⟨rfl, rfl⟩
      refine OT.pures hT 4 rfl (.nil (.seq (.ret (.of (rs := [.tmp 6, .tmp 7]) [_, _] hs rfl (.tmp rfl (.tmp rfl .nil)) sl ?_))))
      try dsimp only [one]
      refine ⟨?_, rfl⟩
      rw [hst, hyk]
      refine congrArg (fun z => Value.tuple ⟨[_, Value.bool z]⟩) ?_
      exact (cmpK_eq _ _).trans (decide_eq_decide.2 (by simp))
    ·
      have g39 : ¬ p < cells.length := by have := of_decide_eq_false g39; omega
      refine OT.pures hT 11 rfl (.nil (.seq (.ret (.of (rs := [.tmp 6, .tmp 7]) [_, _] hs rfl (.tmp rfl (.tmp rfl .nil)) sl ?_))))
      try dsimp only [one]
      refine ⟨?_, rfl⟩
      rw [hst, List.getElem?_eq_none (by omega)]
      rfl

set_option maxHeartbeats 1000000 in
set_option maxRecDepth 100000 in
theorem tr_find {cs : List Value} {n : Nd} {k : ByteArray} {hs : List Chunk} (h : NdAt hs cs n) (hlc : n.cells.length ≤ 1000) (hrs : rising (keysOf n.cells)) : Fun Tryz.prog 96 [.agg ⟨cs⟩, .string k] hs (fun v' hs' => v' = .tuple ⟨[.int .i64 (findI (keysOf n.cells) k : Nat), .bool (decide ((keysOf n.cells)[findI (keysOf n.cells) k]? = some k))]⟩ ∧ hs = hs') := by
  refine Fun.enter 12 Tryz.func96 rfl Tryz.ntmps96 rfl ?_
  obtain ⟨vc, vk, vi, rfl, hc, hk, hi⟩ := h.is
  obtain ⟨ac, cc, e1⟩ := hc.len
  subst e1
  refine TT.seq (.region (.box rfl rfl rfl (fun b_2 => ?_)))
  refine OT.pures hT 2 rfl (.nil (.seq (.seq (.region (.pures hT 1 rfl (.load rfl rfl (Ld.slc hT rfl hz rfl) rfl ?_))))))
  refine OT.pures hT 1 rfl (.call Tryz.call135 rfl rfl rfl rfl (sl_SearchC hc.there (by omega) hrs) ?_)
  rintro v_9 hs_9 ⟨rfl, rfl⟩
  refine OT.pures hT 4 rfl (.nil (.seq (.ret (.of (rs := [.tmp 4, .tmp 5]) [_, _] hs rfl (.tmp rfl (.tmp rfl .nil)) sl ?_))))
  try dsimp only [one]
  exact ⟨rfl, rfl⟩

set_option maxHeartbeats 1000000 in
set_option maxRecDepth 100000 in
theorem tr_page {P : Value} {I : Chunk → Prop} {E : Int → Chunk → Prop} {pg : Pg} {H : Chunk} {r : List Chunk} (hP : Pgs Tryz.prog 5 P I E pg) (hI : I H) {no : Int} (hno : -9223372036854775808 ≤ no ∧ no ≤ 9223372036854775807) : FunP Tryz.prog 132 [P, .int .i64 no] (H :: r) (fun v' hs' => ∃ H' K bs, hs' = H' :: K :: r ∧ Own Go.Sx.encB 1 5 v' bs K ∧ I H' ∧ pageT pg no = .ok bs) (Broke I E (fun e => pageT pg no = .error e) r) := by
  refine FunP.enter 21 Tryz.func132 rfl Tryz.ntmps132 rfl ?_
  obtain ⟨ti, ui, rfl⟩ := hP.iface
  refine TT.seq (.region (.pures hT 1 rfl (.nil (.seq (.seq (.region (.pures hT 2 rfl (.call Tryz.call118 rfl rfl rfl rfl (guard_Check) ?_))))))))
  rintro v_9 hs_9 ⟨rfl, rfl⟩
  refine OT.nil (.seq (.seq (.region (.pures hT 2 rfl (.page hP rfl rfl rfl rfl pl hI (by omega) (by omega) (fun H_13 K_13 w_13 e_13 bs_13 ho_13 hq_13 => ?_))))))
  refine OT.pures hT 5 rfl (.nil (.seq (.seq (.region (.pures hT 3 rfl ?_)))))
  refine OT.callP Tryz.call118 rfl rfl rfl rfl (guard_CheckB) (fun _ _ h => by
    obtain ⟨hb, rfl, rfl⟩ := h
    have hb : e_13 ≠ 0 := by simpa using hb
    refine PP.of ⟨e_13, H_13, by rw [brk_same hb], hb, rfl, ?_⟩ sl
    rcases hq_13 with ⟨h, _⟩ | ⟨_, _, ⟨h1, h2⟩ | h2⟩
    · exact absurd h hb
    · exact .inl ⟨by unfold pageT; rw [if_neg (by rw [h1]; exact hb), h1], h2⟩
    · exact .inr ⟨_, h2⟩) ?_
  rintro v_19 hs_19 ⟨hb, rfl, rfl⟩
  have hb : e_13 = 0 := by simpa using hb
  rcases hq_13 with ⟨_, hx, hI1⟩ | ⟨h, _⟩
  rotate_left
  · exact absurd hb h
  obtain ⟨a13, c13, rfl⟩ := (ho_13.row (hs := [])).len
  refine OT.nil (.seq (.seq (.region (.pures hT 2 rfl (.nil (.seq (.ret (.ofP (rs := [.tmp 4]) [_] (H_13 :: K_13 :: r) rfl (.tmp rfl .nil) sl ?_))))))))
  try dsimp only [one]
  exact ⟨H_13, K_13, bs_13, rfl, ho_13, hI1, by unfold pageT; rw [hx]; rfl⟩

set_option maxHeartbeats 1000000 in
set_option maxRecDepth 100000 in
theorem tr_read {P : Value} {I : Chunk → Prop} {E : Int → Chunk → Prop} {pg : Pg} {H : Chunk} {r : List Chunk} (hP : Pgs Tryz.prog 5 P I E pg) (hI : I H) {no : Int} (hno : -9223372036854775808 ≤ no ∧ no ≤ 9223372036854775807) : FunP Tryz.prog 95 [P, .int .i64 no] (H :: r) (fun v' hs' => ∃ H' K cs n, hs' = H' :: K :: r ∧ v' = .agg ⟨cs⟩ ∧ NdOwn 113 9 3 cs n K ∧ I H' ∧ readT pg no = .ok n) (Broke I E (fun e => readT pg no = .error e) r) := by
  refine FunP.enter 18 Tryz.func95 rfl Tryz.ntmps95 rfl ?_
  refine TT.seq (.region (.alloc Tryz.zeroValue159 rfl rfl (fun b_4 => ?_)))
  refine OT.nil (.seq (.seq (.region (.pures hT 2 rfl ?_))))
  refine OT.callP Tryz.call132 rfl rfl rfl rfl (FunP.pull pl (tr_page hP hI hno)) (fun _ _ h => by
    obtain ⟨e, H', rfl, he, rfl, ⟨h1, h2⟩ | h2⟩ := h
    · exact PP.of ⟨e, H', rfl, he, rfl, .inl ⟨by unfold readT; rw [h1]; rfl, h2⟩⟩ sl
    · exact PP.of ⟨e, H', rfl, he, rfl, .inr h2⟩ sl) ?_
  rintro v_10 hs_10 ⟨H1, K1, bs, rfl, ho1, hI1, hpt⟩
  refine OT.call Tryz.call134 rfl rfl rfl rfl (nd_Decode ho1.row.there) ?_
  rintro v_11 hs_11 ⟨K2, cs, n, e1, rfl, rfl, hN, hD⟩
  refine OT.pures hT 3 rfl (.alloc Tryz.zeroValue159 rfl rfl (fun b_5 => ?_))
  refine OT.store_all hT rfl rfl rfl rfl pl (by exact hN.four) rfl hN.all1 (.inl (Nat.le_refl _)) ?_
  refine OT.pures hT 1 rfl (.nil (.seq (.seq (.region (.pures hT 2 rfl ?_)))))
  refine OT.callP Tryz.call118 rfl rfl rfl rfl (guard_CheckB) (fun _ _ h => by
    obtain ⟨hb, rfl, rfl⟩ := h
    have hb : e1 ≠ 0 := by simpa using hb
    refine PP.of ⟨8, H1, by rw [brk_same (by decide)], by decide, rfl, .inl ⟨?_, hI1⟩⟩ sl
    rcases hD with ⟨h, _⟩ | ⟨_, _, h⟩
    · exact absurd h hb
    · unfold readT; rw [hpt]; exact decT_bad h) ?_
  rintro v_16 hs_16 ⟨hb, rfl, rfl⟩
  have hb : e1 = 0 := by simpa using hb
  have hpn : IsPage bs n := by rcases hD with ⟨_, h⟩ | ⟨h, _⟩
                               · exact h
                               · rw [hb] at h; cases h
  refine OT.nil (.seq (.seq (.region (.load rfl rfl (Ld.struct_all hT rfl hz hN.four) rfl ?_))))
  refine OT.store_all hT rfl rfl rfl rfl pl (by exact hN.four) rfl hN.all1 (.inl (Nat.le_refl _)) ?_
  refine OT.nil (.seq (.ret (.ofP (rs := [.cell 4 159]) [_] (H1 :: K2 :: r) rfl (.cell rfl (Ld.struct_all hT rfl hz hN.four) .nil) sl ?_)))
  try dsimp only [one]
  exact ⟨H1, K2, cs, n, rfl, rfl, hN, hI1, by unfold readT; rw [hpt]; exact decT_ok hpn⟩

set_option maxHeartbeats 1000000 in
set_option maxRecDepth 100000 in
theorem tr_root {P : Value} {I : Chunk → Prop} {E : Int → Chunk → Prop} {pg : Pg} {H : Chunk} {r : List Chunk} (hP : Pgs Tryz.prog 5 P I E pg) (hI : I H) : FunP Tryz.prog 94 [P] (H :: r) (fun v' hs' => ∃ H' no, hs' = H' :: r ∧ v' = .int .i64 no ∧ I H' ∧ rootT pg = .ok no) (Broke I E (fun e => rootT pg = .error e) r) := by
  refine FunP.enter 16 Tryz.func94 rfl Tryz.ntmps94 rfl ?_
  refine TT.seq (.region (.pures hT 1 rfl (.nil (.seq (.seq (.region (.pures hT 1 rfl ?_)))))))
  refine OT.callP Tryz.call132 rfl rfl rfl rfl (tr_page hP hI (no := 1) (by omega)) (fun _ _ h => by
    obtain ⟨e, H', rfl, he, rfl, ⟨h1, h2⟩ | h2⟩ := h
    · exact PP.of ⟨e, H', rfl, he, rfl, .inl ⟨by unfold rootT; rw [h1]; rfl, h2⟩⟩ sl
    · exact PP.of ⟨e, H', rfl, he, rfl, .inr h2⟩ sl) ?_
  rintro v_6 hs_6 ⟨H1, K1, bs, rfl, ho1, hI1, hpt⟩
  refine OT.nil (.seq (.seq (.region (.pures hT 1 rfl (.call Tryz.call133 rfl rfl rfl rfl (al_Root hP hI1) ?_)))))
  rintro v_9 hs_9 ⟨H2, no, e2, rfl, rfl, hq2⟩
  refine OT.pures hT 5 rfl (.nil (.seq (.seq (.region (.pures hT 2 rfl ?_)))))
  refine OT.callP Tryz.call118 rfl rfl rfl rfl (guard_CheckB) (fun _ _ h => by
    obtain ⟨hb, rfl, rfl⟩ := h
    have hb : e2 ≠ 0 := by simpa using hb
    refine PP.of ⟨8, H2, by rw [brk_same (by decide)], by decide, rfl, ?_⟩ sl
    rcases hq2 with ⟨h1, h2⟩ | ⟨_, h2⟩
    · exact .inl ⟨by unfold rootT; rw [hpt]; show (if _ then _ else _) = _; rw [← h2, if_neg hb], h1⟩
    · exact .inr ⟨_, h2⟩) ?_
  rintro v_14 hs_14 ⟨hb, rfl, rfl⟩
  have hb : e2 = 0 := by simpa using hb
  rcases hq2 with ⟨hI2, h2⟩ | ⟨h, _⟩
  rotate_left
  · exact absurd hb h
  refine OT.nil (.seq (.seq (.region (.pures hT 2 rfl (.nil (.seq (.ret (.ofP (rs := [.tmp 2]) [_] (H2 :: r) rfl (.tmp rfl .nil) sl ?_))))))))
  try dsimp only [one]
  exact ⟨H2, no, rfl, rfl, hI2, by unfold rootT; rw [hpt]; show (if _ then _ else _) = _; rw [← h2, if_pos hb]⟩

set_option maxHeartbeats 1000000 in
set_option maxRecDepth 100000 in
theorem tr_fits {cs : List Value} {n : Nd} {hs : List Chunk} (h : NdAt hs cs n) (hlc : n.cells.length ≤ 1000) (hlk : n.keys.length ≤ 1000000) (hli : n.kids.length ≤ 1000000) (hf : ∀ c ∈ n.cells, c.val.f < 2 ^ 64 ∧ c.new.f < 2 ^ 64) : Fun Tryz.prog 176 [.agg ⟨cs⟩] hs (fun v' hs' => v' = .bool (decide (Fits n)) ∧ hs = hs') := by
  refine Fun.enter 12 Tryz.func176 rfl Tryz.ntmps176 rfl ?_
  have h4 : cs.length = 4 := by obtain ⟨vc, vk, vi, e, _⟩ := h.is; rw [e]; rfl
  refine TT.seq (.region (.box rfl rfl rfl (fun b_1 => ?_)))
  refine OT.pures hT 1 rfl (.nil (.seq (.seq (.region (.load rfl rfl (Ld.struct_all hT rfl hz h4) rfl ?_)))))
  refine OT.call Tryz.call144 rfl rfl rfl rfl (nd_Encode (h.mono fun _ _ => .there) hlc hlk hli hf) ?_
  rintro v_7 hs_7 ⟨KE, wE, rfl, rfl, hoE⟩
  refine OT.pures hT 5 rfl (.nil (.seq (.seq (.region (.pures hT 3 rfl (.nil (.seq (.ret (.of (rs := [.tmp 2]) [_] hs rfl (.tmp rfl .nil) sl ?_)))))))))
  try dsimp only [one]
  refine ⟨congrArg Value.bool ?_, rfl⟩
  rw [show ((encNd n).2 == 0) = decide ((encNd n).2 = 0) from rfl]
  exact decide_eq_decide.2 enc_fits

set_option maxHeartbeats 1000000 in
set_option maxRecDepth 100000 in
theorem tr_set {b : Nat} {P : Value} {I : Chunk → Prop} {E : Int → Chunk → Prop} {Qb : Pages} (hP : PgsA Tryz.prog 5 P I E (pgOf Qb)) (hQ : Long Qb) {Qt : Pages} {H : Chunk} {r : List Chunk} (hH : ShAt 110 b P I Qb Qt H) {cs : List Value} {n : Nd} (h : NdAt r cs n) (hlc : n.cells.length ≤ 1000) (hlk : n.keys.length ≤ 1000000) (hli : n.kids.length ≤ 1000000) (hf : ∀ c ∈ n.cells, c.val.f < 2 ^ 64 ∧ c.new.f < 2 ^ 64) {no : Int} (hno : mayPage no) : FunP Tryz.prog 104 [.pointer (some ⟨b, 0, none⟩), .int .i64 no, .agg ⟨cs⟩] (H :: r) (fun v' hs' => ∃ H' Q', hs' = H' :: r ∧ v' = .tuple ⟨[]⟩ ∧ setT Qt no n = .ok Q' ∧ ShAt 110 b P I Qb Q' H') (Broke (fun H => ∃ Q', ShAt 110 b P I Qb Q' H) (ShBad 110 b P E) (fun e => setT Qt no n = .error e) r) := by
  refine FunP.enter 25 Tryz.func104 rfl Tryz.ntmps104 rfl ?_
  have h4 : cs.length = 4 := by obtain ⟨vc, vk, vi, e, _⟩ := h.is; rw [e]; rfl
  refine TT.seq (.region (.box rfl rfl rfl (fun b_5 => ?_)))
  refine OT.nil (.seq (.seq (.region (.load rfl rfl (Ld.struct_all hT rfl hz h4) rfl ?_))))
  refine OT.call Tryz.call144 rfl rfl rfl rfl (nd_Encode (hs := _ :: H :: r) (h.mono fun _ _ h => .there (.there h)) hlc hlk hli hf) ?_
  rintro v_10 hs_10 ⟨KE, wE, rfl, rfl, hoE⟩
  refine OT.pures hT 5 rfl (.nil (.seq (.seq (.region (.pures hT 3 rfl ?_)))))
  refine OT.callP Tryz.call118 rfl rfl rfl rfl (guard_CheckB) (fun _ _ h => by
    obtain ⟨hb, rfl, rfl⟩ := h
    have hb : (encNd n).2 ≠ 0 := by simpa using hb
    exact PP.of ⟨(encNd n).2, H, by rw [brk_same hb], hb, rfl, .inl ⟨by unfold setT; rw [if_neg hb], Qt, hH⟩⟩ sl) ?_
  rintro v_16 hs_16 ⟨hb, rfl, rfl⟩
  have hb : (encNd n).2 = 0 := by simpa using hb
  refine OT.nil (.seq (.seq (.region (.pures hT 3 rfl (.call Tryz.call109 rfl rfl rfl rfl (Fun.weaken sl (sh_Set hP hQ hH (no := no) (r := KE :: r) hoE.row hno (enc_len (enc_fits.1 hb)))) ?_)))))
  rintro v_20 hs_20 ⟨H2, rfl, rfl, hI2⟩
  refine OT.pures hT 1 rfl (.nil (.seq (.region (.pures hT 3 rfl (.call Tryz.call118 rfl rfl rfl rfl (guard_Check) ?_)))))
  rintro v_24 hs_24 ⟨rfl, rfl⟩
  refine OT.nil (.ofP (rs := []) [] (H2 :: r) rfl .nil sl ?_)
  try dsimp only [one]
  exact ⟨H2, _, rfl, rfl, by unfold setT; rw [if_pos hb], hI2⟩

set_option maxHeartbeats 1000000 in
set_option maxRecDepth 100000 in
theorem tr_take {b : Nat} {P : Value} {I : Chunk → Prop} {E : Int → Chunk → Prop} {Qb : Pages} (hP : PgsA Tryz.prog 5 P I E (pgOf Qb)) (hQ : Long Qb) {Qt : Pages} {H : Chunk} {r : List Chunk} (hH : ShAt 110 b P I Qb Qt H) : FunP Tryz.prog 102 [.pointer (some ⟨b, 0, none⟩)] (H :: r) (fun v' hs' => ∃ H' no Q', hs' = H' :: r ∧ v' = .int .i64 no ∧ takeT Qt = .ok (no, Q') ∧ ShAt 110 b P I Qb Q' H') (Broke (fun H => ∃ Q', ShAt 110 b P I Qb Q' H) (ShBad 110 b P E) (fun e => takeT Qt = .error e) r) := by
  refine FunP.enter 15 Tryz.func102 rfl Tryz.ntmps102 rfl ?_
  refine TT.seq (.region (.pures hT 1 rfl (.nil (.seq (.seq (.region (.pures hT 1 rfl (.call Tryz.call142 rfl rfl rfl rfl (al_Take hP hQ hH) ?_))))))))
  rintro v_7 hs_7 ⟨H1, no, e1, rfl, rfl, hq1⟩
  refine OT.pures hT 5 rfl (.nil (.seq (.seq (.region (.pures hT 3 rfl ?_)))))
  refine OT.callP Tryz.call118 rfl rfl rfl rfl (guard_CheckB) (fun _ _ h => by
    obtain ⟨hb, rfl, rfl⟩ := h
    have hb : e1 ≠ 0 := by simpa using hb
    rcases hq1 with ⟨n, _, h, _⟩ | ⟨h1, rfl, h2⟩ | ⟨_, h2⟩
    · exact absurd h hb
    · exact PP.of ⟨4, H1, by rw [brk_same hb], hb, rfl, .inl ⟨by unfold takeT; rw [h1], Qt, h2⟩⟩ sl
    · exact PP.of ⟨e1, H1, by rw [brk_same hb], hb, rfl, .inr h2⟩ sl) ?_
  rintro v_13 hs_13 ⟨hb, rfl, rfl⟩
  have hb : e1 = 0 := by simpa using hb
  rcases hq1 with ⟨n, h1, _, rfl, hI2⟩ | ⟨_, h, _⟩ | ⟨h, _⟩
  rotate_left
  · rw [hb] at h; cases h
  · exact absurd hb h
  refine OT.nil (.seq (.seq (.region (.pures hT 2 rfl (.nil (.seq (.ret (.ofP (rs := [.tmp 2]) [_] (H1 :: r) rfl (.tmp rfl .nil) sl ?_))))))))
  try dsimp only [one]
  exact ⟨H1, _, _, rfl, rfl, by unfold takeT; rw [h1], hI2⟩

set_option maxHeartbeats 1000000 in
set_option maxRecDepth 100000 in
theorem tr_free {b : Nat} {P : Value} {I : Chunk → Prop} {E : Int → Chunk → Prop} {Qb : Pages} (hP : PgsA Tryz.prog 5 P I E (pgOf Qb)) (hQ : Long Qb) {Qt : Pages} {H : Chunk} {r : List Chunk} (hH : ShAt 110 b P I Qb Qt H) {no : Int} (hno : 0 ≤ no ∧ no < 32) : FunP Tryz.prog 153 [.pointer (some ⟨b, 0, none⟩), .int .i64 no] (H :: r) (fun v' hs' => ∃ H' Q', hs' = H' :: r ∧ v' = .tuple ⟨[]⟩ ∧ freeT Qt no = .ok Q' ∧ ShAt 110 b P I Qb Q' H') (Broke (fun H => ∃ Q', ShAt 110 b P I Qb Q' H) (ShBad 110 b P E) (fun e => freeT Qt no = .error e) r) := by
  refine FunP.enter 11 Tryz.func153 rfl Tryz.ntmps153 rfl ?_
  obtain ⟨n, rfl⟩ : ∃ n : Nat, no = n := ⟨no.toNat, by omega⟩
  refine TT.seq (.region (.pures hT 2 rfl (.call Tryz.call183 rfl rfl rfl rfl (al_Free hP hQ hH (n := n) (by omega)) ?_)))
  rintro v_7 hs_7 ⟨H1, e1, rfl, rfl, hq1⟩
  refine OT.pures hT 1 rfl (.nil (.seq (.region (.pures hT 2 rfl ?_))))
  refine OT.callP Tryz.call118 rfl rfl rfl rfl (guard_CheckB) (fun _ _ h => by
    obtain ⟨hb, rfl, rfl⟩ := h
    have hb : e1 ≠ 0 := by simpa using hb
    rcases hq1 with ⟨_, h, _⟩ | ⟨h1, rfl, h2⟩ | ⟨_, h2⟩
    · exact absurd h hb
    · exact PP.of ⟨8, H1, by rw [brk_same (by decide)], by decide, rfl, .inl ⟨by unfold freeT; rw [if_neg (by rw [h1]; simp)], Qt, h2⟩⟩ sl
    · exact PP.of ⟨8, H1, by rw [brk_same (by decide)], by decide, rfl, .inr h2⟩ sl) ?_
  rintro v_10 hs_10 ⟨hb, rfl, rfl⟩
  have hb : e1 = 0 := by simpa using hb
  rcases hq1 with ⟨h1, _, hI2⟩ | ⟨_, h, _⟩ | ⟨h, _⟩
  rotate_left
  · rw [hb] at h; cases h
  · exact absurd hb h
  refine OT.nil (.ofP (rs := []) [] (H1 :: r) rfl .nil sl ?_)
  try dsimp only [one]
  exact ⟨H1, _, rfl, rfl, by unfold freeT; rw [if_pos h1]; rfl, hI2⟩

set_option maxHeartbeats 1000000 in
set_option maxRecDepth 100000 in
theorem tr_setRoot {b : Nat} {P : Value} {I : Chunk → Prop} {E : Int → Chunk → Prop} {Qb : Pages} (hP : PgsA Tryz.prog 5 P I E (pgOf Qb)) (hQ : Long Qb) {Qt : Pages} {H : Chunk} {r : List Chunk} (hH : ShAt 110 b P I Qb Qt H) {no : Int} (hno : no = 0 ∨ mayUse no) : FunP Tryz.prog 103 [.pointer (some ⟨b, 0, none⟩), .int .i64 no] (H :: r) (fun v' hs' => ∃ H', hs' = H' :: r ∧ v' = .tuple ⟨[]⟩ ∧ ShAt 110 b P I Qb (rootSet Qt no) H') (Broke (fun H => ∃ Q', ShAt 110 b P I Qb Q' H) (ShBad 110 b P E) (fun e => (.ok () : TE Unit) = .error e) r) := by
  refine FunP.enter 12 Tryz.func103 rfl Tryz.ntmps103 rfl ?_
  refine TT.seq (.region (.pures hT 2 rfl (.call Tryz.call143 rfl rfl rfl rfl (al_SetRoot hP hQ hH hno) ?_)))
  rintro v_7 hs_7 ⟨H1, e1, rfl, rfl, hq1⟩
  refine OT.pures hT 1 rfl (.nil (.seq (.region (.pures hT 3 rfl ?_))))
  refine OT.callP Tryz.call118 rfl rfl rfl rfl (guard_CheckB) (fun _ _ h => by
    obtain ⟨hb, rfl, rfl⟩ := h
    have hb : e1 ≠ 0 := by simpa using hb
    rcases hq1 with ⟨h, _⟩ | ⟨_, h2⟩
    · exact absurd h hb
    · exact PP.of ⟨e1, H1, by rw [brk_same hb], hb, rfl, .inr h2⟩ sl) ?_
  rintro v_11 hs_11 ⟨hb, rfl, rfl⟩
  have hb : e1 = 0 := by simpa using hb
  rcases hq1 with ⟨_, hI2⟩ | ⟨h, _⟩
  rotate_left
  · exact absurd hb h
  refine OT.nil (.ofP (rs := []) [] (H1 :: r) rfl .nil sl ?_)
  try dsimp only [one]
  exact ⟨H1, rfl, rfl, hI2⟩

end Go.Proofs.YtihpkgmfkbkffaaGreat.Sx
end

section
namespace Go.Proofs.YtihpkgmfkbkffaaGreat.Sx
open Go Go.Sx Go.Pl
variable [Outer]

set_option maxHeartbeats 4000000 in
set_option maxRecDepth 100000 in
theorem tr_halves {cs : List Value} {n : Nd} {hs0 hs : List Chunk} {i : Nat} (h : NdAt hs0 cs n) (hh : ∀ b o, Has hs0 b o → Has hs b o) (hlc : n.cells.length ≤ 1000) (hli : n.kids.length ≤ 1000) (h1 : 1 ≤ i) (h2 : i < countN n) (h3 : n.leaf = false → n.keys.length + 1 = n.kids.length) (hks : ∀ c ∈ n.cells, c.key.size ≤ 1000000) : Fun Tryz.prog 177 [.agg ⟨cs⟩, .int .i64 (i : Nat)] hs (fun v' hs' => ∃ cl cr, v' = .tuple ⟨[.agg ⟨cl⟩, .agg ⟨cr⟩, .string (halvesN n i).2.2]⟩ ∧ hs' = hs ∧ NdAt hs0 cl (halvesN n i).1 ∧ NdAt hs0 cr (halvesN n i).2.1 ∧ ones cl = true ∧ ones cr = true) := by
  refine Fun.enter 66 Tryz.func177 rfl Tryz.ntmps177 rfl ?_
  obtain ⟨vc, vk, vi, rfl, hc, hk, hi⟩ := h.is
  obtain ⟨ac, cc, e1⟩ := hc.len
  obtain ⟨ak, ck, e2⟩ := hk.len
  obtain ⟨ai, ci, e3⟩ := hi.len
  subst e1 e2 e3
  have hcl := hc.cap_le
  have hkl := hk.cap_le
  have hil := hi.cap_le
  refine TT.seq (.region (.box rfl rfl rfl (fun b_2 => ?_)))
  refine OT.alloc Tryz.zeroValue159 rfl rfl (fun b_4 => ?_)
  refine OT.alloc Tryz.zeroValue159 rfl rfl (fun b_5 => ?_)
  refine OT.pures hT 1 rfl (.nil (.seq (.seq (.seq (.region (.pures hT 1 rfl (.load rfl rfl (Ld.one hT rfl hz rfl) rfl ?_)))))))
  refine OT.nil (.seq (.cond rfl (fun c12 => ?_) (fun c12 => ?_)))
  ·
    unfold countN at h2; rw [if_pos c12] at h2
    rw [halves_leaf c12]
    obtain ⟨xi, hxi⟩ := nth (l := n.cells) (i := i) (by omega)
    obtain ⟨xj, hxj⟩ := nth (l := n.cells) (i := i - 1) (by omega)
    rw [keyOf_at hxi, keyOf_at hxj]
    refine TT.seq (.draw (([(b_2, blk [.bool n.leaf, .slice ac n.cells.length cc, .slice ak n.keys.length ck, .slice ai n.kids.length ci] 159 (0, 0))] :: hs)) mixed (.takes (fuel := 10) hT [0, 2, 5, 7] kr kr rfl (.take (fuel := 9) hT 1 rfl rfl kr kr kr rfl (.load rfl (Ld.slc hT rfl hz rfl)) rfl ?_)))
    refine AT.take (fuel := 8) hT 6 rfl rfl kr kr kr rfl (.load rfl (Ld.slc hT rfl hz rfl)) rfl ?_
    refine AT.take (fuel := 7) hT 3 rfl rfl kr kr kr rfl (Fl.slice_val 0 i hT rfl rfl rfl rfl (.inl ⟨rfl, rfl⟩) (.inr ⟨_, rfl⟩) (by omega) (by omega)) rfl (.take (fuel := 6) hT 4 rfl rfl kr kr kr rfl (fl_build (cs := [.bool true, .slice (if cc = 0 then ac else ac.map (·.add (0 * 8))) (i - 0) (cc - 0), .slice none 0 0, .slice none 0 0]) hT rfl Tryz.zeroValue159 rfl rfl) rfl (.take (fuel := 5) hT 8 rfl rfl kr kr kr rfl (Fl.slice_val i n.cells.length hT rfl rfl rfl rfl (.inr ⟨_, rfl⟩) (.inl ⟨rfl, rfl⟩) (by omega) (by omega)) rfl (.take (fuel := 4) hT 9 rfl rfl kr kr kr rfl (fl_build (cs := [.bool true, .slice (if cc = i then ac else ac.map (·.add (i * 8))) (n.cells.length - i) (cc - i), .slice none 0 0, .slice none 0 0]) hT rfl Tryz.zeroValue159 rfl rfl) rfl (.all (fuel := 3) [10, 11] kr (by decide) sl ?_))))
    intro i hi
    simp only [List.mem_cons, List.not_mem_nil, or_false] at hi
    rcases hi with rfl | rfl
    ·
      refine ⟨_, rfl, ?_⟩
      refine OT.alloc Tryz.zeroValue159 rfl rfl (fun b_7 => ?_)
      refine OT.nil (.any (.op (fuel := 2) 11 kr rfl sl (.alloc Tryz.zeroValue159 rfl rfl (fun b_8 => ?_))))
      refine OT.nil (.any (.op (fuel := 1) 12 kr rfl sl (.store_all hT rfl rfl rfl rfl pl rfl rfl rfl (.inl (Nat.le_refl _)) ?_)))
      refine OT.nil (.any (.op (fuel := 0) 13 kr rfl sl (.store_all hT rfl rfl rfl rfl pl rfl rfl rfl (.inl (Nat.le_refl _)) ?_)))
      refine OT.nil (.any (.done kr sl (.seq (.seq (.draw (([(b_7, blk [.bool true, .slice (if cc = 0 then ac else ac.map (·.add (0 * 8))) (i - 0) (cc - 0), .slice none 0 0, .slice none 0 0] 159 (0, 0))] :: [(b_8, blk [.bool true, .slice (if cc = i then ac else ac.map (·.add (i * 8))) (n.cells.length - i) (cc - i), .slice none 0 0, .slice none 0 0] 159 (0, 0))] :: [(b_2, blk [.bool n.leaf, .slice ac n.cells.length cc, .slice ak n.keys.length ck, .slice ai n.kids.length ci] 159 (0, 0))] :: hs)) mixed (.takes (fuel := 14) hT [2, 4, 5, 9, 11] kr kr rfl (.take (fuel := 13) hT 0 rfl rfl kr kr kr rfl (.load rfl (Ld.struct_all hT rfl hz rfl)) rfl ?_)))))))
      refine AT.take (fuel := 12) hT 1 rfl rfl kr kr kr rfl (.load rfl (Ld.struct_all hT rfl hz rfl)) rfl ?_
      refine AT.take (fuel := 11) hT 3 rfl rfl kr kr kr rfl (.load rfl (Ld.slc hT rfl hz rfl)) rfl ?_
      refine AT.take (fuel := 10) hT 10 rfl rfl kr kr kr rfl (.load rfl (Ld.slc hT rfl hz rfl)) rfl ?_
      refine AT.index (fuel := 9) hT 6 rfl kr kr kr rfl rfl rfl rfl ((hc.mono hh).there.there.there) (by rw [wrap_i64 (by omega) (by omega)]; omega) (by rw [wrap_i64 (by omega) (by omega), show ((i : Int) - 1).toNat = i - 1 by omega]; exact hxj) rfl (fun ad_29 hel_29 => ?_)
      obtain ⟨eb_29, eo_29, rfl, hfld_29⟩ := hel_29.at (P := Tryz.prog)
      refine AT.takes (fuel := 8) hT [7] kr kr rfl (.take (fuel := 7) hT 8 rfl rfl kr kr kr rfl (.load rfl (hfld_29 hT rfl rfl)) rfl (.index (fuel := 6) hT 12 rfl kr kr kr rfl rfl rfl rfl ((hc.mono hh).there.there.there) (by omega) (by rw [Int.toNat_natCast]; exact hxi) rfl (fun ad_35 hel_35 => ?_)))
      obtain ⟨eb_35, eo_35, rfl, hfld_35⟩ := hel_35.at (P := Tryz.prog)
      refine AT.takes (fuel := 5) hT [13] kr kr rfl (.take (fuel := 4) hT 14 rfl rfl kr kr kr rfl (.load rfl (hfld_35 hT rfl rfl)) rfl (.op (fuel := 3) 15 kr rfl sl (.call Tryz.call201 rfl rfl rfl rfl (ky_Mid (hks xi (List.mem_of_getElem? hxi))) ?_)))
      rintro v_38 hs_38 ⟨rfl, rfl⟩
      refine OT.nil (.any (.op (fuel := 2) 16 kr rfl sl (.store_all hT rfl rfl rfl rfl pl rfl rfl rfl (.inl (Nat.le_refl _)) ?_)))
      refine OT.nil (.any (.op (fuel := 1) 17 kr rfl sl (.store_all hT rfl rfl rfl rfl pl rfl rfl rfl (.inl (Nat.le_refl _)) ?_)))
      refine OT.nil (.any (.takes (fuel := 0) hT [18] kr kr rfl (.done kr sl (.seq (.ret (.of (rs := [.cell 4 159, .cell 5 159, .tmp 6]) [_, _, _] hs rfl (.cell rfl (Ld.struct_all hT rfl hz rfl) (.cell rfl (Ld.struct_all hT rfl hz rfl) (.tmp rfl .nil))) sl ?_))))))
      try dsimp only [one]
      exact ⟨_, _, rfl, rfl, ⟨_, _, _, rfl, row_to hc (by omega), Row.nil, Row.nil⟩, ⟨_, _, _, rfl, row_from hc (by omega), Row.nil, Row.nil⟩, rfl, rfl⟩
    ·
      refine ⟨_, rfl, ?_⟩
      refine OT.alloc Tryz.zeroValue159 rfl rfl (fun b_8 => ?_)
      refine OT.nil (.any (.op (fuel := 2) 10 kr rfl sl (.alloc Tryz.zeroValue159 rfl rfl (fun b_7 => ?_))))
      refine OT.nil (.any (.op (fuel := 1) 12 kr rfl sl (.store_all hT rfl rfl rfl rfl pl rfl rfl rfl (.inl (Nat.le_refl _)) ?_)))
      refine OT.nil (.any (.op (fuel := 0) 13 kr rfl sl (.store_all hT rfl rfl rfl rfl pl rfl rfl rfl (.inl (Nat.le_refl _)) ?_)))
      refine OT.nil (.any (.done kr sl (.seq (.seq (.draw (([(b_7, blk [.bool true, .slice (if cc = 0 then ac else ac.map (·.add (0 * 8))) (i - 0) (cc - 0), .slice none 0 0, .slice none 0 0] 159 (0, 0))] :: [(b_8, blk [.bool true, .slice (if cc = i then ac else ac.map (·.add (i * 8))) (n.cells.length - i) (cc - i), .slice none 0 0, .slice none 0 0] 159 (0, 0))] :: [(b_2, blk [.bool n.leaf, .slice ac n.cells.length cc, .slice ak n.keys.length ck, .slice ai n.kids.length ci] 159 (0, 0))] :: hs)) mixed (.takes (fuel := 14) hT [2, 4, 5, 9, 11] kr kr rfl (.take (fuel := 13) hT 0 rfl rfl kr kr kr rfl (.load rfl (Ld.struct_all hT rfl hz rfl)) rfl ?_)))))))
      refine AT.take (fuel := 12) hT 1 rfl rfl kr kr kr rfl (.load rfl (Ld.struct_all hT rfl hz rfl)) rfl ?_
      refine AT.take (fuel := 11) hT 3 rfl rfl kr kr kr rfl (.load rfl (Ld.slc hT rfl hz rfl)) rfl ?_
      refine AT.take (fuel := 10) hT 10 rfl rfl kr kr kr rfl (.load rfl (Ld.slc hT rfl hz rfl)) rfl ?_
      refine AT.index (fuel := 9) hT 6 rfl kr kr kr rfl rfl rfl rfl ((hc.mono hh).there.there.there) (by rw [wrap_i64 (by omega) (by omega)]; omega) (by rw [wrap_i64 (by omega) (by omega), show ((i : Int) - 1).toNat = i - 1 by omega]; exact hxj) rfl (fun ad_29 hel_29 => ?_)
      obtain ⟨eb_29, eo_29, rfl, hfld_29⟩ := hel_29.at (P := Tryz.prog)
      refine AT.takes (fuel := 8) hT [7] kr kr rfl (.take (fuel := 7) hT 8 rfl rfl kr kr kr rfl (.load rfl (hfld_29 hT rfl rfl)) rfl (.index (fuel := 6) hT 12 rfl kr kr kr rfl rfl rfl rfl ((hc.mono hh).there.there.there) (by omega) (by rw [Int.toNat_natCast]; exact hxi) rfl (fun ad_35 hel_35 => ?_)))
      obtain ⟨eb_35, eo_35, rfl, hfld_35⟩ := hel_35.at (P := Tryz.prog)
      refine AT.takes (fuel := 5) hT [13] kr kr rfl (.take (fuel := 4) hT 14 rfl rfl kr kr kr rfl (.load rfl (hfld_35 hT rfl rfl)) rfl (.op (fuel := 3) 15 kr rfl sl (.call Tryz.call201 rfl rfl rfl rfl (ky_Mid (hks xi (List.mem_of_getElem? hxi))) ?_)))
      rintro v_38 hs_38 ⟨rfl, rfl⟩
      refine OT.nil (.any (.op (fuel := 2) 16 kr rfl sl (.store_all hT rfl rfl rfl rfl pl rfl rfl rfl (.inl (Nat.le_refl _)) ?_)))
      refine OT.nil (.any (.op (fuel := 1) 17 kr rfl sl (.store_all hT rfl rfl rfl rfl pl rfl rfl rfl (.inl (Nat.le_refl _)) ?_)))
      refine OT.nil (.any (.takes (fuel := 0) hT [18] kr kr rfl (.done kr sl (.seq (.ret (.of (rs := [.cell 4 159, .cell 5 159, .tmp 6]) [_, _, _] hs rfl (.cell rfl (Ld.struct_all hT rfl hz rfl) (.cell rfl (Ld.struct_all hT rfl hz rfl) (.tmp rfl .nil))) sl ?_))))))
      try dsimp only [one]
      exact ⟨_, _, rfl, rfl, ⟨_, _, _, rfl, row_to hc (by omega), Row.nil, Row.nil⟩, ⟨_, _, _, rfl, row_from hc (by omega), Row.nil, Row.nil⟩, rfl, rfl⟩
  ·
    unfold countN at h2; rw [if_neg (by rw [c12]; simp)] at h2
    have h3 := h3 c12
    rw [halves_ways c12]
    obtain ⟨xj, hxj⟩ := nth (l := n.keys) (i := i - 1) (by omega)
    have hgd : n.keys.getD (i - 1) ⟨#[]⟩ = xj := by rw [List.getD_eq_getElem?_getD, hxj]; rfl
    rw [hgd]
    refine TT.skip (.seq (.seq (.draw (([(b_2, blk [.bool n.leaf, .slice ac n.cells.length cc, .slice ak n.keys.length ck, .slice ai n.kids.length ci] 159 (0, 0))] :: hs)) mixed (.takes (fuel := 14) hT [0, 2, 3, 5, 7, 10, 12, 14, 16] kr kr rfl (.take (fuel := 13) hT 1 rfl rfl kr kr kr rfl (.load rfl (Ld.slc hT rfl hz rfl)) rfl ?_)))))
    refine AT.take (fuel := 12) hT 6 rfl rfl kr kr kr rfl (.load rfl (Ld.slc hT rfl hz rfl)) rfl ?_
    refine AT.take (fuel := 11) hT 11 rfl rfl kr kr kr rfl (.load rfl (Ld.slc hT rfl hz rfl)) rfl ?_
    refine AT.take (fuel := 10) hT 15 rfl rfl kr kr kr rfl (.load rfl (Ld.slc hT rfl hz rfl)) rfl ?_
    refine AT.take (fuel := 9) hT 4 rfl rfl kr kr kr rfl (Fl.slice_val 0 (i - 1) hT rfl rfl rfl rfl (.inl ⟨rfl, rfl⟩) (.inr ⟨.i64, congrArg some (int_eq (by rw [wrap_i64 (by omega) (by omega)]; omega))⟩) (by omega) (by omega)) rfl (.take (fuel := 8) hT 8 rfl rfl kr kr kr rfl (Fl.slice_val 0 i hT rfl rfl rfl rfl (.inl ⟨rfl, rfl⟩) (.inr ⟨_, rfl⟩) (by omega) (by omega)) rfl (.take (fuel := 7) hT 9 rfl rfl kr kr kr rfl (fl_build (cs := [.bool false, .slice none 0 0, .slice (if ck = 0 then ak else ak.map (·.add (0 * 1))) (i - 1 - 0) (ck - 0), .slice (if ci = 0 then ai else ai.map (·.add (0 * 1))) (i - 0) (ci - 0)]) hT rfl Tryz.zeroValue159 rfl rfl) rfl (.take (fuel := 6) hT 13 rfl rfl kr kr kr rfl (Fl.slice_val i n.keys.length hT rfl rfl rfl rfl (.inr ⟨_, rfl⟩) (.inl ⟨rfl, rfl⟩) (by omega) (by omega)) rfl (.take (fuel := 5) hT 17 rfl rfl kr kr kr rfl (Fl.slice_val i n.kids.length hT rfl rfl rfl rfl (.inr ⟨_, rfl⟩) (.inl ⟨rfl, rfl⟩) (by omega) (by omega)) rfl (.take (fuel := 4) hT 18 rfl rfl kr kr kr rfl (fl_build (cs := [.bool false, .slice none 0 0, .slice (if ck = i then ak else ak.map (·.add (i * 1))) (n.keys.length - i) (ck - i), .slice (if ci = i then ai else ai.map (·.add (i * 1))) (n.kids.length - i) (ci - i)]) hT rfl Tryz.zeroValue159 rfl rfl) rfl (.all (fuel := 3) [19, 20] kr (by decide) sl ?_))))))
    intro i hi
    simp only [List.mem_cons, List.not_mem_nil, or_false] at hi
    rcases hi with rfl | rfl
    ·
      refine ⟨_, rfl, ?_⟩
      refine OT.alloc Tryz.zeroValue159 rfl rfl (fun b_9 => ?_)
      refine OT.nil (.any (.op (fuel := 2) 20 kr rfl sl (.alloc Tryz.zeroValue159 rfl rfl (fun b_10 => ?_))))
      refine OT.nil (.any (.op (fuel := 1) 21 kr rfl sl (.store_all hT rfl rfl rfl rfl pl rfl rfl rfl (.inl (Nat.le_refl _)) ?_)))
      refine OT.nil (.any (.op (fuel := 0) 22 kr rfl sl (.store_all hT rfl rfl rfl rfl pl rfl rfl rfl (.inl (Nat.le_refl _)) ?_)))
      refine OT.nil (.any (.done kr sl (.seq (.seq (.draw (([(b_9, blk [.bool false, .slice none 0 0, .slice (if ck = 0 then ak else ak.map (·.add (0 * 1))) (i - 1 - 0) (ck - 0), .slice (if ci = 0 then ai else ai.map (·.add (0 * 1))) (i - 0) (ci - 0)] 159 (0, 0))] :: [(b_10, blk [.bool false, .slice none 0 0, .slice (if ck = i then ak else ak.map (·.add (i * 1))) (n.keys.length - i) (ck - i), .slice (if ci = i then ai else ai.map (·.add (i * 1))) (n.kids.length - i) (ci - i)] 159 (0, 0))] :: [(b_2, blk [.bool n.leaf, .slice ac n.cells.length cc, .slice ak n.keys.length ck, .slice ai n.kids.length ci] 159 (0, 0))] :: hs)) mixed (.takes (fuel := 8) hT [2, 4, 5] kr kr rfl (.take (fuel := 7) hT 0 rfl rfl kr kr kr rfl (.load rfl (Ld.struct_all hT rfl hz rfl)) rfl ?_)))))))
      refine AT.take (fuel := 6) hT 1 rfl rfl kr kr kr rfl (.load rfl (Ld.struct_all hT rfl hz rfl)) rfl ?_
      refine AT.take (fuel := 5) hT 3 rfl rfl kr kr kr rfl (.load rfl (Ld.slc hT rfl hz rfl)) rfl ?_
      refine AT.index (fuel := 4) hT 6 rfl kr kr kr rfl rfl rfl rfl ((hk.mono hh).there.there.there) (by rw [wrap_i64 (by omega) (by omega)]; omega) (by rw [wrap_i64 (by omega) (by omega), show ((i : Int) - 1).toNat = i - 1 by omega]; exact hxj) rfl (fun ad_64 hel_64 => ?_)
      refine AT.take (fuel := 3) hT 7 rfl rfl kr kr kr rfl (.load rfl (hel_64.ld_one hT rfl rfl)) rfl (.op (fuel := 2) 8 kr rfl sl (.store_all hT rfl rfl rfl rfl pl rfl rfl rfl (.inl (Nat.le_refl _)) ?_))
      refine OT.nil (.any (.op (fuel := 1) 9 kr rfl sl (.store_all hT rfl rfl rfl rfl pl rfl rfl rfl (.inl (Nat.le_refl _)) ?_)))
      refine OT.nil (.any (.takes (fuel := 0) hT [10] kr kr rfl (.done kr sl (.seq (.ret (.of (rs := [.cell 4 159, .cell 5 159, .tmp 6]) [_, _, _] hs rfl (.cell rfl (Ld.struct_all hT rfl hz rfl) (.cell rfl (Ld.struct_all hT rfl hz rfl) (.tmp rfl .nil))) sl ?_))))))
      try dsimp only [one]
      exact ⟨_, _, rfl, rfl, ⟨_, _, _, rfl, Row.nil, row_to hk (by omega), row_to hi (by omega)⟩, ⟨_, _, _, rfl, Row.nil, row_from hk (by omega), row_from hi (by omega)⟩, rfl, rfl⟩
    ·
      refine ⟨_, rfl, ?_⟩
      refine OT.alloc Tryz.zeroValue159 rfl rfl (fun b_10 => ?_)
      refine OT.nil (.any (.op (fuel := 2) 19 kr rfl sl (.alloc Tryz.zeroValue159 rfl rfl (fun b_9 => ?_))))
      refine OT.nil (.any (.op (fuel := 1) 21 kr rfl sl (.store_all hT rfl rfl rfl rfl pl rfl rfl rfl (.inl (Nat.le_refl _)) ?_)))
      refine OT.nil (.any (.op (fuel := 0) 22 kr rfl sl (.store_all hT rfl rfl rfl rfl pl rfl rfl rfl (.inl (Nat.le_refl _)) ?_)))
      refine OT.nil (.any (.done kr sl (.seq (.seq (.draw (([(b_9, blk [.bool false, .slice none 0 0, .slice (if ck = 0 then ak else ak.map (·.add (0 * 1))) (i - 1 - 0) (ck - 0), .slice (if ci = 0 then ai else ai.map (·.add (0 * 1))) (i - 0) (ci - 0)] 159 (0, 0))] :: [(b_10, blk [.bool false, .slice none 0 0, .slice (if ck = i then ak else ak.map (·.add (i * 1))) (n.keys.length - i) (ck - i), .slice (if ci = i then ai else ai.map (·.add (i * 1))) (n.kids.length - i) (ci - i)] 159 (0, 0))] :: [(b_2, blk [.bool n.leaf, .slice ac n.cells.length cc, .slice ak n.keys.length ck, .slice ai n.kids.length ci] 159 (0, 0))] :: hs)) mixed (.takes (fuel := 8) hT [2, 4, 5] kr kr rfl (.take (fuel := 7) hT 0 rfl rfl kr kr kr rfl (.load rfl (Ld.struct_all hT rfl hz rfl)) rfl ?_)))))))
      refine AT.take (fuel := 6) hT 1 rfl rfl kr kr kr rfl (.load rfl (Ld.struct_all hT rfl hz rfl)) rfl ?_
      refine AT.take (fuel := 5) hT 3 rfl rfl kr kr kr rfl (.load rfl (Ld.slc hT rfl hz rfl)) rfl ?_
      refine AT.index (fuel := 4) hT 6 rfl kr kr kr rfl rfl rfl rfl ((hk.mono hh).there.there.there) (by rw [wrap_i64 (by omega) (by omega)]; omega) (by rw [wrap_i64 (by omega) (by omega), show ((i : Int) - 1).toNat = i - 1 by omega]; exact hxj) rfl (fun ad_64 hel_64 => ?_)
      refine AT.take (fuel := 3) hT 7 rfl rfl kr kr kr rfl (.load rfl (hel_64.ld_one hT rfl rfl)) rfl (.op (fuel := 2) 8 kr rfl sl (.store_all hT rfl rfl rfl rfl pl rfl rfl rfl (.inl (Nat.le_refl _)) ?_))
      refine OT.nil (.any (.op (fuel := 1) 9 kr rfl sl (.store_all hT rfl rfl rfl rfl pl rfl rfl rfl (.inl (Nat.le_refl _)) ?_)))
      refine OT.nil (.any (.takes (fuel := 0) hT [10] kr kr rfl (.done kr sl (.seq (.ret (.of (rs := [.cell 4 159, .cell 5 159, .tmp 6]) [_, _, _] hs rfl (.cell rfl (Ld.struct_all hT rfl hz rfl) (.cell rfl (Ld.struct_all hT rfl hz rfl) (.tmp rfl .nil))) sl ?_))))))
      try dsimp only [one]
      exact ⟨_, _, rfl, rfl, ⟨_, _, _, rfl, Row.nil, row_to hk (by omega), row_to hi (by omega)⟩, ⟨_, _, _, rfl, Row.nil, row_from hk (by omega), row_from hi (by omega)⟩, rfl, rfl⟩

set_option maxHeartbeats 4000000 in
set_option maxRecDepth 100000 in
theorem tr_put {b : Nat} {P : Value} {I : Chunk → Prop} {E : Int → Chunk → Prop} {Qb : Pages} (hP : PgsA Tryz.prog 5 P I E (pgOf Qb)) (hQ : Long Qb) {Qt : Pages} {H : Chunk} {r : List Chunk} (hH : ShAt 110 b P I Qb Qt H) {cs : List Value} {n : Nd} (h : NdAt r cs n) (hn : NdFew n) (h1c : ones cs = true) {no : Int} (hno : mayPage no) : FunP Tryz.prog 146 [.pointer (some ⟨b, 0, none⟩), .int .i64 no, .agg ⟨cs⟩] (H :: r) (fun v' hs' => ∃ H' x Q', hs' = H' :: r ∧ v' = .agg ⟨[.string x.1, .int .i64 x.2]⟩ ∧ putT Qt no n = .ok (x, Q') ∧ ShAt 110 b P I Qb Q' H') (Broke (fun H => ∃ Q', ShAt 110 b P I Qb Q' H) (ShBad 110 b P E) (fun e => putT Qt no n = .error e) r) := by
  refine FunP.enter 92 Tryz.func146 rfl Tryz.ntmps146 rfl ?_
  have h4 := h.four
  have hcf := count_few hn
  have hlc := hn.cells
  have hlk := hn.keys
  have hli := hn.kids
  obtain ⟨vc, vk, vi, hcs, hcR, hkR, hiR⟩ := h.is
  obtain ⟨ac, cc, e1⟩ := hcR.len
  obtain ⟨ak, ck, e2⟩ := hkR.len
  obtain ⟨ai, ci, e3⟩ := hiR.len
  subst e1 e2 e3
  refine TT.seq (.region (.box rfl rfl rfl (fun b_5 => ?_)))
  refine OT.alloc Tryz.zeroValue171 rfl rfl (fun b_6 => ?_)
  refine OT.nil (.seq (.seq (.seq (.region (.load rfl rfl (Ld.struct_all hT rfl hz h4) rfl ?_)))))
  refine OT.call Tryz.call176 rfl rfl rfl rfl (tr_fits (h.mono fun _ _ h => .there (.there (.there h))) hlc (by omega) (by omega) hn.fl) ?_
  rintro v_20 hs_20 ⟨rfl, rfl⟩
  refine OT.nil (.seq (.cond rfl (fun c20 => ?_) (fun c20 => ?_)))
  ·
    have c20 : Fits n := of_decide_eq_true c20
    refine TT.seq (.region (.pures hT 2 rfl (.load rfl rfl (Ld.struct_all hT rfl hz h4) rfl ?_)))
    refine OT.callP Tryz.call104 rfl rfl rfl rfl (FunP.pull pl (tr_set hP hQ hH (h.mono fun _ _ h => .there (.there h)) hlc (by omega) (by omega) hn.fl hno)) (fun _ _ h => by
      obtain ⟨e, H', rfl, he, rfl, ⟨h1, h2⟩ | h2⟩ := h
      · exact PP.of ⟨e, H', rfl, he, rfl, .inl ⟨(by rw [set_fits c20] at h1; cases h1), h2⟩⟩ sl
      · exact PP.of ⟨e, H', rfl, he, rfl, .inr h2⟩ sl) ?_
    rintro v_24 hs_24 ⟨H2, Q2, rfl, rfl, hs2, hI2⟩
    rw [set_fits c20] at hs2
    injection hs2 with hs2
    subst hs2
    refine OT.nil (.seq (.seq (.region (.build hT rfl Tryz.zeroValue171 rfl rfl rfl rfl (.store_all hT rfl rfl rfl rfl pl rfl rfl rfl (.inl (Nat.le_refl _)) ?_)))))
    refine OT.nil (.seq (.ret (.ofP (rs := [.cell 6 171]) [_] (H2 :: r) rfl (.cell rfl (Ld.struct_all hT rfl hz rfl) .nil) sl ?_)))
    try dsimp only [one]
    exact ⟨H2, noPart, _, rfl, rfl, putT_one c20, hI2⟩
  ·
    have c20 : ¬ Fits n := of_decide_eq_false c20
    refine TT.skip (.seq (.seq (.region (.pures hT 1 rfl (.load rfl rfl (Ld.slc hT rfl hz (by rw [hcs]; rfl)) rfl ?_)))))
    refine OT.pures hT 2 rfl (.nil (.seq (.cut (ι := Unit) (fun j => True) (fun j => [(0, .pointer (some ⟨b, 0, none⟩)), (1, .int .i64 no), (5, .pointer (some ⟨b_5, 0, none⟩)), (6, .pointer (some ⟨b_6, 0, none⟩)), (7, .int .i64 (countN n : Nat))]) (fun j => [(b_6, blk [.string ⟨#[]⟩, .int .i64 0] 171 (0, 0))] :: [(b_5, blk cs 159 (0, 0))] :: H :: r) ?_ ?_)))
    ·
      refine TT.seq (.region (.pures hT 1 rfl (.load rfl rfl (Ld.one hT rfl hz (by rw [hcs]; rfl)) rfl ?_)))
      refine OT.pures hT 1 rfl (.nil (.seq (.cond rfl (fun c31 => ?_) (fun c31 => ?_))))
      ·
        refine TT.region (.pures hT 1 rfl (.load rfl rfl (Ld.slc hT rfl hz (by rw [hcs]; rfl)) rfl ?_))
        refine OT.pures hT 2 rfl (.nil (.cut (()) ?_ (SubR.cons rfl (SubR.cons rfl (SubR.cons rfl (SubR.cons rfl (SubR.cons' rfl (by (try dsimp only); exact (int_eq (by unfold countN; rw [if_neg (by simpa using c31)]))) (SubR.nil _)))))) sl))
        · trivial
      ·
        refine TT.skip (.cut (()) ?_ (SubR.cons rfl (SubR.cons rfl (SubR.cons rfl (SubR.cons rfl (SubR.cons' rfl (by (try dsimp only); exact (int_eq (by unfold countN; rw [if_pos (by simpa using c31)]))) (SubR.nil _)))))) sl)
        · trivial
    ·
      rintro _ _
      show TT _ _ _ [(0, .pointer (some ⟨b, 0, none⟩)), (1, .int .i64 no), (5, .pointer (some ⟨b_5, 0, none⟩)), (6, .pointer (some ⟨b_6, 0, none⟩)), (7, .int .i64 (countN n : Nat))] ([(b_6, blk [.string ⟨#[]⟩, .int .i64 0] 171 (0, 0))] :: [(b_5, blk cs 159 (0, 0))] :: H :: r)
      refine TT.seq (.region (.pures hT 2 rfl (.nil (.seq (.seq (.seq (.region (.pures hT 1 rfl (.nil (.seq (.block (.loop (ι := Nat × Nat × Nat) (fun j => 1 ≤ (j.1) ∧ ((j.1) = 1 ∨ (j.1) ≤ countN n) ∧ bestTo n (j.1) = ((j.2.1), (j.2.2))) (fun j => countN n - (j.1)) (fun j => [(0, .pointer (some ⟨b, 0, none⟩)), (1, .int .i64 no), (5, .pointer (some ⟨b_5, 0, none⟩)), (6, .pointer (some ⟨b_6, 0, none⟩)), (7, .int .i64 (countN n : Nat)), (8, .int .i64 ((j.2.1) : Nat)), (9, .int .i64 ((j.2.2) : Nat)), (10, .int .i64 ((j.1) : Nat))]) (fun j => [(b_6, blk [.string ⟨#[]⟩, .int .i64 0] 171 (0, 0))] :: [(b_5, blk cs 159 (0, 0))] :: H :: r) (1, 0, 0) ?_ (SubR.cons rfl (SubR.cons rfl (SubR.cons rfl (SubR.cons rfl (SubR.cons rfl (SubR.cons rfl (SubR.cons rfl (SubR.cons rfl (SubR.nil _))))))))) sl ?_))))))))))))
      · dsimp only
        exact ⟨by omega, .inl rfl, rfl⟩
      rintro ⟨i, p, q⟩ hI
      dsimp only at hI
      obtain ⟨hi1, hi2, hbt⟩ := hI
      show TT _ _ _ [(0, .pointer (some ⟨b, 0, none⟩)), (1, .int .i64 no), (5, .pointer (some ⟨b_5, 0, none⟩)), (6, .pointer (some ⟨b_6, 0, none⟩)), (7, .int .i64 (countN n : Nat)), (8, .int .i64 (p : Nat)), (9, .int .i64 (q : Nat)), (10, .int .i64 (i : Nat))] ([(b_6, blk [.string ⟨#[]⟩, .int .i64 0] 171 (0, 0))] :: [(b_5, blk cs 159 (0, 0))] :: H :: r)
      refine TT.seq (.seq (.region (.pures hT 3 rfl (.nil (.seq (.cond rfl (fun c37 => ?_) (fun c37 => ?_)))))))
      ·
        have c37 := of_decide_eq_true c37
        have hlf := hn.l i
        have hrf := hn.r i
        refine TT.skip (.seq (.seq (.block (.seq (.region (.load rfl rfl (Ld.struct_all hT rfl hz h4) rfl ?_))))))
        refine OT.pures hT 1 rfl (.call Tryz.call177 rfl rfl rfl rfl (tr_halves h (fun _ _ h => .there (.there (.there h))) hlc hli hi1 (by omega) hn.ways hn.key) ?_)
        rintro v_43 hs_43 ⟨cl, cr, rfl, rfl, hNl, hNr, hol, hor⟩
        refine OT.pures hT 4 rfl (.alloc Tryz.zeroValue159 rfl rfl (fun b_11 => ?_))
        refine OT.alloc Tryz.zeroValue159 rfl rfl (fun b_12 => ?_)
        refine OT.store_all hT rfl rfl rfl rfl pl (by exact hNl.four) rfl hol (.inl (Nat.le_refl _)) ?_
        refine OT.store_all hT rfl rfl rfl rfl pl (by exact hNr.four) rfl hor (.inl (Nat.le_refl _)) ?_
        refine OT.pures hT 1 rfl (.nil (.seq (.seq (.draw (([(b_12, blk cr 159 (0, 0))] :: [(b_11, blk cl 159 (0, 0))] :: r)) mixed (.take (fuel := 5) hT 0 rfl rfl kr kr kr rfl (.load rfl (Ld.struct_all hT rfl hz hNl.four)) rfl ?_)))))
        refine AT.take (fuel := 4) hT 2 rfl rfl kr kr kr rfl (.load rfl (Ld.struct_all hT rfl hz hNr.four)) rfl ?_
        refine AT.op (fuel := 3) 1 kr rfl sl (.call Tryz.call178 rfl rfl rfl rfl (nd_Size (hNl.mono fun _ _ h => .there (.there (.there (.there (.there h))))) hlf.1 hlf.2.1 hlf.2.2.1 hlf.2.2.2) ?_)
        rintro v_48 hs_48 ⟨KS, rfl, rfl⟩
        refine OT.nil (.any (.op (fuel := 2) 3 kr rfl sl (.call Tryz.call178 rfl rfl rfl rfl (nd_Size (hNr.mono fun _ _ h => .there (.there (.there (.there (.there (.there h)))))) hrf.1 hrf.2.1 hrf.2.2.1 hrf.2.2.2) ?_)))
        rintro v_50 hs_50 ⟨KS2, rfl, rfl⟩
        refine OT.nil (.any (.takes (fuel := 0) hT [4, 5] kr kr rfl (.done kr sl (.seq (.seq (.region (.load rfl rfl (Ld.struct_all hT rfl hz hNl.four) rfl ?_)))))))
        refine OT.reg 14 rfl (v := .int .i64 ((sizeN n i : Nat) : Int)) (int_eq (by unfold sizeN; omega)) ?_
        refine OT.call Tryz.call176 rfl rfl rfl rfl (tr_fits (hNl.mono fun _ _ h => (.there (.there (.there (.there (.there (.there (.there h)))))))) hlf.1 hlf.2.1 hlf.2.2.1 hlf.2.2.2) ?_
        rintro v_53 hs_53 ⟨rfl, rfl⟩
        refine OT.pures hT 1 rfl (.split 54 rfl (fun g54 => ?_) (fun g54 => ?_))
        ·
          have g54 : Fits (halvesN n i).1 := of_decide_eq_true g54
          refine OT.load rfl rfl (Ld.struct_all hT rfl hz hNr.four) rfl ?_
          refine OT.call Tryz.call176 rfl rfl rfl rfl (tr_fits (hNr.mono fun _ _ h => (.there (.there (.there (.there (.there (.there (.there h)))))))) hrf.1 hrf.2.1 hrf.2.2.1 hrf.2.2.2) ?_
          rintro v_56 hs_56 ⟨rfl, rfl⟩
          refine OT.pures hT 2 rfl (.split 58 rfl (fun g58 => ?_) (fun g58 => ?_))
          ·
            have g58 : Fits (halvesN n i).2.1 := of_decide_eq_true g58
            refine OT.pures hT 3 rfl (.split 61 rfl (fun g61 => ?_) (fun g61 => ?_))
            ·
              have g61 : p = 0 := by simpa using g61
              refine OT.pures hT 5 rfl (.nil (.seq (.cond_true rfl (.region (.pures hT 4 rfl (.nil (.blk (.seq (.region (.pures hT 3 rfl (.nil (.loop (i + 1, i, sizeN n i) ?_ ?_ (SubR.cons rfl (SubR.cons rfl (SubR.cons rfl (SubR.cons rfl (SubR.cons rfl (SubR.cons rfl (SubR.cons rfl (SubR.cons' rfl (by (try dsimp only); exact (int_eq (by rw [wrap_i64 (by omega) (by omega)]; omega))) (SubR.nil _))))))))) sl))))))))))))
              · dsimp only
                refine ⟨by omega, .inr (by omega), ?_⟩
                rw [bestTo_succ n hi1, hbt]
                exact if_pos ⟨g54, g58, .inl g61⟩
              · dsimp only
                omega
            ·
              have g61 : ¬ p = 0 := by simpa using g61
              refine OT.pures hT 5 rfl (.nil (.seq (.cond rfl (fun c66 => ?_) (fun c66 => ?_))))
              ·
                have c66 := of_decide_eq_true c66
                refine TT.region (.pures hT 4 rfl (.nil (.blk (.seq (.region (.pures hT 3 rfl (.nil (.loop (i + 1, i, sizeN n i) ?_ ?_ (SubR.cons rfl (SubR.cons rfl (SubR.cons rfl (SubR.cons rfl (SubR.cons rfl (SubR.cons rfl (SubR.cons rfl (SubR.cons' rfl (by (try dsimp only); exact (int_eq (by rw [wrap_i64 (by omega) (by omega)]; omega))) (SubR.nil _))))))))) sl))))))))
                · dsimp only
                  refine ⟨by omega, .inr (by omega), ?_⟩
                  rw [bestTo_succ n hi1, hbt]
                  exact if_pos ⟨g54, g58, .inr (by show sizeN n i < q; have : ((sizeN n i : Nat) : Int) < (q : Nat) := c66; omega)⟩
                · dsimp only
                  omega
              ·
                have c66 := of_decide_eq_false c66
                refine TT.skip (.blk (.seq (.region (.pures hT 3 rfl (.nil (.loop (i + 1, p, q) ?_ ?_ (SubR.cons rfl (SubR.cons rfl (SubR.cons rfl (SubR.cons rfl (SubR.cons rfl (SubR.cons rfl (SubR.cons rfl (SubR.cons' rfl (by (try dsimp only); exact (int_eq (by rw [wrap_i64 (by omega) (by omega)]; omega))) (SubR.nil _))))))))) sl))))))
                · dsimp only
                  refine ⟨by omega, .inr (by omega), ?_⟩
                  rw [bestTo_succ n hi1, hbt]
                  exact if_neg (fun h => h.2.2.elim g61 (fun h => c66 (by show ((sizeN n i : Nat) : Int) < (q : Nat); omega)))
                · dsimp only
                  omega
          ·
            have g58 : ¬ Fits (halvesN n i).2.1 := of_decide_eq_false g58
            refine OT.pures hT 8 rfl (.nil (.seq (.cond_false rfl (.skip (.blk (.seq (.region (.pures hT 3 rfl (.nil (.loop (i + 1, p, q) ?_ ?_ (SubR.cons rfl (SubR.cons rfl (SubR.cons rfl (SubR.cons rfl (SubR.cons rfl (SubR.cons rfl (SubR.cons rfl (SubR.cons' rfl (by (try dsimp only); exact (int_eq (by rw [wrap_i64 (by omega) (by omega)]; omega))) (SubR.nil _))))))))) sl))))))))))
            · dsimp only
              refine ⟨by omega, .inr (by omega), ?_⟩
              rw [bestTo_succ n hi1, hbt]
              exact if_neg (fun h => g58 h.2.1)
            · dsimp only
              omega
        ·
          have g54 : ¬ Fits (halvesN n i).1 := of_decide_eq_false g54
          refine OT.pures hT 12 rfl (.nil (.seq (.cond_false rfl (.skip (.blk (.seq (.region (.pures hT 3 rfl (.nil (.loop (i + 1, p, q) ?_ ?_ (SubR.cons rfl (SubR.cons rfl (SubR.cons rfl (SubR.cons rfl (SubR.cons rfl (SubR.cons rfl (SubR.cons rfl (SubR.cons' rfl (by (try dsimp only); exact (int_eq (by rw [wrap_i64 (by omega) (by omega)]; omega))) (SubR.nil _))))))))) sl))))))))))
          · dsimp only
            refine ⟨by omega, .inr (by omega), ?_⟩
            rw [bestTo_succ n hi1, hbt]
            exact if_neg (fun h => g54 h.1)
          · dsimp only
            omega
      ·
        have c37 := of_decide_eq_false c37
        have hbn : bestN n = p := by
          unfold bestN
          rcases hi2 with rfl | hi2
          · have h1 : (bestTo n 1).1 = 0 := by rcases bestTo_le n 1 with h | ⟨h1, h2, _⟩
                                               · exact h
                                               · omega
            have h2 : (bestTo n (countN n)).1 = 0 := by rcases bestTo_le n (countN n) with h | ⟨h1, h2, _⟩
                                                        · exact h
                                                        · omega
            rw [h2]; rw [hbt] at h1; exact h1.symm
          · rw [show countN n = i by omega, hbt]
        refine TT.exit (.seq (.loop (.here (.seq (.seq (.region (.pures hT 2 rfl ?_)))))))
        refine OT.callP Tryz.call118 rfl rfl rfl rfl (guard_CheckB) (fun _ _ h => by
          obtain ⟨hb, rfl, rfl⟩ := h
          have hb : p = 0 := by have := of_decide_eq_false hb; omega
          exact PP.of ⟨8, H, by rw [brk_same (by decide)], by decide, rfl, .inl ⟨putT_bad c20 (by rw [hbn]; exact hb), Qt, hH⟩⟩ sl) ?_
        rintro v_71 hs_71 ⟨hb, rfl, rfl⟩
        have hb : p ≠ 0 := by have := of_decide_eq_true hb; omega
        have hbp : 1 ≤ p ∧ p < countN n ∧ Fits (halvesN n p).1 ∧ Fits (halvesN n p).2.1 := by
          have hx : (bestTo n (countN n)).1 = p := hbn
          rcases bestTo_le n (countN n) with h | h
          · rw [hx] at h; exact absurd h hb
          · rw [hx] at h; exact h
        obtain ⟨hp1, hp2, hpl, hpr⟩ := hbp
        have hlf := hn.l p
        have hrf := hn.r p
        refine OT.nil (.seq (.seq (.region (.load rfl rfl (Ld.struct_all hT rfl hz h4) rfl ?_))))
        refine OT.pures hT 1 rfl (.call Tryz.call177 rfl rfl rfl rfl (tr_halves (i := p) h (fun _ _ h => .there (.there (.there h))) hlc hli hp1 hp2 hn.ways hn.key) ?_)
        rintro v_75 hs_75 ⟨cl, cr, rfl, rfl, hNl, hNr, hol, hor⟩
        refine OT.pures hT 4 rfl (.alloc Tryz.zeroValue159 rfl rfl (fun b_15 => ?_))
        refine OT.alloc Tryz.zeroValue159 rfl rfl (fun b_16 => ?_)
        refine OT.store_all hT rfl rfl rfl rfl pl (by exact hNl.four) rfl hol (.inl (Nat.le_refl _)) ?_
        refine OT.store_all hT rfl rfl rfl rfl pl (by exact hNr.four) rfl hor (.inl (Nat.le_refl _)) ?_
        refine OT.pures hT 1 rfl (.nil (.seq (.seq (.region (.pures hT 1 rfl ?_)))))
        refine OT.callP Tryz.call102 rfl rfl rfl rfl (FunP.pull pl (tr_take hP hQ hH)) (fun _ _ h => by
          obtain ⟨e, H', rfl, he, rfl, ⟨h1, h2⟩ | h2⟩ := h
          · exact PP.of ⟨e, H', rfl, he, rfl, .inl ⟨putT_full c20 (by rw [hbn]; exact hb) h1, h2⟩⟩ sl
          · exact PP.of ⟨e, H', rfl, he, rfl, .inr h2⟩ sl) ?_
        rintro v_80 hs_80 ⟨H2, to, Q1, rfl, rfl, hs2, hI2⟩
        have hto := takeT_is hs2
        refine OT.pures hT 1 rfl (.nil (.seq (.seq (.region (.pures hT 2 rfl (.load rfl rfl (Ld.struct_all hT rfl hz hNl.four) rfl ?_))))))
        refine OT.callP Tryz.call104 rfl rfl rfl rfl (FunP.pull pl (tr_set hP hQ hI2 (hNl.mono fun _ _ h => (.there (.there (.there (.there h))))) hlf.1 hlf.2.1 hlf.2.2.1 hlf.2.2.2 hno)) (fun _ _ h => by
          obtain ⟨e, H', rfl, he, rfl, ⟨h1, h2⟩ | h2⟩ := h
          · exact PP.of ⟨e, H', rfl, he, rfl, .inl ⟨(by rw [set_fits hpl] at h1; cases h1), h2⟩⟩ sl
          · exact PP.of ⟨e, H', rfl, he, rfl, .inr h2⟩ sl) ?_
        rintro v_84 hs_84 ⟨H3, Q2, rfl, rfl, hs3, hI3⟩
        rw [set_fits hpl] at hs3
        injection hs3 with hs3
        subst hs3
        refine OT.nil (.seq (.seq (.region (.pures hT 2 rfl (.load rfl rfl (Ld.struct_all hT rfl hz hNr.four) rfl ?_)))))
        refine OT.callP Tryz.call104 rfl rfl rfl rfl (FunP.pull pl (tr_set hP hQ hI3 (hNr.mono fun _ _ h => (.there (.there (.there (.there h))))) hrf.1 hrf.2.1 hrf.2.2.1 hrf.2.2.2 (by unfold mayPage; omega))) (fun _ _ h => by
          obtain ⟨e, H', rfl, he, rfl, ⟨h1, h2⟩ | h2⟩ := h
          · exact PP.of ⟨e, H', rfl, he, rfl, .inl ⟨(by rw [set_fits hpr] at h1; cases h1), h2⟩⟩ sl
          · exact PP.of ⟨e, H', rfl, he, rfl, .inr h2⟩ sl) ?_
        rintro v_88 hs_88 ⟨H4, Q3, rfl, rfl, hs4, hI4⟩
        rw [set_fits hpr] at hs4
        injection hs4 with hs4
        subst hs4
        refine OT.nil (.seq (.seq (.region (.pures hT 2 rfl (.build hT rfl Tryz.zeroValue171 rfl rfl rfl rfl (.store_all hT rfl rfl rfl rfl pl rfl rfl rfl (.inl (Nat.le_refl _)) ?_))))))
        refine OT.nil (.seq (.ret (.ofP (rs := [.cell 6 171]) [_] (H4 :: r) rfl (.cell rfl (Ld.struct_all hT rfl hz rfl) .nil) sl ?_)))
        try dsimp only [one]
        subst hbn
        exact ⟨H4, ((halvesN n (bestN n)).2.2, to), _, rfl, rfl, putT_two c20 hb hs2, hI4⟩

end Go.Proofs.YtihpkgmfkbkffaaGreat.Sx
end

section
namespace Go.Proofs.YtihpkgmfkbkffaaGreat.Sx
open Go Go.Sx Go.Pl
variable [Outer]

theorem tr_Kid {cs : List Value} {n : Nd} {k : ByteArray} {hs : List Chunk} (h : NdAt hs cs n) (hn : NdIs n) (hl : n.leaf = false) : Fun Tryz.prog 97 [.agg ⟨cs⟩, .string k] hs (fun v' hs' => v' = .int .i64 (kidI n.keys k : Nat) ∧ hs = hs') := by
  have h1 := hn.cells; have h2 := hn.keys; have h3 := hn.kids
  refine (nd_Kid h (by omega) (by omega) (by omega)).mono ?_
  rintro v' hs' ⟨⟨h | h, _⟩ | ⟨_, _, i, hst, rfl⟩, rfl⟩
  · rw [hl] at h; cases h
  · exact absurd hn.may h
  · refine ⟨int_eq ?_, rfl⟩
    unfold kidI
    rw [hst.is]
    split <;> rfl

set_option maxHeartbeats 1000000 in
set_option maxRecDepth 100000 in
theorem tr_insert0 {b : Nat} {P : Value} {I : Chunk → Prop} {E : Int → Chunk → Prop} {Qb : Pages} (hP : PgsA Tryz.prog 5 P I E (pgOf Qb)) (hQ : Long Qb) {x : Cell} (hx : mayCell x = true) (hxf : x.val.f < 2 ^ 64 ∧ x.new.f < 2 ^ 64) {Qt : Pages} {H : Chunk} {r : List Chunk} {no : Int} (hH : ShAt 110 b P I Qb Qt H) : FunP Tryz.prog 105 [.pointer (some ⟨b, 0, none⟩), .int .i64 no, .agg ⟨encCell x⟩, .int .i64 32] (H :: r) (fun v' hs' => ∃ H' y Q', hs' = H' :: r ∧ v' = .agg ⟨[.string y.1, .int .i64 y.2]⟩ ∧ insertT x 0 Qt no = .ok (y, Q') ∧ ShAt 110 b P I Qb Q' H') (Broke (fun H => ∃ Q', ShAt 110 b P I Qb Q' H) (ShBad 110 b P E) (fun e => insertT x 0 Qt no = .error e) r) := by
  refine FunP.enter 86 Tryz.func105 rfl Tryz.ntmps105 rfl ?_
  refine TT.seq (.region (.box rfl rfl rfl (fun b_6 => ?_)))
  refine OT.alloc Tryz.zeroValue171 rfl rfl (fun b_8 => ?_)
  refine OT.nil (.seq (.seq (.region (.pures hT 2 rfl ?_))))
  refine OT.callP Tryz.call118 rfl rfl rfl rfl (guard_Fails) (fun _ _ h => by
    obtain ⟨rfl, rfl⟩ := h
    exact PP.of ⟨8, H, by rw [brk_same (by decide)], by decide, rfl, .inl ⟨rfl, Qt, hH⟩⟩ sl) ?_
  rintro v_16 hs_16 ⟨hb, _⟩
  exact hb.elim

set_option maxHeartbeats 4000000 in
set_option maxRecDepth 100000 in
theorem tr_insertS {b : Nat} {P : Value} {I : Chunk → Prop} {E : Int → Chunk → Prop} {Qb : Pages} (hP : PgsA Tryz.prog 5 P I E (pgOf Qb)) (hQ : Long Qb) {x : Cell} (hx : mayCell x = true) (hxf : x.val.f < 2 ^ 64 ∧ x.new.f < 2 ^ 64) {d f : Nat} (hd : d < 32) (ih : ∀ {Q : Pages} {H : Chunk} {r : List Chunk} {no : Int}, mayUse no → ShAt 110 b P I Qb Q H → FunP Tryz.prog 105 [.pointer (some ⟨b, 0, none⟩), .int .i64 no, .agg ⟨encCell x⟩, .int .i64 ((d + 1 : Nat) : Int)] (H :: r) (fun v' hs' => ∃ H' y Q', hs' = H' :: r ∧ v' = .agg ⟨[.string y.1, .int .i64 y.2]⟩ ∧ insertT x f Q no = .ok (y, Q') ∧ ShAt 110 b P I Qb Q' H') (Broke (fun H => ∃ Q', ShAt 110 b P I Qb Q' H) (ShBad 110 b P E) (fun e => insertT x f Q no = .error e) r)) {Qt : Pages} {H : Chunk} {r : List Chunk} {no : Int} (hno : mayUse no) (hH : ShAt 110 b P I Qb Qt H) : FunP Tryz.prog 105 [.pointer (some ⟨b, 0, none⟩), .int .i64 no, .agg ⟨encCell x⟩, .int .i64 (d : Nat)] (H :: r) (fun v' hs' => ∃ H' y Q', hs' = H' :: r ∧ v' = .agg ⟨[.string y.1, .int .i64 y.2]⟩ ∧ insertT x (f + 1) Qt no = .ok (y, Q') ∧ ShAt 110 b P I Qb Q' H') (Broke (fun H => ∃ Q', ShAt 110 b P I Qb Q' H) (ShBad 110 b P E) (fun e => insertT x (f + 1) Qt no = .error e) r) := by
  refine FunP.enter 86 Tryz.func105 rfl Tryz.ntmps105 rfl ?_
  refine TT.seq (.region (.box rfl rfl rfl (fun b_6 => ?_)))
  refine OT.alloc Tryz.zeroValue171 rfl rfl (fun b_8 => ?_)
  refine OT.nil (.seq (.seq (.region (.pures hT 2 rfl ?_))))
  refine OT.callP Tryz.call118 rfl rfl rfl rfl (guard_CheckB) (fun _ _ h => by
    obtain ⟨hb, _⟩ := h
    exact absurd (of_decide_eq_false hb) (by omega)) ?_
  rintro v_16 hs_16 ⟨hb, rfl, rfl⟩
  refine OT.nil (.seq (.seq (.region (.pures hT 1 rfl (.mkiface Tryz.underlying24 rfl rfl rfl rfl (.pures hT 1 rfl ?_))))))
  refine OT.callP Tryz.call95 rfl rfl rfl rfl (FunP.pull pl (tr_read (sheet_Pgs hP hQ).pgs hH (use_bound hno))) (fun _ _ h => by
    obtain ⟨e, H', rfl, he, rfl, ⟨h1, h2⟩ | ⟨_, e0, h2⟩⟩ := h
    · exact PP.of ⟨e, H', rfl, he, rfl, .inl ⟨insertT_err h1, _, h2⟩⟩ sl
    · exact PP.of ⟨e, H', rfl, he, rfl, .inr ⟨_, h2⟩⟩ sl) ?_
  rintro v_20 hs_20 ⟨H1, K, cs, n, rfl, rfl, hN, hI1, hrd⟩
  have hni := (readT_is hrd).nd
  have hnc := hni.cells
  have hnk := hni.keys
  have hnd := hni.kids
  obtain ⟨vc, vk, vi, KA, KB, KC, rfl, rfl, hoA, hoB, hoC⟩ := hN.is
  obtain ⟨ac, cc, e1⟩ := (hoA.row (hs := [])).len
  obtain ⟨ak, ck, e2⟩ := (hoB.row (hs := [])).len
  obtain ⟨ai, ci, e3⟩ := (hoC.row (hs := [])).len
  subst e1 e2 e3
  refine OT.perm kid_split ?_
  have hNa : ∀ hs, NdAt (KA :: KB :: KC :: hs) [.bool n.leaf, .slice ac n.cells.length cc, .slice ak n.keys.length ck, .slice ai n.kids.length ci] n := fun hs => ⟨_, _, _, rfl, hoA.row, hoB.row.there, hoC.row.there.there⟩
  refine OT.alloc Tryz.zeroValue159 rfl rfl (fun b_9 => ?_)
  refine OT.store_all hT rfl rfl rfl rfl pl rfl rfl rfl (.inl (Nat.le_refl _)) ?_
  refine OT.nil (.seq (.seq (.seq (.region (.pures hT 1 rfl (.load rfl rfl (Ld.one hT rfl hz rfl) rfl ?_))))))
  refine OT.nil (.seq (.cond rfl (fun c22 => ?_) (fun c22 => ?_)))
  ·
    have hlf : n.leaf = true := c22
    refine TT.seq (.region (.load rfl rfl (Ld.struct_all hT rfl hz rfl) rfl ?_))
    refine OT.pures hT 1 rfl (.load rfl rfl (Ld.one hT rfl hz rfl) rfl ?_)
    refine OT.call Tryz.call96 rfl rfl rfl rfl (tr_find ((hNa _).mono fun _ _ h => (.there (.there h))) (by omega) hni.rise) ?_
    rintro v_27 hs_27 ⟨rfl, rfl⟩
    refine OT.pures hT 5 rfl (.nil (.seq (.cut (ι := Value × Chunk) (fun j => Own encCell 8 113 (j.1) (insC n.cells x) (j.2)) (fun j => [(0, .pointer (some ⟨b, 0, none⟩)), (1, .int .i64 no), (6, .pointer (some ⟨b_6, 0, none⟩)), (8, .pointer (some ⟨b_8, 0, none⟩)), (9, .pointer (some ⟨b_9, 0, none⟩))]) (fun j => [(b_9, blk [.bool n.leaf, (j.1), .slice ak n.keys.length ck, .slice ai n.kids.length ci] 159 (0, 0))] :: H1 :: (j.2) :: KB :: KC :: [(b_8, blk [.string ⟨#[]⟩, .int .i64 0] 171 (0, 0))] :: [(b_6, blk (encCell x) 113 (0, 0))] :: r) ?_ ?_)))
    ·
      refine TT.seq (.region (.pures hT 1 rfl (.nil (.seq (.cond rfl (fun c30 => ?_) (fun c30 => ?_))))))
      ·
        have c30 := of_decide_eq_true c30
        obtain ⟨z, hz1, hz2⟩ := key_cell c30
        refine TT.region (.pures hT 1 rfl (.load rfl rfl (Ld.slc hT rfl hz rfl) rfl ?_))
        refine OT.pures hT 1 rfl (.load rfl rfl (Ld.struct_all hT rfl hz rfl) rfl ?_)
        refine OT.index_own hT rfl rfl rfl rfl hoA (by omega) (by have := (List.getElem?_eq_some_iff.1 hz1).1; omega) rfl (fun ib_35 io_35 ic_35 hv_35 => ?_)
        obtain ⟨rfl, rfl⟩ : ac = some ⟨ib_35, io_35, none⟩ ∧ cc = ic_35 := by injection hv_35 with h1 _ h3; exact ⟨h1, h3⟩
        refine OT.store_el (findI (keysOf n.cells) x.key) 0 hT rfl rfl rfl rfl pl hoA hz1 rfl rfl (by decide) rfl (show splice (encCell z) 0 (encCell x) = encCell x from rfl) (fun H_y ho_y => ?_)
        refine OT.nil (.cut (_, H_y) ?_ (SubR.cons rfl (SubR.cons rfl (SubR.cons rfl (SubR.cons rfl (SubR.cons rfl (SubR.nil _)))))) sl)
        · dsimp only
          rw [insC_at c30]; exact ho_y
      ·
        have c30 := of_decide_eq_false c30
        refine TT.region (.pures hT 1 rfl (.load rfl rfl (Ld.slc hT rfl hz rfl) rfl ?_))
        refine OT.pures hT 1 rfl (.load rfl rfl (Ld.struct_all hT rfl hz rfl) rfl ?_)
        refine OT.buildSlice_raw (enc := encCell) (xs := [x]) (xos := [.tmp 39]) el122 rfl rfl rfl rfl rfl (by simp [Value.cells]; rfl) (fun _ _ => rfl) rfl (by decide) rfl (fun b_40 => ?_)
        refine OT.call Tryz.call145 rfl rfl rfl rfl (Fun.weaken sl (sl_InsertC (y := x) hoA (Nat.le_trans List.findIdx_le_length (by rw [keys_len]; exact Nat.le_refl _)) (by omega))) ?_
        rintro v_41 hs_41 ⟨H7, rfl, ho7⟩
        obtain ⟨a7, c7, rfl⟩ := (ho7.row (hs := [])).len
        refine OT.pures hT 1 rfl (.store hT rfl rfl rfl rfl pl rfl (Nat.le_of_ble_eq_true rfl) rfl (.inl (Nat.le_refl _)) rfl ?_)
        refine OT.nil (.cut (_, H7) ?_ (SubR.cons rfl (SubR.cons rfl (SubR.cons rfl (SubR.cons rfl (SubR.cons rfl (SubR.nil _)))))) sl)
        · dsimp only
          rw [insC_new c30]; exact ho7
    ·
      rintro ⟨vc2, K2⟩ hI
      dsimp only at hI
      have hoA2 := hI
      show TT _ _ _ [(0, .pointer (some ⟨b, 0, none⟩)), (1, .int .i64 no), (6, .pointer (some ⟨b_6, 0, none⟩)), (8, .pointer (some ⟨b_8, 0, none⟩)), (9, .pointer (some ⟨b_9, 0, none⟩))] ([(b_9, blk [.bool n.leaf, vc2, .slice ak n.keys.length ck, .slice ai n.kids.length ci] 159 (0, 0))] :: H1 :: K2 :: KB :: KC :: [(b_8, blk [.string ⟨#[]⟩, .int .i64 0] 171 (0, 0))] :: [(b_6, blk (encCell x) 113 (0, 0))] :: r)
      refine TT.seq (.region (.pures hT 2 rfl (.load rfl rfl (Ld.struct_all hT rfl hz rfl) rfl ?_)))
      refine OT.callP Tryz.call146 rfl rfl rfl rfl (FunP.pull pl (tr_put hP hQ hI1 (n := { n with cells := insC n.cells x }) ⟨_, _, _, rfl, hoA2.row.there, hoB.row.there.there, hoC.row.there.there.there⟩ (hni.few_leaf hlf hx hxf) (ones_nd (own_one hoA2) rfl rfl) (may_page hno))) (fun _ _ h => by
        obtain ⟨e, H', rfl, he, rfl, ⟨h1, h2⟩ | h2⟩ := h
        · exact PP.of ⟨e, H', rfl, he, rfl, .inl ⟨(by rw [insertT_leaf hrd hlf]; exact h1), h2⟩⟩ sl
        · exact PP.of ⟨e, H', rfl, he, rfl, .inr h2⟩ sl) ?_
      rintro v_46 hs_46 ⟨H2, y, Q2, rfl, rfl, hp2, hI2⟩
      refine OT.store_all hT rfl rfl rfl rfl pl rfl rfl rfl (.inl (Nat.le_refl _)) ?_
      refine OT.nil (.seq (.ret (.ofP (rs := [.cell 8 171]) [_] (H2 :: r) rfl (.cell rfl (Ld.struct_all hT rfl hz rfl) .nil) sl ?_)))
      try dsimp only [one]
      exact ⟨H2, y, Q2, rfl, rfl, by rw [insertT_leaf hrd hlf]; exact hp2, hI2⟩
  ·
    have hlf : n.leaf = false := c22
    obtain ⟨kd, hkd, hkg, hkm⟩ := hni.kid hlf x.key
    have hkl := kidI_le n.keys x.key
    have hkk := (hni.ways hlf).1
    refine TT.skip (.seq (.seq (.region (.load rfl rfl (Ld.struct_all hT rfl hz rfl) rfl ?_))))
    refine OT.pures hT 1 rfl (.load rfl rfl (Ld.one hT rfl hz rfl) rfl ?_)
    refine OT.call Tryz.call97 rfl rfl rfl rfl (tr_Kid ((hNa _).mono fun _ _ h => (.there (.there h))) hni hlf) ?_
    rintro v_50 hs_50 ⟨rfl, rfl⟩
    refine OT.pures hT 1 rfl (.nil (.seq (.cut (ι := Nat × Chunk × Part × Pages) (fun j => insertT x f Qt kd = .ok ((j.2.2.1), (j.2.2.2)) ∧ ShAt 110 b P I Qb (j.2.2.2) (j.2.1)) (fun j => [(0, .pointer (some ⟨b, 0, none⟩)), (1, .int .i64 no), (8, .pointer (some ⟨b_8, 0, none⟩)), (9, .pointer (some ⟨b_9, 0, none⟩)), (12, .int .i64 (kidI n.keys x.key : Nat)), (13, .pointer (some ⟨(j.1), 0, none⟩))]) (fun j => [((j.1), blk [.string (j.2.2.1).1, .int .i64 (j.2.2.1).2] 171 (0, 0))] :: [(b_9, blk [.bool n.leaf, .slice ac n.cells.length cc, .slice ak n.keys.length ck, .slice ai n.kids.length ci] 159 (0, 0))] :: (j.2.1) :: KA :: KB :: KC :: [(b_8, blk [.string ⟨#[]⟩, .int .i64 0] 171 (0, 0))] :: [(b_6, blk (encCell x) 113 (0, 0))] :: r) ?_ ?_)))
    ·
      refine TT.draw (([(b_9, blk [.bool n.leaf, .slice ac n.cells.length cc, .slice ak n.keys.length ck, .slice ai n.kids.length ci] 159 (0, 0))] :: KC :: [(b_6, blk (encCell x) 113 (0, 0))] :: r)) mixed (.takes (fuel := 7) hT [0, 1, 3, 7, 8] kr kr rfl (.take (fuel := 6) hT 2 rfl rfl kr kr kr rfl (.load rfl (Ld.slc hT rfl hz rfl)) rfl ?_))
      refine AT.take (fuel := 5) hT 6 rfl rfl kr kr kr rfl (.load rfl (Ld.struct_all hT rfl hz rfl)) rfl ?_
      refine AT.index (fuel := 4) hT 4 rfl kr kr kr rfl rfl rfl rfl hoC.row.there (by omega) (by rw [Int.toNat_natCast]; exact hkd) rfl (fun ad_55 hel_55 => ?_)
      refine AT.take (fuel := 3) hT 5 rfl rfl kr kr kr rfl (.load rfl (hel_55.ld_one hT rfl rfl)) rfl (.all (fuel := 2) [9, 10] kr (by decide) sl ?_)
      intro i hi
      simp only [List.mem_cons, List.not_mem_nil, or_false] at hi
      rcases hi with rfl | rfl
      ·
        refine ⟨_, rfl, ?_⟩
        refine OT.reg 59 rfl (v := .int .i64 ((d + 1 : Nat) : Int)) (int_eq (by rw [wrap_i64 (by omega) (by omega)]; omega)) ?_
        refine OT.callP Tryz.call105 rfl rfl rfl rfl (FunP.pull pl (ih hkm hI1)) (fun _ _ h => by
          obtain ⟨e, H', rfl, he, rfl, ⟨h1, h2⟩ | h2⟩ := h
          · exact PP.of ⟨e, H', rfl, he, rfl, .inl ⟨insertT_kid_err hrd hlf (by rw [hkg]; exact h1), h2⟩⟩ sl
          · exact PP.of ⟨e, H', rfl, he, rfl, .inr h2⟩ sl) ?_
        rintro v_60 hs_60 ⟨H2, y, Q2, rfl, rfl, hp2, hI2⟩
        refine OT.nil (.any (.op (fuel := 1) 10 kr rfl sl (.alloc Tryz.zeroValue171 rfl rfl (fun b_13 => ?_))))
        refine OT.nil (.any (.op (fuel := 0) 11 kr rfl sl (.store_all hT rfl rfl rfl rfl pl rfl rfl rfl (.inl (Nat.le_refl _)) ?_)))
        refine OT.nil (.any (.done kr sl (.cut (b_13, H2, y, Q2) ?_ (SubR.cons rfl (SubR.cons rfl (SubR.cons rfl (SubR.cons rfl (SubR.cons rfl (SubR.cons rfl (SubR.nil _))))))) sl)))
        · dsimp only
          exact ⟨hp2, hI2⟩
      ·
        refine ⟨_, rfl, ?_⟩
        refine OT.alloc Tryz.zeroValue171 rfl rfl (fun b_13 => ?_)
        refine OT.nil (.any (.op (fuel := 1) 9 kr rfl sl (.reg 59 rfl (v := .int .i64 ((d + 1 : Nat) : Int)) (int_eq (by rw [wrap_i64 (by omega) (by omega)]; omega)) ?_)))
        refine OT.callP Tryz.call105 rfl rfl rfl rfl (FunP.pull pl (ih hkm hI1)) (fun _ _ h => by
          obtain ⟨e, H', rfl, he, rfl, ⟨h1, h2⟩ | h2⟩ := h
          · exact PP.of ⟨e, H', rfl, he, rfl, .inl ⟨insertT_kid_err hrd hlf (by rw [hkg]; exact h1), h2⟩⟩ sl
          · exact PP.of ⟨e, H', rfl, he, rfl, .inr h2⟩ sl) ?_
        rintro v_60 hs_60 ⟨H2, y, Q2, rfl, rfl, hp2, hI2⟩
        refine OT.nil (.any (.op (fuel := 0) 11 kr rfl sl (.store_all hT rfl rfl rfl rfl pl rfl rfl rfl (.inl (Nat.le_refl _)) ?_)))
        refine OT.nil (.any (.done kr sl (.cut (b_13, H2, y, Q2) ?_ (SubR.cons rfl (SubR.cons rfl (SubR.cons rfl (SubR.cons rfl (SubR.cons rfl (SubR.cons rfl (SubR.nil _))))))) sl)))
        · dsimp only
          exact ⟨hp2, hI2⟩
    ·
      rintro ⟨b13, H2, y, Q2⟩ hI
      dsimp only at hI
      obtain ⟨hp2, hI2⟩ := hI
      show TT _ _ _ [(0, .pointer (some ⟨b, 0, none⟩)), (1, .int .i64 no), (8, .pointer (some ⟨b_8, 0, none⟩)), (9, .pointer (some ⟨b_9, 0, none⟩)), (12, .int .i64 (kidI n.keys x.key : Nat)), (13, .pointer (some ⟨b13, 0, none⟩))] ([(b13, blk [.string y.1, .int .i64 y.2] 171 (0, 0))] :: [(b_9, blk [.bool n.leaf, .slice ac n.cells.length cc, .slice ak n.keys.length ck, .slice ai n.kids.length ci] 159 (0, 0))] :: H2 :: KA :: KB :: KC :: [(b_8, blk [.string ⟨#[]⟩, .int .i64 0] 171 (0, 0))] :: [(b_6, blk (encCell x) 113 (0, 0))] :: r)
      refine TT.seq (.seq (.region (.pures hT 1 rfl (.load rfl rfl (Ld.one hT rfl hz rfl) rfl ?_))))
      refine OT.pures hT 1 rfl (.nil (.seq (.cond rfl (fun c63 => ?_) (fun c63 => ?_))))
      ·
        have c63 : y.2 = 0 := by simpa using c63
        refine TT.seq (.region (.build hT rfl Tryz.zeroValue171 rfl rfl rfl rfl (.store_all hT rfl rfl rfl rfl pl rfl rfl rfl (.inl (Nat.le_refl _)) ?_)))
        refine OT.nil (.seq (.ret (.ofP (rs := [.cell 8 171]) [_] (H2 :: r) rfl (.cell rfl (Ld.struct_all hT rfl hz rfl) .nil) sl ?_)))
        try dsimp only [one]
        exact ⟨H2, noPart, Q2, rfl, rfl, insertT_kid_zero hrd hlf (by rw [hkg]; exact hp2) c63, hI2⟩
      ·
        have c63 : y.2 ≠ 0 := by simpa using c63
        refine TT.skip (.seq (.cut (ι := Value × Value × Chunk × Chunk) (fun j => Own Go.Sx.encS 1 9 (j.1) (insAt n.keys (kidI n.keys x.key) y.1) (j.2.2.1) ∧ Own Go.Sx.encI 1 3 (j.2.1) (insAt n.kids (kidI n.keys x.key + 1) y.2) (j.2.2.2)) (fun j => [(0, .pointer (some ⟨b, 0, none⟩)), (1, .int .i64 no), (8, .pointer (some ⟨b_8, 0, none⟩)), (9, .pointer (some ⟨b_9, 0, none⟩))]) (fun j => [(b_9, blk [.bool n.leaf, .slice ac n.cells.length cc, (j.1), (j.2.1)] 159 (0, 0))] :: H2 :: KA :: (j.2.2.1) :: (j.2.2.2) :: [(b_8, blk [.string ⟨#[]⟩, .int .i64 0] 171 (0, 0))] :: [(b_6, blk (encCell x) 113 (0, 0))] :: r) ?_ ?_))
        ·
          refine TT.drawD [16, 18] (([(b13, blk [.string y.1, .int .i64 y.2] 171 (0, 0))] :: [(b_9, blk [.bool n.leaf, .slice ac n.cells.length cc, .slice ak n.keys.length ck, .slice ai n.kids.length ci] 159 (0, 0))] :: r)) mixed (.takes (fuel := 12) hT [0, 2, 3, 7, 9, 10, 11] kr kr rfl (.take (fuel := 11) hT 1 rfl rfl kr kr kr rfl (.load rfl (Ld.slc hT rfl hz rfl)) rfl ?_))
          refine AT.take (fuel := 10) hT 4 rfl rfl kr kr kr rfl (.load rfl (Ld.one hT rfl hz rfl)) rfl ?_
          refine AT.take (fuel := 9) hT 8 rfl rfl kr kr kr rfl (.load rfl (Ld.slc hT rfl hz rfl)) rfl ?_
          refine AT.take (fuel := 8) hT 12 rfl rfl kr kr kr rfl (.load rfl (Ld.one hT rfl hz rfl)) rfl ?_
          refine AT.all (fuel := 7) [5, 13] kr (by decide) sl ?_
          intro i hi
          simp only [List.mem_cons, List.not_mem_nil, or_false] at hi
          rcases hi with rfl | rfl
          ·
            refine ⟨_, rfl, ?_⟩
            refine OT.buildSlice_raw (enc := Go.Sx.encS) (xs := [y.1]) (xos := [.tmp 69]) el91 rfl rfl rfl rfl rfl (by simp [Value.cells]) (fun _ _ => rfl) rfl (by decide) rfl (fun b_70 => ?_)
            refine OT.nil (.any (.all (fuel := 6) [6, 13] kr (by decide) sl ?_))
            intro i hi
            simp only [List.mem_cons, List.not_mem_nil, or_false] at hi
            rcases hi with rfl | rfl
            ·
              refine ⟨_, rfl, ?_⟩
              refine OT.call Tryz.call147 rfl rfl rfl rfl (Fun.weaken sl (sl_InsertS (y := y.1) hoB hkl (by omega))) ?_
              rintro v_71 hs_71 ⟨H6, rfl, ho6⟩
              obtain ⟨a6, c6, rfl⟩ := (ho6.row (hs := [])).len
              refine OT.nil (.any (.takes (fuel := 5) hT [15] kr kr rfl (.op (fuel := 4) 13 kr rfl sl (.buildSlice_raw (enc := Go.Sx.encI) (xs := [y.2]) (xos := [.tmp 77]) el22 rfl rfl rfl rfl rfl (by simp [Value.cells]) (fun _ _ => rfl) rfl (by decide) rfl (fun b_78 => ?_)))))
              refine OT.nil (.any (.op (fuel := 3) 14 kr rfl sl (.reg 75 rfl (v := .int .i64 ((kidI n.keys x.key + 1 : Nat) : Int)) (int_eq (by rw [wrap_i64 (by omega) (by omega)]; omega)) (.call Tryz.call148 rfl rfl rfl rfl (Fun.weaken sl (sl_InsertI (y := y.2) hoC (by omega) (by omega))) ?_))))
              rintro v_79 hs_79 ⟨H7, rfl, ho7⟩
              obtain ⟨a7, c7, rfl⟩ := (ho7.row (hs := [])).len
              refine OT.nil (.any (.op (fuel := 2) 16 kr rfl sl (.store hT rfl rfl rfl rfl pl rfl (Nat.le_of_ble_eq_true rfl) rfl (.inl (Nat.le_refl _)) rfl ?_)))
              refine OT.nil (.any (.opD (fuel := 1) 17 kr rfl kr (.pures hT 1 rfl (.nil (.any (.opD (fuel := 0) 18 kr rfl kr (.store hT rfl rfl rfl rfl pl rfl (Nat.le_of_ble_eq_true rfl) rfl (.inl (Nat.le_refl _)) rfl ?_)))))))
              refine OT.nil (.any (.doneD kr kr (.cut (_, _, H6, H7) ?_ (SubR.cons rfl (SubR.cons rfl (SubR.cons rfl (SubR.cons rfl (SubR.nil _))))) sl)))
              · dsimp only
                exact ⟨ho6, ho7⟩
            ·
              refine ⟨_, rfl, ?_⟩
              refine OT.buildSlice_raw (enc := Go.Sx.encI) (xs := [y.2]) (xos := [.tmp 77]) el22 rfl rfl rfl rfl rfl (by simp [Value.cells]) (fun _ _ => rfl) rfl (by decide) rfl (fun b_78 => ?_)
              refine OT.nil (.any (.op (fuel := 5) 6 kr rfl sl (.call Tryz.call147 rfl rfl rfl rfl (Fun.weaken sl (sl_InsertS (y := y.1) hoB hkl (by omega))) ?_)))
              rintro v_71 hs_71 ⟨H6, rfl, ho6⟩
              obtain ⟨a6, c6, rfl⟩ := (ho6.row (hs := [])).len
              refine OT.nil (.any (.takes (fuel := 4) hT [15] kr kr rfl (.op (fuel := 3) 14 kr rfl sl (.reg 75 rfl (v := .int .i64 ((kidI n.keys x.key + 1 : Nat) : Int)) (int_eq (by rw [wrap_i64 (by omega) (by omega)]; omega)) (.call Tryz.call148 rfl rfl rfl rfl (Fun.weaken sl (sl_InsertI (y := y.2) hoC (by omega) (by omega))) ?_)))))
              rintro v_79 hs_79 ⟨H7, rfl, ho7⟩
              obtain ⟨a7, c7, rfl⟩ := (ho7.row (hs := [])).len
              refine OT.nil (.any (.op (fuel := 2) 16 kr rfl sl (.store hT rfl rfl rfl rfl pl rfl (Nat.le_of_ble_eq_true rfl) rfl (.inl (Nat.le_refl _)) rfl ?_)))
              refine OT.nil (.any (.opD (fuel := 1) 17 kr rfl kr (.pures hT 1 rfl (.nil (.any (.opD (fuel := 0) 18 kr rfl kr (.store hT rfl rfl rfl rfl pl rfl (Nat.le_of_ble_eq_true rfl) rfl (.inl (Nat.le_refl _)) rfl ?_)))))))
              refine OT.nil (.any (.doneD kr kr (.cut (_, _, H6, H7) ?_ (SubR.cons rfl (SubR.cons rfl (SubR.cons rfl (SubR.cons rfl (SubR.nil _))))) sl)))
              · dsimp only
                exact ⟨ho6, ho7⟩
          ·
            refine ⟨_, rfl, ?_⟩
            refine OT.buildSlice_raw (enc := Go.Sx.encI) (xs := [y.2]) (xos := [.tmp 77]) el22 rfl rfl rfl rfl rfl (by simp [Value.cells]) (fun _ _ => rfl) rfl (by decide) rfl (fun b_78 => ?_)
            refine OT.nil (.any (.op (fuel := 6) 5 kr rfl sl (.buildSlice_raw (enc := Go.Sx.encS) (xs := [y.1]) (xos := [.tmp 69]) el91 rfl rfl rfl rfl rfl (by simp [Value.cells]) (fun _ _ => rfl) rfl (by decide) rfl (fun b_70 => ?_))))
            refine OT.nil (.any (.op (fuel := 5) 6 kr rfl sl (.call Tryz.call147 rfl rfl rfl rfl (Fun.weaken sl (sl_InsertS (y := y.1) hoB hkl (by omega))) ?_)))
            rintro v_71 hs_71 ⟨H6, rfl, ho6⟩
            obtain ⟨a6, c6, rfl⟩ := (ho6.row (hs := [])).len
            refine OT.nil (.any (.takes (fuel := 4) hT [15] kr kr rfl (.op (fuel := 3) 14 kr rfl sl (.reg 75 rfl (v := .int .i64 ((kidI n.keys x.key + 1 : Nat) : Int)) (int_eq (by rw [wrap_i64 (by omega) (by omega)]; omega)) (.call Tryz.call148 rfl rfl rfl rfl (Fun.weaken sl (sl_InsertI (y := y.2) hoC (by omega) (by omega))) ?_)))))
            rintro v_79 hs_79 ⟨H7, rfl, ho7⟩
            obtain ⟨a7, c7, rfl⟩ := (ho7.row (hs := [])).len
            refine OT.nil (.any (.op (fuel := 2) 16 kr rfl sl (.store hT rfl rfl rfl rfl pl rfl (Nat.le_of_ble_eq_true rfl) rfl (.inl (Nat.le_refl _)) rfl ?_)))
            refine OT.nil (.any (.opD (fuel := 1) 17 kr rfl kr (.pures hT 1 rfl (.nil (.any (.opD (fuel := 0) 18 kr rfl kr (.store hT rfl rfl rfl rfl pl rfl (Nat.le_of_ble_eq_true rfl) rfl (.inl (Nat.le_refl _)) rfl ?_)))))))
            refine OT.nil (.any (.doneD kr kr (.cut (_, _, H6, H7) ?_ (SubR.cons rfl (SubR.cons rfl (SubR.cons rfl (SubR.cons rfl (SubR.nil _))))) sl)))
            · dsimp only
              exact ⟨ho6, ho7⟩
        ·
          rintro ⟨vk2, vi2, K2, K3⟩ hI
          dsimp only at hI
          obtain ⟨hoB2, hoC2⟩ := hI
          show TT _ _ _ [(0, .pointer (some ⟨b, 0, none⟩)), (1, .int .i64 no), (8, .pointer (some ⟨b_8, 0, none⟩)), (9, .pointer (some ⟨b_9, 0, none⟩))] ([(b_9, blk [.bool n.leaf, .slice ac n.cells.length cc, vk2, vi2] 159 (0, 0))] :: H2 :: KA :: K2 :: K3 :: [(b_8, blk [.string ⟨#[]⟩, .int .i64 0] 171 (0, 0))] :: [(b_6, blk (encCell x) 113 (0, 0))] :: r)
          refine TT.seq (.region (.pures hT 2 rfl (.load rfl rfl (Ld.struct_all hT rfl hz rfl) rfl ?_)))
          refine OT.callP Tryz.call146 rfl rfl rfl rfl (FunP.pull pl (tr_put hP hQ hI2 (n := { n with keys := insAt n.keys (kidI n.keys x.key) y.1, kids := insAt n.kids (kidI n.keys x.key + 1) y.2 }) ⟨_, _, _, rfl, hoA.row.there, hoB2.row.there.there, hoC2.row.there.there.there⟩ (hni.few_ways hlf _ _ _ _) (ones_nd rfl (own_one hoB2) (own_one hoC2)) (may_page hno))) (fun _ _ h => by
            obtain ⟨e, H', rfl, he, rfl, ⟨h1, h2⟩ | h2⟩ := h
            · exact PP.of ⟨e, H', rfl, he, rfl, .inl ⟨(by rw [insertT_kid hrd hlf (by rw [hkg]; exact hp2) c63]; exact h1), h2⟩⟩ sl
            · exact PP.of ⟨e, H', rfl, he, rfl, .inr h2⟩ sl) ?_
          rintro v_85 hs_85 ⟨H3, z, Q3, rfl, rfl, hp3, hI3⟩
          refine OT.store_all hT rfl rfl rfl rfl pl rfl rfl rfl (.inl (Nat.le_refl _)) ?_
          refine OT.nil (.seq (.ret (.ofP (rs := [.cell 8 171]) [_] (H3 :: r) rfl (.cell rfl (Ld.struct_all hT rfl hz rfl) .nil) sl ?_)))
          try dsimp only [one]
          exact ⟨H3, z, Q3, rfl, rfl, by rw [insertT_kid hrd hlf (by rw [hkg]; exact hp2) c63]; exact hp3, hI3⟩

theorem tr_insert {b : Nat} {P : Value} {I : Chunk → Prop} {E : Int → Chunk → Prop} {Qb : Pages} (hP : PgsA Tryz.prog 5 P I E (pgOf Qb)) (hQ : Long Qb) {x : Cell} (hx : mayCell x = true) (hxf : x.val.f < 2 ^ 64 ∧ x.new.f < 2 ^ 64) : ∀ (f d : Nat), d + f = 32 → ∀ {Qt : Pages} {H : Chunk} {r : List Chunk} {no : Int}, mayUse no → ShAt 110 b P I Qb Qt H → FunP Tryz.prog 105 [.pointer (some ⟨b, 0, none⟩), .int .i64 no, .agg ⟨encCell x⟩, .int .i64 ((d : Nat) : Int)] (H :: r) (fun v' hs' => ∃ H' y Q', hs' = H' :: r ∧ v' = .agg ⟨[.string y.1, .int .i64 y.2]⟩ ∧ insertT x f Qt no = .ok (y, Q') ∧ ShAt 110 b P I Qb Q' H') (Broke (fun H => ∃ Q', ShAt 110 b P I Qb Q' H) (ShBad 110 b P E) (fun e => insertT x f Qt no = .error e) r) := by
  intro f
  induction f with
  | zero =>
    intro d hd Qt H r no _ hH
    obtain rfl : d = 32 := by omega
    exact tr_insert0 hP hQ hx hxf hH
  | succ f ih =>
    intro d hd Qt H r no hno hH
    exact tr_insertS hP hQ hx hxf (by omega) (fun h1 h2 => ih (d + 1) (by omega) h1 h2) hno hH

end Go.Proofs.YtihpkgmfkbkffaaGreat.Sx
end
