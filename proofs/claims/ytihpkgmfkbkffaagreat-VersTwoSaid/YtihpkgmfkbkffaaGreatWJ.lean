/- Several texts in one. Two versions: seen, written, ended. Printed by a program of ours off the loaded program and our notes; Lean checks it. Two versions: what a transaction wrote ends. Printed by a program of ours off the loaded program and our notes; Lean checks it. The laws' beginning. Printed by a program of ours off the loaded program and our notes; Lean checks it. What the laws of two versions are made of. Printed by a program of ours off the loaded program and our notes; Lean checks it. Laws of two versions: who has written a key. Printed by a program of ours off the loaded program and our notes; Lean checks it. Pairs in order. Printed by a program of ours off the loaded program and our notes; Lean checks it. Laws of two versions: two transactions that write unlike keys. Printed by a program of ours off the loaded program and our notes; Lean checks it. -/
import Derived.Test.YtihpkgmfkbkffaaGreatWI
import Derived.Test.YtihpkgmfkbkffaaGreatWB
import Derived.Test.YtihpkgmfkbkffaaGreatWD
import Derived.Test.YtihpkgmfkbkffaaGreatWF
import Derived.Test.YtihpkgmfkbkffaaGreatWE
set_option linter.unusedVariables false
set_option linter.unusedSimpArgs false
set_option linter.unusedSectionVars false

section
namespace Go.Proofs.YtihpkgmfkbkffaaGreat.Sx
open Go Go.Sx Go.Pl
variable [Outer]

set_option maxHeartbeats 1000000 in
set_option maxRecDepth 100000 in
theorem cl_See {x : Cell} {t : Int} {hs : List Chunk} : Fun Tryz.prog 61 [.agg ⟨encCell x⟩, .int .i64 t] hs (fun v' hs' => v' = .agg ⟨encVl (seeC x t)⟩ ∧ hs = hs') := by
  refine Fun.enter 17 Tryz.func61 rfl Tryz.ntmps61 rfl ?_
  refine TT.seq (.region (.box rfl rfl rfl (fun b_2 => ?_)))
  refine OT.alloc Tryz.zeroValue36 rfl rfl (fun b_4 => ?_)
  refine OT.nil (.seq (.seq (.seq (.region (.pures hT 3 rfl (.split 7 rfl (fun g7 => ?_) (fun g7 => ?_)))))))
  ·
    have g7 : 0 < t := of_decide_eq_true g7
    refine OT.pures hT 1 rfl (.load rfl rfl (Ld.one hT rfl hz rfl) rfl ?_)
    refine OT.pures hT 3 rfl (.nil (.seq (.cond rfl (fun c12 => ?_) (fun c12 => ?_))))
    ·
      have c12 : x.txn = t := eq_of_beq c12
      refine TT.seq (.region (.pures hT 1 rfl (.load rfl rfl (Ld.struct (vs := encVl (x).new) hT rfl hz rfl rfl) rfl ?_)))
      refine OT.store_all hT rfl rfl rfl rfl pl rfl rfl rfl (.inl (Nat.le_refl _)) ?_
      refine OT.nil (.seq (.ret (.of (rs := [.cell 4 36]) [_] hs rfl (.cell rfl (Ld.struct_all hT rfl hz rfl) .nil) sl ?_)))
      try dsimp only [one]
      exact ⟨by unfold seeC; rw [if_pos ⟨g7, c12⟩]; rfl, rfl⟩
    ·
      have c12 : ¬ x.txn = t := fun h => by rw [h] at c12; simp at c12
      refine TT.skip (.seq (.seq (.region (.pures hT 1 rfl (.load rfl rfl (Ld.struct (vs := encVl (x).val) hT rfl hz rfl rfl) rfl ?_)))))
      refine OT.store_all hT rfl rfl rfl rfl pl rfl rfl rfl (.inl (Nat.le_refl _)) ?_
      refine OT.nil (.seq (.ret (.of (rs := [.cell 4 36]) [_] hs rfl (.cell rfl (Ld.struct_all hT rfl hz rfl) .nil) sl ?_)))
      try dsimp only [one]
      exact ⟨by unfold seeC; rw [if_neg (fun h => c12 h.2)]; rfl, rfl⟩
  ·
    have g7 : ¬ 0 < t := of_decide_eq_false g7
    refine OT.pures hT 5 rfl (.nil (.seq (.cond_false rfl (.skip (.seq (.seq (.region (.pures hT 1 rfl (.load rfl rfl (Ld.struct (vs := encVl (x).val) hT rfl hz rfl rfl) rfl ?_)))))))))
    refine OT.store_all hT rfl rfl rfl rfl pl rfl rfl rfl (.inl (Nat.le_refl _)) ?_
    refine OT.nil (.seq (.ret (.of (rs := [.cell 4 36]) [_] hs rfl (.cell rfl (Ld.struct_all hT rfl hz rfl) .nil) sl ?_)))
    try dsimp only [one]
    exact ⟨by unfold seeC; rw [if_neg (fun h => g7 h.1)]; rfl, rfl⟩

set_option maxHeartbeats 1000000 in
set_option maxRecDepth 100000 in
theorem cl_Write {x : Cell} {t : Int} {v : Vl} {hs : List Chunk} : Fun Tryz.prog 55 [.agg ⟨encCell x⟩, .int .i64 t, .agg ⟨encVl v⟩] hs (fun v' hs' => v' = .agg ⟨encCell ⟨x.key, x.val, t, v⟩⟩ ∧ hs = hs') := by
  refine Fun.enter 12 Tryz.func55 rfl Tryz.ntmps55 rfl ?_
  refine TT.seq (.region (.box rfl rfl rfl (fun b_3 => ?_)))
  refine OT.box rfl rfl rfl (fun b_5 => ?_)
  refine OT.alloc Tryz.zeroValue113 rfl rfl (fun b_6 => ?_)
  refine OT.nil (.seq (.seq (.draw (hs) mixed (.takes (fuel := 4) hT [0, 2] kr kr rfl (.all (fuel := 3) [1, 3] kr (by decide) sl ?_)))))
  intro i hi
  simp only [List.mem_cons, List.not_mem_nil, or_false] at hi
  rcases hi with rfl | rfl
  ·
    refine ⟨_, rfl, ?_⟩
    refine OT.load rfl rfl (Ld.struct_all hT rfl hz rfl) rfl ?_
    refine OT.nil (.any (.op (fuel := 2) 3 kr rfl sl (.store hT rfl rfl rfl rfl pl rfl (Nat.le_of_ble_eq_true rfl) rfl (.inl (Nat.le_refl _)) rfl ?_)))
    refine OT.nil (.any (.takes (fuel := 1) hT [4] kr kr rfl (.op (fuel := 0) 5 kr rfl sl (.store hT rfl rfl rfl rfl pl rfl (Nat.le_of_ble_eq_true rfl) rfl (.inl (Nat.le_refl _)) rfl ?_))))
    refine OT.nil (.any (.done kr sl (.seq (.seq (.region (.load rfl rfl (Ld.struct_all hT rfl hz rfl) rfl ?_))))))
    refine OT.store_all hT rfl rfl rfl rfl pl rfl rfl rfl (.inl (Nat.le_refl _)) ?_
    refine OT.nil (.seq (.ret (.of (rs := [.cell 6 113]) [_] hs rfl (.cell rfl (Ld.struct_all hT rfl hz rfl) .nil) sl ?_)))
    try dsimp only [one]
    exact ⟨rfl, rfl⟩
  ·
    refine ⟨_, rfl, ?_⟩
    refine OT.store hT rfl rfl rfl rfl pl rfl (Nat.le_of_ble_eq_true rfl) rfl (.inl (Nat.le_refl _)) rfl ?_
    refine OT.nil (.any (.op (fuel := 2) 1 kr rfl sl (.load rfl rfl (Ld.struct_all hT rfl hz rfl) rfl ?_)))
    refine OT.nil (.any (.takes (fuel := 1) hT [4] kr kr rfl (.op (fuel := 0) 5 kr rfl sl (.store hT rfl rfl rfl rfl pl rfl (Nat.le_of_ble_eq_true rfl) rfl (.inl (Nat.le_refl _)) rfl ?_))))
    refine OT.nil (.any (.done kr sl (.seq (.seq (.region (.load rfl rfl (Ld.struct_all hT rfl hz rfl) rfl ?_))))))
    refine OT.store_all hT rfl rfl rfl rfl pl rfl rfl rfl (.inl (Nat.le_refl _)) ?_
    refine OT.nil (.seq (.ret (.of (rs := [.cell 6 113]) [_] hs rfl (.cell rfl (Ld.struct_all hT rfl hz rfl) .nil) sl ?_)))
    try dsimp only [one]
    exact ⟨rfl, rfl⟩

def leftC (c : Cell) : Cell × Bool := if c.val.kind = 0 then (noCell, false) else (c, true)

set_option maxHeartbeats 1000000 in
set_option maxRecDepth 100000 in
theorem cl_left {x : Cell} {hs : List Chunk} : Fun Tryz.prog 113 [.agg ⟨encCell x⟩] hs (fun v' hs' => v' = .tuple ⟨[.agg ⟨encCell (leftC x).1⟩, .bool (leftC x).2]⟩ ∧ hs = hs') := by
  refine Fun.enter 9 Tryz.func113 rfl Tryz.ntmps113 rfl ?_
  refine TT.seq (.region (.box rfl rfl rfl (fun b_1 => ?_)))
  refine OT.alloc Tryz.zeroValue113 rfl rfl (fun b_2 => ?_)
  refine OT.pures hT 1 rfl (.nil (.seq (.seq (.seq (.region (.pures hT 1 rfl (.load rfl rfl (Ld.struct (vs := encVl (x).val) hT rfl hz rfl rfl) rfl ?_)))))))
  refine OT.call Tryz.call140 rfl rfl rfl rfl (cl_none) ?_
  rintro v_6 hs_6 ⟨rfl, rfl⟩
  refine OT.nil (.seq (.cond rfl (fun c6 => ?_) (fun c6 => ?_)))
  ·
    have c6 : x.val.kind = 0 := of_decide_eq_true c6
    refine TT.seq (.region (.build (cs := encCell noCell) hT rfl Tryz.zeroValue113 rfl rfl rfl rfl (.store_all hT rfl rfl rfl rfl pl rfl rfl rfl (.inl (Nat.le_refl _)) ?_)))
    refine OT.pures hT 1 rfl (.nil (.seq (.ret (.of (rs := [.cell 2 113, .tmp 3]) [_, _] hs rfl (.cell rfl (Ld.struct_all hT rfl hz rfl) (.tmp rfl .nil)) sl ?_))))
    try dsimp only [one]
    exact ⟨by unfold leftC; rw [if_pos c6]; rfl, rfl⟩
  ·
    have c6 : ¬ x.val.kind = 0 := of_decide_eq_false c6
    refine TT.skip (.seq (.seq (.region (.load rfl rfl (Ld.struct_all hT rfl hz rfl) rfl ?_))))
    refine OT.store_all hT rfl rfl rfl rfl pl rfl rfl rfl (.inl (Nat.le_refl _)) ?_
    refine OT.pures hT 1 rfl (.nil (.seq (.ret (.of (rs := [.cell 2 113, .tmp 3]) [_, _] hs rfl (.cell rfl (Ld.struct_all hT rfl hz rfl) (.tmp rfl .nil)) sl ?_))))
    try dsimp only [one]
    exact ⟨by unfold leftC; rw [if_neg c6]; rfl, rfl⟩

set_option maxHeartbeats 1000000 in
set_option maxRecDepth 100000 in
theorem cl_Undo {x : Cell} {hs : List Chunk} : Fun Tryz.prog 64 [.agg ⟨encCell x⟩] hs (fun v' hs' => v' = .tuple ⟨[.agg ⟨encCell (undoC x).1⟩, .bool (undoC x).2]⟩ ∧ hs = hs') := by
  refine Fun.enter 11 Tryz.func64 rfl Tryz.ntmps64 rfl ?_
  refine TT.seq (.region (.box rfl rfl rfl (fun b_1 => ?_)))
  refine OT.alloc Tryz.zeroValue113 rfl rfl (fun b_2 => ?_)
  refine OT.pures hT 1 rfl (.nil (.seq (.seq (.region (.build (cs := encVl noVl) hT rfl Tryz.zeroValue36 rfl rfl rfl rfl (.pures hT 1 rfl (.store hT rfl rfl rfl rfl pl rfl (Nat.le_of_ble_eq_true rfl) rfl (.inl (Nat.le_refl _)) rfl ?_)))))))
  refine OT.pures hT 1 rfl (.store hT rfl rfl rfl rfl pl rfl (Nat.le_of_ble_eq_true rfl) rfl (.inl (Nat.le_refl _)) rfl ?_)
  refine OT.nil (.seq (.seq (.region (.load rfl rfl (Ld.struct_all (cs := encCell { x with txn := 0, new := noVl }) hT rfl hz rfl) rfl ?_))))
  refine OT.call Tryz.call113 rfl rfl rfl rfl (cl_left (x := { x with txn := 0, new := noVl })) ?_
  rintro v_8 hs_8 ⟨rfl, rfl⟩
  refine OT.pures hT 2 rfl (.store_all hT rfl rfl rfl rfl pl rfl rfl rfl (.inl (Nat.le_refl _)) ?_)
  refine OT.pures hT 1 rfl (.nil (.seq (.ret (.of (rs := [.cell 2 113, .tmp 3]) [_, _] hs rfl (.cell rfl (Ld.struct_all hT rfl hz rfl) (.tmp rfl .nil)) sl ?_))))
  try dsimp only [one]
  refine ⟨?_, rfl⟩
  unfold leftC undoC
  dsimp only
  split <;> rfl

set_option maxHeartbeats 1000000 in
set_option maxRecDepth 100000 in
theorem cl_Commit {x : Cell} {hs : List Chunk} : Fun Tryz.prog 59 [.agg ⟨encCell x⟩] hs (fun v' hs' => v' = .tuple ⟨[.agg ⟨encCell (commitC x).1⟩, .bool (commitC x).2]⟩ ∧ hs = hs') := by
  refine Fun.enter 14 Tryz.func59 rfl Tryz.ntmps59 rfl ?_
  refine TT.seq (.region (.box rfl rfl rfl (fun b_1 => ?_)))
  refine OT.alloc Tryz.zeroValue113 rfl rfl (fun b_2 => ?_)
  refine OT.pures hT 1 rfl (.nil (.seq (.seq (.seq (.region (.pures hT 1 rfl (.load rfl rfl (Ld.one hT rfl hz rfl) rfl ?_)))))))
  refine OT.pures hT 1 rfl (.nil (.seq (.cond rfl (fun c6 => ?_) (fun c6 => ?_))))
  ·
    have c6 : 0 < x.txn := of_decide_eq_true c6
    refine TT.region (.pures hT 1 rfl (.load rfl rfl (Ld.struct (vs := encVl (x).new) hT rfl hz rfl rfl) rfl ?_))
    refine OT.pures hT 1 rfl (.store hT rfl rfl rfl rfl pl rfl (Nat.le_of_ble_eq_true rfl) rfl (.inl (Nat.le_refl _)) rfl ?_)
    refine OT.nil (.seq (.seq (.region (.load rfl rfl (Ld.struct_all (cs := encCell { x with val := x.new }) hT rfl hz rfl) rfl ?_))))
    refine OT.call Tryz.call64 rfl rfl rfl rfl (cl_Undo (x := { x with val := x.new })) ?_
    rintro v_11 hs_11 ⟨rfl, rfl⟩
    refine OT.pures hT 2 rfl (.store_all hT rfl rfl rfl rfl pl rfl rfl rfl (.inl (Nat.le_refl _)) ?_)
    refine OT.pures hT 1 rfl (.nil (.seq (.ret (.of (rs := [.cell 2 113, .tmp 3]) [_, _] hs rfl (.cell rfl (Ld.struct_all hT rfl hz rfl) (.tmp rfl .nil)) sl ?_))))
    try dsimp only [one]
    exact ⟨by unfold commitC; rw [if_pos c6]; rfl, rfl⟩
  ·
    have c6 : ¬ 0 < x.txn := of_decide_eq_false c6
    refine TT.skip (.seq (.seq (.region (.load rfl rfl (Ld.struct_all hT rfl hz rfl) rfl ?_))))
    refine OT.call Tryz.call64 rfl rfl rfl rfl (cl_Undo (x := x)) ?_
    rintro v_11 hs_11 ⟨rfl, rfl⟩
    refine OT.pures hT 2 rfl (.store_all hT rfl rfl rfl rfl pl rfl rfl rfl (.inl (Nat.le_refl _)) ?_)
    refine OT.pures hT 1 rfl (.nil (.seq (.ret (.of (rs := [.cell 2 113, .tmp 3]) [_, _] hs rfl (.cell rfl (Ld.struct_all hT rfl hz rfl) (.tmp rfl .nil)) sl ?_))))
    try dsimp only [one]
    exact ⟨by unfold commitC; rw [if_neg c6]; rfl, rfl⟩

set_option maxHeartbeats 1000000 in
set_option maxRecDepth 100000 in
theorem vs_is {t : Int} {hs : List Chunk} : Fun Tryz.prog 50 [.int .i64 t] hs (fun v' hs' => v' = .bool (isT t) ∧ hs = hs') := by
  refine Fun.enter 9 Tryz.func50 rfl Tryz.ntmps50 rfl ?_
  refine TT.seq (.region (.pures hT 1 rfl (.nil (.seq (.seq (.region (.pures hT 3 rfl (.split 5 rfl (fun g5 => ?_) (fun g5 => ?_)))))))))
  ·
    refine OT.pures hT 4 rfl (.nil (.seq (.ret (.of (rs := [.tmp 2]) [_] hs rfl (.tmp rfl .nil) sl ?_))))
    try dsimp only [one]
    refine ⟨congrArg Value.bool ?_, rfl⟩
    unfold isT
    rw [show decide (1 ≤ t) = true from g5, Bool.true_and]
  ·
    refine OT.pures hT 4 rfl (.nil (.seq (.ret (.of (rs := [.tmp 2]) [_] hs rfl (.tmp rfl .nil) sl ?_))))
    try dsimp only [one]
    refine ⟨congrArg Value.bool ?_, rfl⟩
    unfold isT
    rw [show decide (1 ≤ t) = false from g5, Bool.false_and]

set_option maxHeartbeats 1000000 in
set_option maxRecDepth 100000 in
theorem vs_See {P : Value} {I : Chunk → Prop} {Qb : Pages} (hP : PgsA Tryz.prog 5 P I (fun _ _ => False) (pgOf Qb)) (hQ : Long Qb) {b : Nat} {g : Gone} {H : Chunk} {r : List Chunk} (hH : TrIn 110 b P I Qb g H) {t : Int} {k : ByteArray} : Fun Tryz.prog 20 [.iface 24 (.pointer (some ⟨b, 0, none⟩)), .int .i64 t, .string k] (H :: r) (fun v' hs' => ∃ H', hs' = H' :: r ∧ v' = .tuple ⟨[.agg ⟨encVl (seeK g.2 t k)⟩, .int .i64 0]⟩ ∧ TrIn 110 b P I Qb g H') := by
  refine Fun.enter 29 Tryz.func20 rfl Tryz.ntmps20 rfl ?_
  refine TT.seq (.region (.alloc Tryz.zeroValue36 rfl rfl (fun b_6 => ?_)))
  refine OT.pures hT 1 rfl (.nil (.seq (.seq (.region (.pures hT 2 rfl (.call Tryz.call53 rfl rfl rfl rfl (Fun.pull pl (tg_Get hP hQ hH (k := k))) ?_))))))
  rintro v_14 hs_14 ⟨H1, rfl, rfl, hH1⟩
  have hsk : seeK g.2 t k = match getC g.2 k with | some c => seeC c t | none => noVl := rfl
  generalize getC g.2 k = o at hsk ⊢
  rcases o with _ | z
  ·
    refine OT.pures hT 4 rfl (.alloc Tryz.zeroValue113 rfl rfl (fun b_8 => ?_))
    refine OT.store_all hT rfl rfl rfl rfl pl rfl rfl rfl (.inl (Nat.le_refl _)) ?_
    refine OT.pures hT 2 rfl (.nil (.seq (.seq (.seq (.region (.pures hT 3 rfl (.pures hT 3 rfl (.nil (.seq (.cond_true rfl (.seq (.region (.build (cs := encVl noVl) hT rfl Tryz.zeroValue36 rfl rfl rfl rfl (.pures hT 1 rfl (.store_all hT rfl rfl rfl rfl pl rfl rfl rfl (.inl (Nat.le_refl _)) ?_)))))))))))))))
    refine OT.pures hT 1 rfl (.nil (.seq (.ret (.of (rs := [.cell 6 36, .tmp 7]) [_, _] (H1 :: r) rfl (.cell rfl (Ld.struct_all hT rfl hz rfl) (.tmp rfl .nil)) sl ?_))))
    try dsimp only [one]
    exact ⟨H1, rfl, by rw [hsk]; rfl, hH1⟩
  ·
    refine OT.pures hT 4 rfl (.alloc Tryz.zeroValue113 rfl rfl (fun b_8 => ?_))
    refine OT.store_all hT rfl rfl rfl rfl pl rfl rfl rfl (.inl (Nat.le_refl _)) ?_
    refine OT.pures hT 2 rfl (.nil (.seq (.seq (.seq (.region (.pures hT 3 rfl (.pures hT 3 rfl (.nil (.seq (.cond_false rfl (.skip (.seq (.seq (.region (.load rfl rfl (Ld.struct_all (cs := encCell z) hT rfl hz rfl) rfl ?_)))))))))))))))
    refine OT.pures hT 1 rfl (.call Tryz.call61 rfl rfl rfl rfl (cl_See (x := z)) ?_)
    rintro v_28 hs_28 ⟨rfl, rfl⟩
    refine OT.store_all hT rfl rfl rfl rfl pl rfl rfl rfl (.inl (Nat.le_refl _)) ?_
    refine OT.pures hT 1 rfl (.nil (.seq (.ret (.of (rs := [.cell 6 36, .tmp 7]) [_, _] (H1 :: r) rfl (.cell rfl (Ld.struct_all hT rfl hz rfl) (.tmp rfl .nil)) sl ?_))))
    try dsimp only [one]
    exact ⟨H1, rfl, by rw [hsk]; rfl, hH1⟩

set_option maxHeartbeats 2000000 in
set_option maxRecDepth 100000 in
theorem vs_Range {P : Value} {I : Chunk → Prop} {Qb : Pages} (hP : PgsA Tryz.prog 5 P I (fun _ _ => False) (pgOf Qb)) (hQ : Long Qb) {b : Nat} {g : Gone} {H : Chunk} {r : List Chunk} (hH : TrIn 110 b P I Qb g H) {t : Int} {s e : ByteArray} : Fun Tryz.prog 19 [.iface 24 (.pointer (some ⟨b, 0, none⟩)), .int .i64 t, .string s, .string e] (H :: r) (fun v' hs' => ∃ H' K v, hs' = H' :: K :: r ∧ v' = .tuple ⟨[v, .int .i64 0]⟩ ∧ Own encPair 4 60 v (rangeL g.2 t s e) K ∧ TrIn 110 b P I Qb g H') := by
  refine Fun.enter 47 Tryz.func19 rfl Tryz.ntmps19 rfl ?_
  obtain ⟨_, hsm, _, _, _⟩ := hH.small
  refine TT.seq (.region (.pures hT 2 rfl (.nil (.seq (.seq (.region (.pures hT 3 rfl (.call Tryz.call60 rfl rfl rfl rfl (tg_Scan hP hQ hH) ?_))))))))
  rintro v_20 hs_20 ⟨H1, K1, v1, rfl, rfl, ho1, hH1⟩
  have hfl := List.length_filter_le (fun c => keyIn c.key s e) g.2
  have hrg : rangeL g.2 t s e = (g.2.filter fun c => keyIn c.key s e).filterMap (pairOf t) := rfl
  generalize (g.2.filter fun c => keyIn c.key s e) = l at ho1 hrg hfl ⊢
  obtain ⟨a1, c1, hv1⟩ := (ho1.row (hs := [])).len
  subst hv1
  refine OT.pures hT 5 rfl (.nil (.seq (.seq (.seq (.region (.pures hT 2 rfl (.nil (.seq (.cond_false rfl (.skip (.seq (.seq (.region (.pures hT 1 rfl (.nil (.seq (.seq (.seq (.region (.pures hT 3 rfl (.nil (.seq (.block (.loop (ι := Nat × Value × Chunk) (fun j => (j.1) ≤ l.length ∧ Own encPair 4 60 (j.2.1) ((l.take (j.1)).filterMap (pairOf t)) (j.2.2)) (fun j => l.length - (j.1)) (fun j => [(1, .int .i64 t), (12, (j.2.1)), (26, .slice a1 l.length c1), (27, .int .i64 (l.length : Nat)), (28, .int .i64 ((j.1) : Nat))]) (fun j => (j.2.2) :: H1 :: K1 :: r) (0, .slice none 0 0, []) ?_ (SubR.cons rfl (SubR.cons rfl (SubR.cons rfl (SubR.cons rfl (SubR.cons rfl (SubR.nil _)))))) (.empty sl) ?_))))))))))))))))))))))))
  · dsimp only
    exact ⟨Nat.zero_le _, Own.nil⟩
  rintro ⟨i, w, K⟩ hI
  dsimp only at hI
  obtain ⟨hi, hoK⟩ := hI
  show TT _ _ _ [(1, .int .i64 t), (12, w), (26, .slice a1 l.length c1), (27, .int .i64 (l.length : Nat)), (28, .int .i64 (i : Nat))] (K :: H1 :: K1 :: r)
  refine TT.seq (.region (.pures hT 1 rfl (.nil (.seq (.seq (.cond rfl (fun c29 => ?_) (fun c29 => ?_)))))))
  ·
    have c29 := of_decide_eq_true c29
    obtain ⟨x, hx⟩ := nth (l := l) (i := i) (by omega)
    have hfm := List.length_filterMap_le (pairOf t) (l.take i)
    have htl := List.length_take_le i l
    have hnx : (l.take (i + 1)).filterMap (pairOf t) = (l.take i).filterMap (pairOf t) ++ (pairOf t x).toList := by
      rw [List.take_add_one, hx, Option.toList_some, List.filterMap_append, show List.filterMap (pairOf t) [x] = (pairOf t x).toList by rw [List.filterMap_cons]; cases pairOf t x <;> rfl]
    refine TT.skip (.seq (.seq (.block (.seq (.region (.index hT rfl rfl rfl rfl (ho1.row.there.there) (by omega) (by rw [Int.toNat_natCast]; exact hx) rfl (fun ad_30 hel_30 => ?_)))))))
    refine OT.load rfl rfl (hel_30.ld_struct hT rfl) rfl (.alloc Tryz.zeroValue113 rfl rfl (fun b_14 => ?_))
    refine OT.store_all hT rfl rfl rfl rfl pl rfl rfl rfl (.inl (Nat.le_refl _)) ?_
    refine OT.nil (.seq (.seq (.region (.load rfl rfl (Ld.struct_all hT rfl hz rfl) rfl ?_))))
    refine OT.pures hT 1 rfl (.call Tryz.call61 rfl rfl rfl rfl (cl_See) ?_)
    rintro v_34 hs_34 ⟨rfl, rfl⟩
    refine OT.alloc Tryz.zeroValue36 rfl rfl (fun b_15 => ?_)
    refine OT.store_all hT rfl rfl rfl rfl pl rfl rfl rfl (.inl (Nat.le_refl _)) ?_
    refine OT.nil (.seq (.seq (.region (.pures hT 1 rfl (.load rfl rfl (Ld.one hT rfl hz rfl) rfl ?_)))))
    refine OT.pures hT 1 rfl (.nil (.seq (.cond rfl (fun c37 => ?_) (fun c37 => ?_))))
    ·
      have c37 : ¬ (seeC x t).kind = 0 := by simpa using c37
      have hp : pairOf t x = some (x.key, seeC x t) := by unfold pairOf; rw [if_neg c37]
      refine TT.region (.pures hT 2 rfl (.load rfl rfl (Ld.one hT rfl hz rfl) rfl ?_))
      refine OT.load rfl rfl (Ld.struct_all hT rfl hz rfl) rfl ?_
      refine OT.build (cs := encPair (x.key, seeC x t)) hT rfl Tryz.zeroValue60 rfl rfl rfl rfl ?_
      refine OT.buildSlice (enc := encPair) (xs := [(x.key, seeC x t)]) (xos := [.tmp 42]) el39 rfl rfl rfl rfl rfl (by simp [Value.cells]; rfl) (fun _ _ => rfl) rfl (by decide) rfl (fun v_43 H_43 ho_43 => ?_)
      refine OT.append hT el39 rfl rfl rfl rfl pl hoK (ho_43.row) rfl (by simp only [List.length_singleton]; omega) rfl (fun v_44 H_44 ho_44 => ?_)
      refine OT.pures hT 1 rfl (.nil (.blk (.seq (.region (.pures hT 2 rfl (.nil (.loop (i + 1, v_44, H_44) ?_ ?_ (SubR.cons rfl (SubR.cons rfl (SubR.cons rfl (SubR.cons rfl (SubR.cons' rfl (by (try dsimp only); exact (int_eq (by rw [wrap_i64 (by omega) (by omega)]; omega))) (SubR.nil _)))))) sl)))))))
      · dsimp only
        exact ⟨by omega, by rw [hnx, hp]; exact ho_44⟩
      · dsimp only
        omega
    ·
      have c37 : (seeC x t).kind = 0 := by simpa using c37
      have hp : pairOf t x = none := by unfold pairOf; rw [if_pos c37]
      refine TT.skip (.blk (.seq (.region (.pures hT 2 rfl (.nil (.loop (i + 1, w, K) ?_ ?_ (SubR.cons rfl (SubR.cons rfl (SubR.cons rfl (SubR.cons rfl (SubR.cons' rfl (by (try dsimp only); exact (int_eq (by rw [wrap_i64 (by omega) (by omega)]; omega))) (SubR.nil _)))))) sl))))))
      · dsimp only
        exact ⟨by omega, by rw [hnx, hp, Option.toList_none, List.append_nil]; exact hoK⟩
      · dsimp only
        omega
  ·
    have c29 := of_decide_eq_false c29
    obtain rfl : i = l.length := by omega
    rw [List.take_of_length_le (Nat.le_refl _), ← hrg] at hoK
    refine TT.exit (.seq (.loop (.here (.seq (.seq (.region (.pures hT 3 rfl (.nil (.seq (.ret (.of (rs := [.tmp 8, .tmp 9]) [_, _] (H1 :: K :: r) rfl (.tmp rfl (.tmp rfl .nil)) sl ?_)))))))))))
    try dsimp only [one]
    exact ⟨H1, K, w, rfl, rfl, hoK, hH1⟩

set_option maxHeartbeats 2000000 in
set_option maxRecDepth 100000 in
theorem vs_Write {P : Value} {I : Chunk → Prop} {Qb : Pages} (hP : PgsA Tryz.prog 5 P I (fun _ _ => False) (pgOf Qb)) (hQ : Long Qb) {b : Nat} {g : Gone} {H : Chunk} {r : List Chunk} (hH : TrIn 110 b P I Qb g H) {t : Int} {k : ByteArray} {v : Vl} (hvf : v.f < 2 ^ 64) : Fun Tryz.prog 16 [.pointer (some ⟨b, 0, none⟩), .int .i64 t, .string k, .agg ⟨encVl v⟩] (H :: r) (fun v' hs' => ∃ H' g' e, hs' = H' :: r ∧ v' = .int .i64 e ∧ TrIn 110 b P I Qb g' H' ∧ WriteR t k v g g' e) := by
  refine Fun.enter 77 Tryz.func16 rfl Tryz.ntmps16 rfl ?_
  have hgd := hH.good
  refine TT.seq (.region (.box rfl rfl rfl (fun b_7 => ?_)))
  refine OT.pures hT 1 rfl (.nil (.seq (.seq (.seq (.region (.pures hT 1 rfl (.call Tryz.call50 rfl rfl rfl rfl (vs_is) ?_)))))))
  rintro v_13 hs_13 ⟨rfl, rfl⟩
  refine OT.pures hT 2 rfl (.split 15 rfl (fun g15 => ?_) (fun g15 => ?_))
  ·
    have h1 : isT t = false := by simpa using g15
    refine OT.pures hT 9 rfl (.nil (.seq (.cond_true rfl (.seq (.region (.pures hT 1 rfl (.nil (.seq (.ret (.of (rs := [.tmp 8]) [_] (H :: r) rfl (.tmp rfl .nil) sl ?_))))))))))
    try dsimp only [one]
    exact ⟨H, g, 1, rfl, rfl, hH, .inl ⟨by first | exact .inl h1 | exact .inr (.inl h2) | exact .inr (.inr h3), rfl, rfl⟩⟩
  ·
    have h1 : isT t = true := by simpa using g15
    refine OT.pures hT 1 rfl (.call Tryz.call51 rfl rfl rfl rfl (ky_May) ?_)
    rintro v_17 hs_17 ⟨rfl, rfl⟩
    refine OT.pures hT 3 rfl (.split 20 rfl (fun g20 => ?_) (fun g20 => ?_))
    ·
      have h2 : mayKey k = false := by simpa using g20
      refine OT.pures hT 4 rfl (.nil (.seq (.cond_true rfl (.seq (.region (.pures hT 1 rfl (.nil (.seq (.ret (.of (rs := [.tmp 8]) [_] (H :: r) rfl (.tmp rfl .nil) sl ?_))))))))))
      try dsimp only [one]
      exact ⟨H, g, 1, rfl, rfl, hH, .inl ⟨by first | exact .inl h1 | exact .inr (.inl h2) | exact .inr (.inr h3), rfl, rfl⟩⟩
    ·
      have h2 : mayKey k = true := by simpa using g20
      refine OT.load rfl rfl (Ld.struct_all hT rfl hz rfl) rfl ?_
      refine OT.call Tryz.call52 rfl rfl rfl rfl (dt_May) ?_
      rintro v_22 hs_22 ⟨rfl, rfl⟩
      refine OT.pures hT 2 rfl (.nil (.seq (.cond rfl (fun c24 => ?_) (fun c24 => ?_))))
      ·
        have h3 : mayVl v = false := by simpa using c24
        refine TT.seq (.region (.pures hT 1 rfl (.nil (.seq (.ret (.of (rs := [.tmp 8]) [_] (H :: r) rfl (.tmp rfl .nil) sl ?_))))))
        try dsimp only [one]
        exact ⟨H, g, 1, rfl, rfl, hH, .inl ⟨by first | exact .inl h1 | exact .inr (.inl h2) | exact .inr (.inr h3), rfl, rfl⟩⟩
      ·
        have h3 : mayVl v = true := by simpa using c24
        have hok := And.intro h1 (And.intro h2 h3)
        refine TT.skip (.seq (.seq (.region (.pures hT 1 rfl (.mkiface Tryz.underlying24 rfl rfl rfl rfl (.pures hT 1 rfl (.call Tryz.call53 rfl rfl rfl rfl (Fun.pull pl (tg_Get hP hQ hH (k := k))) ?_)))))))
        rintro v_29 hs_29 ⟨H1, rfl, rfl, hH1⟩
        have hbk : busyK g.2 t k ↔ ∃ c, getC g.2 k = some c ∧ c.txn ≠ 0 ∧ c.txn ≠ t := Iff.rfl
        have hkp : keepsK g.2 k v ↔ v.kind ≠ 0 ∨ ((getC g.2 k).getD noCell).val.kind ≠ 0 := Iff.rfl
        have hwr : (wrC g.2 t k v) = ⟨k, ((getC g.2 k).getD noCell).val, t, v⟩ := rfl
        have hno : getC g.2 k = none → cutC g.2 k = g.2 := fun h => cutC_none fun c hc e => by
          have := (getC_mem hH.small.2.2.1).1 hc
          rw [e, h] at this; cases this
        generalize getC g.2 k = o at hbk hkp hwr hno ⊢
        rcases o with _ | z
        ·
          have hnb : ¬ busyK g.2 t k := fun h => by obtain ⟨c, hc, _⟩ := hbk.1 h; cases hc
          refine OT.pures hT 4 rfl (.alloc Tryz.zeroValue113 rfl rfl (fun b_9 => ?_))
          refine OT.store_all hT rfl rfl rfl rfl pl rfl rfl rfl (.inl (Nat.le_refl _)) ?_
          refine OT.pures hT 2 rfl (.nil (.seq (.seq (.block (.seq (.region (.pures hT 3 rfl (.nil (.seq (.cond_false rfl (.seq (.region (.pures hT 2 rfl (.pures hT 11 rfl (.nil (.seq (.cond_false rfl (.seq (.region (.pures hT 1 rfl (.load rfl rfl (Ld.one hT rfl hz rfl) rfl ?_)))))))))))))))))))))
          refine OT.pures hT 2 rfl (.split 54 rfl (fun g54 => ?_) (fun g54 => ?_))
          ·
            have g54 : v.kind ≠ 0 := by simpa using g54
            have hk : keepsK g.2 k v := hkp.2 (.inl g54)
            refine OT.pures hT 6 rfl (.nil (.seq (.cond_true rfl (.seq (.region (.pures hT 2 rfl (.store hT rfl rfl rfl rfl pl rfl (Nat.le_of_ble_eq_true rfl) rfl (.inl (Nat.le_refl _)) rfl ?_)))))))
            refine OT.nil (.seq (.seq (.region (.pures hT 1 rfl (.load rfl rfl (Ld.struct_all (cs := encCell ⟨k, noVl, 0, noVl⟩) hT rfl hz rfl) rfl ?_)))))
            refine OT.pures hT 1 rfl (.load rfl rfl (Ld.struct_all hT rfl hz rfl) rfl ?_)
            refine OT.call Tryz.call55 rfl rfl rfl rfl (cl_Write (x := ⟨k, noVl, 0, noVl⟩)) ?_
            rintro v_66 hs_66 ⟨rfl, rfl⟩
            refine OT.call Tryz.call54 rfl rfl rfl rfl (Fun.pull pl (tg_Put hP hQ hH1 (x := ⟨k, noVl, t, v⟩) (by have h := wrC_fl (t := t) (k := k) hgd hvf; rw [hwr] at h; exact h))) ?_
            rintro v_67 hs_67 ⟨H2, g2, e2, rfl, rfl, hH2, hp⟩
            rw [show (⟨k, noVl, t, v⟩ : Cell) = (wrC g.2 t k v) from hwr.symm] at hp
            have hq := put_may (wrC_may hgd hok) hp
            refine OT.pures hT 1 rfl (.nil (.seq (.ret (.of (rs := [.tmp 8]) [_] (H2 :: r) rfl (.tmp rfl .nil) sl ?_))))
            try dsimp only [one]
            refine ⟨H2, g2, e2, rfl, rfl, hH2, ?_⟩
            rcases hq with ⟨rfl, h⟩ | ⟨rfl, rfl, _, h⟩
            · exact .inr (.inr (.inl ⟨hok, hnb, rfl, by rw [if_pos hk]; exact h⟩))
            · exact .inr (.inr (.inr ⟨hok, hnb, rfl, rfl, h, hk⟩))
          ·
            have g54 : v.kind = 0 := by simpa using g54
            refine OT.pures hT 2 rfl (.load rfl rfl (Ld.one hT rfl hz rfl) rfl ?_)
            refine OT.pures hT 3 rfl (.nil (.seq (.cond rfl (fun c50 => ?_) (fun c50 => ?_))))
            ·
              have hk : keepsK g.2 k v := hkp.2 (.inr (by simpa using c50))
              refine TT.seq (.region (.pures hT 2 rfl (.store hT rfl rfl rfl rfl pl rfl (Nat.le_of_ble_eq_true rfl) rfl (.inl (Nat.le_refl _)) rfl ?_)))
              refine OT.nil (.seq (.seq (.region (.pures hT 1 rfl (.load rfl rfl (Ld.struct_all (cs := encCell ⟨k, noVl, 0, noVl⟩) hT rfl hz rfl) rfl ?_)))))
              refine OT.pures hT 1 rfl (.load rfl rfl (Ld.struct_all hT rfl hz rfl) rfl ?_)
              refine OT.call Tryz.call55 rfl rfl rfl rfl (cl_Write (x := ⟨k, noVl, 0, noVl⟩)) ?_
              rintro v_66 hs_66 ⟨rfl, rfl⟩
              refine OT.call Tryz.call54 rfl rfl rfl rfl (Fun.pull pl (tg_Put hP hQ hH1 (x := ⟨k, noVl, t, v⟩) (by have h := wrC_fl (t := t) (k := k) hgd hvf; rw [hwr] at h; exact h))) ?_
              rintro v_67 hs_67 ⟨H2, g2, e2, rfl, rfl, hH2, hp⟩
              rw [show (⟨k, noVl, t, v⟩ : Cell) = (wrC g.2 t k v) from hwr.symm] at hp
              have hq := put_may (wrC_may hgd hok) hp
              refine OT.pures hT 1 rfl (.nil (.seq (.ret (.of (rs := [.tmp 8]) [_] (H2 :: r) rfl (.tmp rfl .nil) sl ?_))))
              try dsimp only [one]
              refine ⟨H2, g2, e2, rfl, rfl, hH2, ?_⟩
              rcases hq with ⟨rfl, h⟩ | ⟨rfl, rfl, _, h⟩
              · exact .inr (.inr (.inl ⟨hok, hnb, rfl, by rw [if_pos hk]; exact h⟩))
              · exact .inr (.inr (.inr ⟨hok, hnb, rfl, rfl, h, hk⟩))
            ·
              have hnk : ¬ keepsK g.2 k v := fun h => (hkp.1 h).elim (fun h => h g54) (fun h => h (by simpa using c50))
              refine TT.seq (.region (.pures hT 2 rfl (.nil (.seq (.cond_false rfl (.skip (.blk (.seq (.seq (.region (.pures hT 2 rfl (.nil (.seq (.ret (.of (rs := [.tmp 8]) [_] (H1 :: r) rfl (.tmp rfl .nil) sl ?_)))))))))))))))
              try dsimp only [one]
              exact ⟨H1, g, 0, rfl, rfl, hH1, .inr (.inr (.inl ⟨hok, hnb, rfl, by rw [if_neg hnk]; exact (hno rfl).symm⟩))⟩
        ·
          refine OT.pures hT 4 rfl (.alloc Tryz.zeroValue113 rfl rfl (fun b_9 => ?_))
          refine OT.store_all hT rfl rfl rfl rfl pl rfl rfl rfl (.inl (Nat.le_refl _)) ?_
          refine OT.pures hT 2 rfl (.nil (.seq (.seq (.block (.seq (.region (.pures hT 3 rfl (.nil (.seq (.cond_false rfl (.seq (.region (.pures hT 2 rfl (.pures hT 1 rfl (.load rfl rfl (Ld.one hT rfl hz rfl) rfl ?_)))))))))))))))
          refine OT.pures hT 3 rfl (.split 44 rfl (fun g44 => ?_) (fun g44 => ?_))
          ·
            have g44 : z.txn ≠ 0 := by simpa using g44
            refine OT.pures hT 1 rfl (.load rfl rfl (Ld.one hT rfl hz rfl) rfl ?_)
            refine OT.pures hT 4 rfl (.nil (.seq (.cond rfl (fun c37 => ?_) (fun c37 => ?_))))
            ·
              have c37 : z.txn ≠ t := by simpa using c37
              refine TT.seq (.region (.pures hT 1 rfl (.nil (.seq (.ret (.of (rs := [.tmp 8]) [_] (H1 :: r) rfl (.tmp rfl .nil) sl ?_))))))
              try dsimp only [one]
              exact ⟨H1, g, 9, rfl, rfl, hH1, .inr (.inl ⟨hok, hbk.2 ⟨z, rfl, g44, c37⟩, rfl, rfl⟩)⟩
            ·
              have c37 : z.txn = t := by simpa using c37
              have hnb : ¬ busyK g.2 t k := fun h => by obtain ⟨c, hc, _, h2⟩ := hbk.1 h; injection hc with hc; subst hc; exact h2 c37
              refine TT.seq (.region (.pures hT 1 rfl (.load rfl rfl (Ld.one hT rfl hz rfl) rfl ?_)))
              refine OT.pures hT 2 rfl (.split 54 rfl (fun g54 => ?_) (fun g54 => ?_))
              ·
                have g54 : v.kind ≠ 0 := by simpa using g54
                have hk : keepsK g.2 k v := hkp.2 (.inl g54)
                refine OT.pures hT 6 rfl (.nil (.seq (.cond_true rfl (.seq (.region (.pures hT 2 rfl (.store hT rfl rfl rfl rfl pl rfl (Nat.le_of_ble_eq_true rfl) rfl (.inl (Nat.le_refl _)) rfl ?_)))))))
                refine OT.nil (.seq (.seq (.region (.pures hT 1 rfl (.load rfl rfl (Ld.struct_all (cs := encCell ⟨k, z.val, z.txn, z.new⟩) hT rfl hz rfl) rfl ?_)))))
                refine OT.pures hT 1 rfl (.load rfl rfl (Ld.struct_all hT rfl hz rfl) rfl ?_)
                refine OT.call Tryz.call55 rfl rfl rfl rfl (cl_Write (x := ⟨k, z.val, z.txn, z.new⟩)) ?_
                rintro v_66 hs_66 ⟨rfl, rfl⟩
                refine OT.call Tryz.call54 rfl rfl rfl rfl (Fun.pull pl (tg_Put hP hQ hH1 (x := ⟨k, z.val, t, v⟩) (by have h := wrC_fl (t := t) (k := k) hgd hvf; rw [hwr] at h; exact h))) ?_
                rintro v_67 hs_67 ⟨H2, g2, e2, rfl, rfl, hH2, hp⟩
                rw [show (⟨k, z.val, t, v⟩ : Cell) = (wrC g.2 t k v) from hwr.symm] at hp
                have hq := put_may (wrC_may hgd hok) hp
                refine OT.pures hT 1 rfl (.nil (.seq (.ret (.of (rs := [.tmp 8]) [_] (H2 :: r) rfl (.tmp rfl .nil) sl ?_))))
                try dsimp only [one]
                refine ⟨H2, g2, e2, rfl, rfl, hH2, ?_⟩
                rcases hq with ⟨rfl, h⟩ | ⟨rfl, rfl, _, h⟩
                · exact .inr (.inr (.inl ⟨hok, hnb, rfl, by rw [if_pos hk]; exact h⟩))
                · exact .inr (.inr (.inr ⟨hok, hnb, rfl, rfl, h, hk⟩))
              ·
                have g54 : v.kind = 0 := by simpa using g54
                refine OT.pures hT 2 rfl (.load rfl rfl (Ld.one hT rfl hz rfl) rfl ?_)
                refine OT.pures hT 3 rfl (.nil (.seq (.cond rfl (fun c50 => ?_) (fun c50 => ?_))))
                ·
                  have hk : keepsK g.2 k v := hkp.2 (.inr (by simpa using c50))
                  refine TT.seq (.region (.pures hT 2 rfl (.store hT rfl rfl rfl rfl pl rfl (Nat.le_of_ble_eq_true rfl) rfl (.inl (Nat.le_refl _)) rfl ?_)))
                  refine OT.nil (.seq (.seq (.region (.pures hT 1 rfl (.load rfl rfl (Ld.struct_all (cs := encCell ⟨k, z.val, z.txn, z.new⟩) hT rfl hz rfl) rfl ?_)))))
                  refine OT.pures hT 1 rfl (.load rfl rfl (Ld.struct_all hT rfl hz rfl) rfl ?_)
                  refine OT.call Tryz.call55 rfl rfl rfl rfl (cl_Write (x := ⟨k, z.val, z.txn, z.new⟩)) ?_
                  rintro v_66 hs_66 ⟨rfl, rfl⟩
                  refine OT.call Tryz.call54 rfl rfl rfl rfl (Fun.pull pl (tg_Put hP hQ hH1 (x := ⟨k, z.val, t, v⟩) (by have h := wrC_fl (t := t) (k := k) hgd hvf; rw [hwr] at h; exact h))) ?_
                  rintro v_67 hs_67 ⟨H2, g2, e2, rfl, rfl, hH2, hp⟩
                  rw [show (⟨k, z.val, t, v⟩ : Cell) = (wrC g.2 t k v) from hwr.symm] at hp
                  have hq := put_may (wrC_may hgd hok) hp
                  refine OT.pures hT 1 rfl (.nil (.seq (.ret (.of (rs := [.tmp 8]) [_] (H2 :: r) rfl (.tmp rfl .nil) sl ?_))))
                  try dsimp only [one]
                  refine ⟨H2, g2, e2, rfl, rfl, hH2, ?_⟩
                  rcases hq with ⟨rfl, h⟩ | ⟨rfl, rfl, _, h⟩
                  · exact .inr (.inr (.inl ⟨hok, hnb, rfl, by rw [if_pos hk]; exact h⟩))
                  · exact .inr (.inr (.inr ⟨hok, hnb, rfl, rfl, h, hk⟩))
                ·
                  have hnk : ¬ keepsK g.2 k v := fun h => (hkp.1 h).elim (fun h => h g54) (fun h => h (by simpa using c50))
                  refine TT.seq (.region (.pures hT 2 rfl (.nil (.seq (.cond_true rfl (.region (.pures hT 2 rfl (.call Tryz.call56 rfl rfl rfl rfl (Fun.pull pl (tg_Del hP hQ hH1 (k := k))) ?_))))))))
                  rintro v_73 hs_73 ⟨H3, g3, rfl, rfl, hH3, hg3, _⟩
                  refine OT.pures hT 4 rfl (.nil (.blk (.seq (.seq (.region (.pures hT 2 rfl (.nil (.seq (.ret (.of (rs := [.tmp 8]) [_] (H3 :: r) rfl (.tmp rfl .nil) sl ?_))))))))))
                  try dsimp only [one]
                  exact ⟨H3, g3, 0, rfl, rfl, hH3, .inr (.inr (.inl ⟨hok, hnb, rfl, by rw [if_neg hnk]; exact hg3⟩))⟩
          ·
            have g44 : z.txn = 0 := by simpa using g44
            have hnb : ¬ busyK g.2 t k := fun h => by obtain ⟨c, hc, h1, _⟩ := hbk.1 h; injection hc with hc; subst hc; exact h1 g44
            refine OT.pures hT 6 rfl (.nil (.seq (.cond_false rfl (.seq (.region (.pures hT 1 rfl (.load rfl rfl (Ld.one hT rfl hz rfl) rfl ?_)))))))
            refine OT.pures hT 2 rfl (.split 54 rfl (fun g54 => ?_) (fun g54 => ?_))
            ·
              have g54 : v.kind ≠ 0 := by simpa using g54
              have hk : keepsK g.2 k v := hkp.2 (.inl g54)
              refine OT.pures hT 6 rfl (.nil (.seq (.cond_true rfl (.seq (.region (.pures hT 2 rfl (.store hT rfl rfl rfl rfl pl rfl (Nat.le_of_ble_eq_true rfl) rfl (.inl (Nat.le_refl _)) rfl ?_)))))))
              refine OT.nil (.seq (.seq (.region (.pures hT 1 rfl (.load rfl rfl (Ld.struct_all (cs := encCell ⟨k, z.val, z.txn, z.new⟩) hT rfl hz rfl) rfl ?_)))))
              refine OT.pures hT 1 rfl (.load rfl rfl (Ld.struct_all hT rfl hz rfl) rfl ?_)
              refine OT.call Tryz.call55 rfl rfl rfl rfl (cl_Write (x := ⟨k, z.val, z.txn, z.new⟩)) ?_
              rintro v_66 hs_66 ⟨rfl, rfl⟩
              refine OT.call Tryz.call54 rfl rfl rfl rfl (Fun.pull pl (tg_Put hP hQ hH1 (x := ⟨k, z.val, t, v⟩) (by have h := wrC_fl (t := t) (k := k) hgd hvf; rw [hwr] at h; exact h))) ?_
              rintro v_67 hs_67 ⟨H2, g2, e2, rfl, rfl, hH2, hp⟩
              rw [show (⟨k, z.val, t, v⟩ : Cell) = (wrC g.2 t k v) from hwr.symm] at hp
              have hq := put_may (wrC_may hgd hok) hp
              refine OT.pures hT 1 rfl (.nil (.seq (.ret (.of (rs := [.tmp 8]) [_] (H2 :: r) rfl (.tmp rfl .nil) sl ?_))))
              try dsimp only [one]
              refine ⟨H2, g2, e2, rfl, rfl, hH2, ?_⟩
              rcases hq with ⟨rfl, h⟩ | ⟨rfl, rfl, _, h⟩
              · exact .inr (.inr (.inl ⟨hok, hnb, rfl, by rw [if_pos hk]; exact h⟩))
              · exact .inr (.inr (.inr ⟨hok, hnb, rfl, rfl, h, hk⟩))
            ·
              have g54 : v.kind = 0 := by simpa using g54
              refine OT.pures hT 2 rfl (.load rfl rfl (Ld.one hT rfl hz rfl) rfl ?_)
              refine OT.pures hT 3 rfl (.nil (.seq (.cond rfl (fun c50 => ?_) (fun c50 => ?_))))
              ·
                have hk : keepsK g.2 k v := hkp.2 (.inr (by simpa using c50))
                refine TT.seq (.region (.pures hT 2 rfl (.store hT rfl rfl rfl rfl pl rfl (Nat.le_of_ble_eq_true rfl) rfl (.inl (Nat.le_refl _)) rfl ?_)))
                refine OT.nil (.seq (.seq (.region (.pures hT 1 rfl (.load rfl rfl (Ld.struct_all (cs := encCell ⟨k, z.val, z.txn, z.new⟩) hT rfl hz rfl) rfl ?_)))))
                refine OT.pures hT 1 rfl (.load rfl rfl (Ld.struct_all hT rfl hz rfl) rfl ?_)
                refine OT.call Tryz.call55 rfl rfl rfl rfl (cl_Write (x := ⟨k, z.val, z.txn, z.new⟩)) ?_
                rintro v_66 hs_66 ⟨rfl, rfl⟩
                refine OT.call Tryz.call54 rfl rfl rfl rfl (Fun.pull pl (tg_Put hP hQ hH1 (x := ⟨k, z.val, t, v⟩) (by have h := wrC_fl (t := t) (k := k) hgd hvf; rw [hwr] at h; exact h))) ?_
                rintro v_67 hs_67 ⟨H2, g2, e2, rfl, rfl, hH2, hp⟩
                rw [show (⟨k, z.val, t, v⟩ : Cell) = (wrC g.2 t k v) from hwr.symm] at hp
                have hq := put_may (wrC_may hgd hok) hp
                refine OT.pures hT 1 rfl (.nil (.seq (.ret (.of (rs := [.tmp 8]) [_] (H2 :: r) rfl (.tmp rfl .nil) sl ?_))))
                try dsimp only [one]
                refine ⟨H2, g2, e2, rfl, rfl, hH2, ?_⟩
                rcases hq with ⟨rfl, h⟩ | ⟨rfl, rfl, _, h⟩
                · exact .inr (.inr (.inl ⟨hok, hnb, rfl, by rw [if_pos hk]; exact h⟩))
                · exact .inr (.inr (.inr ⟨hok, hnb, rfl, rfl, h, hk⟩))
              ·
                have hnk : ¬ keepsK g.2 k v := fun h => (hkp.1 h).elim (fun h => h g54) (fun h => h (by simpa using c50))
                refine TT.seq (.region (.pures hT 2 rfl (.nil (.seq (.cond_true rfl (.region (.pures hT 2 rfl (.call Tryz.call56 rfl rfl rfl rfl (Fun.pull pl (tg_Del hP hQ hH1 (k := k))) ?_))))))))
                rintro v_73 hs_73 ⟨H3, g3, rfl, rfl, hH3, hg3, _⟩
                refine OT.pures hT 4 rfl (.nil (.blk (.seq (.seq (.region (.pures hT 2 rfl (.nil (.seq (.ret (.of (rs := [.tmp 8]) [_] (H3 :: r) rfl (.tmp rfl .nil) sl ?_))))))))))
                try dsimp only [one]
                exact ⟨H3, g3, 0, rfl, rfl, hH3, .inr (.inr (.inl ⟨hok, hnb, rfl, by rw [if_neg hnk]; exact hg3⟩))⟩

end Go.Proofs.YtihpkgmfkbkffaaGreat.Sx
end

section
namespace Go.Proofs.YtihpkgmfkbkffaaGreat.Sx
open Go Go.Sx Go.Pl
variable [Outer]

set_option maxHeartbeats 8000000 in
set_option maxRecDepth 100000 in
theorem vs_end {P : Value} {I : Chunk → Prop} {Qb : Pages} (hP : PgsA Tryz.prog 5 P I (fun _ _ => False) (pgOf Qb)) (hQ : Long Qb) {b : Nat} {g : Gone} {H : Chunk} {r : List Chunk} (hH : TrIn 110 b P I Qb g H) {Z : Chunk} {fw fh : Nat} {capsw : List Value} {p : Int → Bool} {how : Cell → Cell × Bool} (hok : HowOk how) (hkk : KeepsKey g.2 (endF p how)) (hcw : ∀ args w, (callFunc fw args).run Tryz.prog w = .ok (.enter fw args) w) (hch : ∀ args w, (callFunc fh args).run Tryz.prog w = .ok (.enter fh args) w) (hw : ∀ (x : Int) (r' : List Chunk), Fun Tryz.prog fw (.int .i64 x :: capsw) (Z :: r') fun v' hs' => v' = .bool (p x) ∧ hs' = Z :: r') (hh : ∀ (x : Cell) (hs : List Chunk), Fun Tryz.prog fh [.agg ⟨encCell x⟩] hs fun v' hs' => v' = .tuple ⟨[.agg ⟨encCell (how x).1⟩, .bool (how x).2]⟩ ∧ hs = hs') : Fun Tryz.prog 57 [.pointer (some ⟨b, 0, none⟩), .func (.func fw) ⟨[]⟩ ⟨capsw⟩, .func (.func fh) #[] #[]] (H :: Z :: r) (fun v' hs' => ∃ H' g', hs' = H' :: Z :: r ∧ v' = .tuple ⟨[.int .i64 (endN g.2 p : Nat), .int .i64 0]⟩ ∧ TrIn 110 b P I Qb g' H' ∧ g'.2 = endL g.2 p how) := by
  refine Fun.enter 88 Tryz.func57 rfl Tryz.ntmps57 rfl ?_
  obtain ⟨_, hsm, hri, _, _⟩ := hH.small
  have hgd := hH.good
  refine TT.seq (.region (.pures hT 2 rfl (.nil (.seq (.seq (.region (.pures hT 1 rfl (.mkiface Tryz.underlying24 rfl rfl rfl rfl (.call Tryz.call60 rfl rfl rfl rfl (tg_Scan hP hQ hH) ?_)))))))))
  rintro v_22 hs_22 ⟨H1, K1, v1, rfl, rfl, ho1, hH1⟩
  rw [all_in] at ho1
  obtain ⟨a1, c1, hv1⟩ := (ho1.row (hs := [])).len
  subst hv1
  obtain ⟨Qs, hS1, hR1⟩ := hH1
  have hQs := hS1.long hQ
  refine OT.pures hT 5 rfl (.nil (.seq (.seq (.seq (.region (.pures hT 2 rfl (.nil (.seq (.cond_false rfl (.skip (.seq (.seq (.region (.pures hT 1 rfl (.mkiface Tryz.underlying24 rfl rfl rfl rfl (.call Tryz.call15 rfl rfl rfl rfl (Fun.pull pl (tt_NewS hP hQ hS1 hR1)) ?_))))))))))))))))
  rintro v_30 hs_30 ⟨t, HT0, rfl, rfl, hT0⟩
  refine OT.pures hT 2 rfl (.nil (.seq (.seq (.seq (.region (.pures hT 3 rfl (.nil (.seq (.block (.loop (ι := Nat × Chunk × Gone) (fun j => (j.1) ≤ g.2.length ∧ TrT b t P I Qb Qs (j.2.2) (j.2.1) ∧ (j.2.2).2 = midE g.2 (endF p how) (j.1)) (fun j => g.2.length - (j.1)) (fun j => [(0, .pointer (some ⟨b, 0, none⟩)), (1, .func (.func fw) ⟨[]⟩ ⟨capsw⟩), (2, .func (.func fh) #[] #[]), (10, .pointer (some ⟨t, 0, none⟩)), (9, .int .i64 0), (11, .int .i64 (((g.2.take (j.1)).filter (fun c => decide (c.txn ≠ 0 ∧ p c.txn = true))).length : Nat)), (31, .slice a1 g.2.length c1), (32, .int .i64 (g.2.length : Nat)), (33, .int .i64 ((j.1) : Nat))]) (fun j => (j.2.1) :: K1 :: Z :: r) (0, HT0, g) ?_ (SubR.cons rfl (SubR.cons rfl (SubR.cons rfl (SubR.cons rfl (SubR.cons rfl (SubR.cons rfl (SubR.cons rfl (SubR.cons rfl (SubR.cons rfl (SubR.nil _)))))))))) sl ?_))))))))))
  · dsimp only
    exact ⟨Nat.zero_le _, hT0, rfl⟩
  rintro ⟨i, HT, g2⟩ hI
  dsimp only at hI
  obtain ⟨hi, hTT, hg2⟩ := hI
  show TT _ _ _ [(0, .pointer (some ⟨b, 0, none⟩)), (1, .func (.func fw) ⟨[]⟩ ⟨capsw⟩), (2, .func (.func fh) #[] #[]), (10, .pointer (some ⟨t, 0, none⟩)), (9, .int .i64 0), (11, .int .i64 (((g.2.take i).filter (fun c => decide (c.txn ≠ 0 ∧ p c.txn = true))).length : Nat)), (31, .slice a1 g.2.length c1), (32, .int .i64 (g.2.length : Nat)), (33, .int .i64 (i : Nat))] (HT :: K1 :: Z :: r)
  refine TT.seq (.region (.pures hT 1 rfl (.nil (.seq (.seq (.cond rfl (fun c34 => ?_) (fun c34 => ?_)))))))
  ·
    have c34 := of_decide_eq_true c34
    obtain ⟨x, hx⟩ := nth (l := g.2) (i := i) (by omega)
    obtain ⟨hxm, hxf⟩ := hgd x (List.mem_of_getElem? hx)
    have hfew := filter_few g.2 (fun c => decide (c.txn ≠ 0 ∧ p c.txn = true)) i
    refine TT.skip (.seq (.seq (.block (.seq (.region (.index hT rfl rfl rfl rfl (ho1.row.there) (by omega) (by rw [Int.toNat_natCast]; exact hx) rfl (fun ad_35 hel_35 => ?_)))))))
    refine OT.load rfl rfl (hel_35.ld_struct hT rfl) rfl (.alloc Tryz.zeroValue113 rfl rfl (fun b_13 => ?_))
    refine OT.store_all hT rfl rfl rfl rfl pl rfl rfl rfl (.inl (Nat.le_refl _)) ?_
    refine OT.nil (.seq (.seq (.seq (.region (.pures hT 1 rfl (.load rfl rfl (Ld.one hT rfl hz rfl) rfl ?_))))))
    refine OT.pures hT 2 rfl (.split 40 rfl (fun g40 => ?_) (fun g40 => ?_))
    ·
      have g40 : x.txn = 0 := eq_of_beq g40
      have hF : endF p how x = some x := by unfold endF; rw [if_neg (fun h => h.1 g40)]
      have hcn := filter_no (p := (fun c => decide (c.txn ≠ 0 ∧ p c.txn = true))) hx (decide_eq_false (fun h => h.1 g40))
      refine OT.pures hT 6 rfl (.nil (.seq (.cond_true rfl (.exit (.seq (.here (.seq (.region (.pures hT 2 rfl (.nil (.loop (i + 1, HT, g2) ?_ ?_ (SubR.cons rfl (SubR.cons rfl (SubR.cons rfl (SubR.cons rfl (SubR.cons rfl (SubR.cons' rfl (by (try dsimp only); exact (int_eq (by rw [hcn]))) (SubR.cons rfl (SubR.cons rfl (SubR.cons' rfl (by (try dsimp only); exact (int_eq (by rw [wrap_i64 (by omega) (by omega)]; omega))) (SubR.nil _)))))))))) sl)))))))))))
      · dsimp only
        exact ⟨by omega, hTT, by rw [mid_skip hx hF]; exact hg2⟩
      · dsimp only
        omega
    ·
      have g40 : x.txn ≠ 0 := fun h => by rw [h] at g40; simp at g40
      refine OT.pures hT 2 rfl (.load rfl rfl (Ld.one hT rfl hz rfl) rfl ?_)
      refine OT.callc hcw rfl rfl rfl rfl (Fun.weaken sl (hw _ _)) ?_
      rintro v_44 hs_44 ⟨rfl, rfl⟩
      refine OT.pures hT 2 rfl (.nil (.seq (.cond rfl (fun c46 => ?_) (fun c46 => ?_))))
      ·
        have c46 : ¬ p x.txn = true := by simpa using c46
        have hF : endF p how x = some x := by unfold endF; rw [if_neg (fun h => c46 h.2)]
        have hcn := filter_no (p := (fun c => decide (c.txn ≠ 0 ∧ p c.txn = true))) hx (decide_eq_false (fun h => c46 h.2))
        refine TT.exit (.seq (.here (.seq (.region (.pures hT 2 rfl (.nil (.loop (i + 1, HT, g2) ?_ ?_ (SubR.cons rfl (SubR.cons rfl (SubR.cons rfl (SubR.cons rfl (SubR.cons rfl (SubR.cons' rfl (by (try dsimp only); exact (int_eq (by rw [hcn]))) (SubR.cons rfl (SubR.cons rfl (SubR.cons' rfl (by (try dsimp only); exact (int_eq (by rw [wrap_i64 (by omega) (by omega)]; omega))) (SubR.nil _)))))))))) sl)))))))
        · dsimp only
          exact ⟨by omega, hTT, by rw [mid_skip hx hF]; exact hg2⟩
        · dsimp only
          omega
      ·
        have c46 : p x.txn = true := by simpa using c46
        have hcn := (filter_at (p := (fun c => decide (c.txn ≠ 0 ∧ p c.txn = true))) hx (decide_eq_true ⟨g40, c46⟩)).2
        refine TT.skip (.seq (.seq (.seq (.region (.pures hT 1 rfl (.load rfl rfl (Ld.struct_all hT rfl hz rfl) rfl ?_))))))
        refine OT.callc hch rfl rfl rfl rfl (Fun.weaken sl (hh _ _)) ?_
        rintro v_50 hs_50 ⟨rfl, rfl⟩
        refine OT.pures hT 3 rfl (.alloc Tryz.zeroValue113 rfl rfl (fun b_14 => ?_))
        refine OT.store_all hT rfl rfl rfl rfl pl rfl rfl rfl (.inl (Nat.le_refl _)) ?_
        refine OT.pures hT 1 rfl (.nil (.seq (.seq (.region (.pures hT 1 rfl (.nil (.seq (.cond rfl (fun c53 => ?_) (fun c53 => ?_)))))))))
        ·
          have c53 : (how x).2 = true := c53
          obtain ⟨hk1, hk2, hk3, hk4⟩ := hok x hxm g40 hxf c53
          have hF : endF p how x = some (how x).1 := by unfold endF; rw [if_pos ⟨g40, c46⟩, if_pos c53]
          refine TT.region (.pures hT 1 rfl (.load rfl rfl (Ld.struct_all hT rfl hz rfl) rfl ?_))
          refine OT.call Tryz.call54 rfl rfl rfl rfl (Fun.pull pl (tt_Place hP hQ hQs hTT hk2 hk3 (c := x) (by rw [hg2]; exact List.mem_of_getElem? (midE_at hx)) hk1.symm hk4)) ?_
          rintro v_56 hs_56 ⟨HT1, g3, rfl, rfl, hTT1, hg3⟩
          rw [hg2, mid_put hri hkk hx hF] at hg3
          refine OT.pures hT 1 rfl (.nil (.seq (.seq (.seq (.region (.pures hT 2 rfl (.nil (.seq (.cond_false rfl (.skip (.seq (.region (.pures hT 3 rfl (.nil (.blk (.seq (.region (.pures hT 2 rfl (.nil (.loop (i + 1, HT1, g3) ?_ ?_ (SubR.cons rfl (SubR.cons rfl (SubR.cons rfl (SubR.cons rfl (SubR.cons rfl (SubR.cons' rfl (by (try dsimp only); exact (int_eq (by rw [hcn, wrap_i64 (by omega) (by omega)]; omega))) (SubR.cons rfl (SubR.cons rfl (SubR.cons' rfl (by (try dsimp only); exact (int_eq (by rw [wrap_i64 (by omega) (by omega)]; omega))) (SubR.nil _)))))))))) sl))))))))))))))))))))
          · dsimp only
            exact ⟨by omega, hTT1, hg3⟩
          · dsimp only
            omega
        ·
          have c53 : (how x).2 = false := c53
          have hF : endF p how x = none := by unfold endF; rw [if_pos ⟨g40, c46⟩, if_neg (by rw [c53]; simp)]
          refine TT.region (.pures hT 2 rfl (.load rfl rfl (Ld.one hT rfl hz rfl) rfl ?_))
          refine OT.call Tryz.call56 rfl rfl rfl rfl (Fun.pull pl (tt_Del hP hQ hQs hTT (k := x.key))) ?_
          rintro v_61 hs_61 ⟨HT1, g3, bb, rfl, rfl, hTT1, hg3⟩
          rw [hg2, mid_cut hri hkk hx hF] at hg3
          refine OT.pures hT 4 rfl (.nil (.seq (.seq (.seq (.region (.pures hT 2 rfl (.nil (.seq (.cond_false rfl (.skip (.seq (.region (.pures hT 3 rfl (.nil (.blk (.seq (.region (.pures hT 2 rfl (.nil (.loop (i + 1, HT1, g3) ?_ ?_ (SubR.cons rfl (SubR.cons rfl (SubR.cons rfl (SubR.cons rfl (SubR.cons rfl (SubR.cons' rfl (by (try dsimp only); exact (int_eq (by rw [hcn, wrap_i64 (by omega) (by omega)]; omega))) (SubR.cons rfl (SubR.cons rfl (SubR.cons' rfl (by (try dsimp only); exact (int_eq (by rw [wrap_i64 (by omega) (by omega)]; omega))) (SubR.nil _)))))))))) sl))))))))))))))))))))
          · dsimp only
            exact ⟨by omega, hTT1, hg3⟩
          · dsimp only
            omega
  ·
    have c34 := of_decide_eq_false c34
    obtain rfl : i = g.2.length := by omega
    rw [mid_all] at hg2
    rw [List.take_of_length_le (Nat.le_refl _)]
    refine TT.exit (.seq (.loop (.here (.seq (.seq (.seq (.region (.pures hT 1 rfl ?_))))))))
    obtain ⟨Qt, hTS, hRT⟩ := hTT
    refine OT.call Tryz.call47 rfl rfl rfl rfl (Fun.pull pl (tt_ChangesT hP hQ hQs hTS)) ?_
    rintro v_71 hs_71 ⟨ts, HI, HT3, rfl, hOI, hT3, him, hmy, htl⟩
    have hlay := hT3.lay_chgs
    have hAt : ∀ hs, ImsAt (HI :: hs) v_71 ts := fun hs => hOI.at (by omega) (fun t ht => by have := (hmy t.img (List.mem_map.2 ⟨t, ht, rfl⟩)).2; show t.b.length ≤ _; have e : t.img.2 = t.b := rfl; rw [e] at this; omega)
    obtain ⟨a71, c71, hv71⟩ := (hAt []).row.len
    subst hv71
    obtain ⟨m3, ⟨mb3, M3, G3, rfl, _, _, hG3⟩, _⟩ := hT3
    refine OT.perm sh_split (.pures hT 2 rfl (.nil (.seq (.block (.loop (ι := Nat × Chunk) (fun j => (j.1) ≤ ts.length ∧ ShAt 110 b P I Qb (lay Qs ((imgs ts).take (j.1))) (j.2)) (fun j => ts.length - (j.1)) (fun j => [(0, .pointer (some ⟨b, 0, none⟩)), (11, .int .i64 (endN g.2 p : Nat)), (71, .slice a71 ts.length c71), (72, .int .i64 (ts.length : Nat)), (73, .int .i64 ((j.1) : Nat))]) (fun j => HI :: (j.2) :: Z :: r) (0, G3) ?_ (SubR.cons rfl (SubR.cons rfl (SubR.cons rfl (SubR.cons rfl (SubR.cons rfl (SubR.nil _)))))) sl ?_)))))
    · dsimp only
      exact ⟨Nat.zero_le _, hG3⟩
    rintro ⟨k, G⟩ hI
    dsimp only at hI
    obtain ⟨hk, hG⟩ := hI
    show TT _ _ _ [(0, .pointer (some ⟨b, 0, none⟩)), (11, .int .i64 (endN g.2 p : Nat)), (71, .slice a71 ts.length c71), (72, .int .i64 (ts.length : Nat)), (73, .int .i64 (k : Nat))] (HI :: G :: Z :: r)
    refine TT.seq (.region (.pures hT 1 rfl (.nil (.seq (.seq (.cond rfl (fun c74 => ?_) (fun c74 => ?_)))))))
    ·
      have c74 := of_decide_eq_true c74
      obtain ⟨y, hy⟩ := nth (l := ts) (i := k) (by omega)
      have hym := List.mem_of_getElem? hy
      have hmx := hmy y.img (List.mem_map.2 ⟨y, hym, rfl⟩)
      refine TT.skip (.seq (.seq (.block (.seq (.region (.index hT rfl rfl rfl rfl (hAt _).row (by omega) (by rw [Int.toNat_natCast]; exact hy) rfl (fun ad_75 hel_75 => ?_)))))))
      refine OT.load rfl rfl (hel_75.ld_struct hT rfl) rfl (.alloc Tryz.zeroValue143 rfl rfl (fun b_17 => ?_))
      refine OT.store_all hT rfl rfl rfl rfl pl rfl rfl (ones_im (hAt []) hym) (.inl (Nat.le_refl _)) ?_
      refine OT.nil (.seq (.seq (.region (.pures hT 2 rfl (.load rfl rfl (Ld.one hT rfl hz rfl) rfl ?_)))))
      refine OT.pures hT 1 rfl (.load rfl rfl (Ld.slc hT rfl hz rfl) rfl ?_)
      refine OT.call Tryz.call109 rfl rfl rfl rfl (Fun.pull pl (sh_Set hP hQ hG (no := y.no) (bs := y.b) (((hAt _).each y hym).there) hmx.1 hmx.2)) ?_
      rintro v_82 hs_82 ⟨G4, rfl, rfl, hG4⟩
      refine OT.pures hT 1 rfl (.nil (.seq (.seq (.region (.pures hT 2 rfl (.nil (.seq (.cond_false rfl (.skip (.blk (.seq (.region (.pures hT 2 rfl (.nil (.loop (k + 1, G4) ?_ ?_ (SubR.cons rfl (SubR.cons rfl (SubR.cons rfl (SubR.cons rfl (SubR.cons' rfl (by (try dsimp only); exact (int_eq (by rw [wrap_i64 (by omega) (by omega)]; omega))) (SubR.nil _)))))) sl)))))))))))))))
      · dsimp only
        exact ⟨by omega, by rw [lay_take (imgs_at hy)]; exact hG4⟩
      · dsimp only
        omega
    ·
      have c74 := of_decide_eq_false c74
      obtain rfl : k = ts.length := by omega
      rw [List.take_of_length_le (by rw [imgs_length]; exact Nat.le_refl _), him, hlay] at hG
      refine TT.exit (.seq (.loop (.here (.seq (.seq (.region (.pures hT 3 rfl (.nil (.seq (.ret (.of (rs := [.tmp 6, .tmp 7]) [_, _] (G :: Z :: r) rfl (.tmp rfl (.tmp rfl .nil)) sl ?_)))))))))))
      try dsimp only [one]
      exact ⟨G, g2, rfl, rfl, ⟨Qt, hG, hRT⟩, hg2⟩

set_option maxHeartbeats 1000000 in
set_option maxRecDepth 100000 in
theorem vs_Commit1 {x t : Int} {bt : Nat} {r : List Chunk} : Fun Tryz.prog 58 [.int .i64 x, .pointer (some ⟨bt, 0, none⟩)] ([(bt, blk [.int .i64 t] 2 (0, 0))] :: r) (fun v' hs' => v' = .bool (decide (x = t)) ∧ hs' = [(bt, blk [.int .i64 t] 2 (0, 0))] :: r) := by
  refine Fun.enter 7 Tryz.func58 rfl Tryz.ntmps58 rfl ?_
  refine TT.seq (.region (.pures hT 1 rfl (.nil (.seq (.seq (.region (.pures hT 1 rfl (.load rfl rfl (Ld.one hT rfl hz rfl) rfl ?_))))))))
  refine OT.pures hT 2 rfl (.nil (.seq (.ret (.of (rs := [.tmp 3]) [_] ([(bt, blk [.int .i64 t] 2 (0, 0))] :: r) rfl (.tmp rfl .nil) sl ?_))))
  try dsimp only [one]
  refine ⟨congrArg Value.bool ?_, rfl⟩
  rw [Bool.eq_iff_iff, beq_iff_eq, decide_eq_true_eq]

set_option maxHeartbeats 1000000 in
set_option maxRecDepth 100000 in
theorem vs_Commit {P : Value} {I : Chunk → Prop} {Qb : Pages} (hP : PgsA Tryz.prog 5 P I (fun _ _ => False) (pgOf Qb)) (hQ : Long Qb) {b : Nat} {g : Gone} {H : Chunk} {r : List Chunk} (hH : TrIn 110 b P I Qb g H) {t : Int} : Fun Tryz.prog 18 [.pointer (some ⟨b, 0, none⟩), .int .i64 t] (H :: r) (fun v' hs' => (isT t = false ∧ v' = .tuple ⟨[.int .i64 0, .int .i64 1]⟩ ∧ ∃ H', hs' = H' :: r ∧ TrIn 110 b P I Qb g H') ∨ (isT t = true ∧ ∃ H' g', hs' = H' :: r ∧ v' = .tuple ⟨[.int .i64 (endN g.2 (fun x => decide (x = t)) : Nat), .int .i64 0]⟩ ∧ TrIn 110 b P I Qb g' H' ∧ g'.2 = endL g.2 (fun x => decide (x = t)) commitC)) := by
  refine Fun.enter 14 Tryz.func18 rfl Tryz.ntmps18 rfl ?_
  refine TT.seq (.region (.box rfl rfl rfl (fun b_3 => ?_)))
  refine OT.pures hT 2 rfl (.nil (.seq (.seq (.seq (.region (.load rfl rfl (Ld.one hT rfl hz rfl) rfl ?_))))))
  refine OT.call Tryz.call50 rfl rfl rfl rfl (vs_is) ?_
  rintro v_7 hs_7 ⟨rfl, rfl⟩
  refine OT.pures hT 1 rfl (.nil (.seq (.cond rfl (fun c8 => ?_) (fun c8 => ?_))))
  ·
    have c8 : isT t = false := by simpa using c8
    refine TT.seq (.region (.pures hT 2 rfl (.nil (.seq (.ret (.of (rs := [.tmp 4, .tmp 5]) [_, _] (H :: r) rfl (.tmp rfl (.tmp rfl .nil)) sl ?_))))))
    try dsimp only [one]
    exact .inl ⟨c8, rfl, H, rfl, hH⟩
  ·
    have c8 : isT t = true := by simpa using c8
    refine TT.skip (.seq (.seq (.region (.pures hT 2 rfl (.call Tryz.call57 rfl rfl rfl rfl (Fun.weaken sl (vs_end hP hQ hH (Z := [(b_3, blk [.int .i64 t] 2 (0, 0))]) (p := fun x => decide (x = t)) commit_ok (end_keeps true) Tryz.call58 Tryz.call59 (fun x r' => vs_Commit1) (fun x hs => cl_Commit))) ?_)))))
    rintro v_11 hs_11 ⟨H1, g1, rfl, rfl, hH1, hg1⟩
    refine OT.pures hT 4 rfl (.nil (.seq (.ret (.of (rs := [.tmp 4, .tmp 5]) [_, _] (H1 :: r) rfl (.tmp rfl (.tmp rfl .nil)) sl ?_))))
    try dsimp only [one]
    exact .inr ⟨c8, H1, g1, rfl, rfl, hH1, hg1⟩

set_option maxHeartbeats 1000000 in
set_option maxRecDepth 100000 in
theorem vs_Undo1 {x t : Int} {bt : Nat} {r : List Chunk} : Fun Tryz.prog 65 [.int .i64 x, .pointer (some ⟨bt, 0, none⟩)] ([(bt, blk [.int .i64 t] 2 (0, 0))] :: r) (fun v' hs' => v' = .bool (decide (x = t)) ∧ hs' = [(bt, blk [.int .i64 t] 2 (0, 0))] :: r) := by
  refine Fun.enter 7 Tryz.func65 rfl Tryz.ntmps65 rfl ?_
  refine TT.seq (.region (.pures hT 1 rfl (.nil (.seq (.seq (.region (.pures hT 1 rfl (.load rfl rfl (Ld.one hT rfl hz rfl) rfl ?_))))))))
  refine OT.pures hT 2 rfl (.nil (.seq (.ret (.of (rs := [.tmp 3]) [_] ([(bt, blk [.int .i64 t] 2 (0, 0))] :: r) rfl (.tmp rfl .nil) sl ?_))))
  try dsimp only [one]
  refine ⟨congrArg Value.bool ?_, rfl⟩
  rw [Bool.eq_iff_iff, beq_iff_eq, decide_eq_true_eq]

set_option maxHeartbeats 1000000 in
set_option maxRecDepth 100000 in
theorem vs_Undo {P : Value} {I : Chunk → Prop} {Qb : Pages} (hP : PgsA Tryz.prog 5 P I (fun _ _ => False) (pgOf Qb)) (hQ : Long Qb) {b : Nat} {g : Gone} {H : Chunk} {r : List Chunk} (hH : TrIn 110 b P I Qb g H) {t : Int} : Fun Tryz.prog 27 [.pointer (some ⟨b, 0, none⟩), .int .i64 t] (H :: r) (fun v' hs' => (isT t = false ∧ v' = .tuple ⟨[.int .i64 0, .int .i64 1]⟩ ∧ ∃ H', hs' = H' :: r ∧ TrIn 110 b P I Qb g H') ∨ (isT t = true ∧ ∃ H' g', hs' = H' :: r ∧ v' = .tuple ⟨[.int .i64 (endN g.2 (fun x => decide (x = t)) : Nat), .int .i64 0]⟩ ∧ TrIn 110 b P I Qb g' H' ∧ g'.2 = endL g.2 (fun x => decide (x = t)) undoC)) := by
  refine Fun.enter 14 Tryz.func27 rfl Tryz.ntmps27 rfl ?_
  refine TT.seq (.region (.box rfl rfl rfl (fun b_3 => ?_)))
  refine OT.pures hT 2 rfl (.nil (.seq (.seq (.seq (.region (.load rfl rfl (Ld.one hT rfl hz rfl) rfl ?_))))))
  refine OT.call Tryz.call50 rfl rfl rfl rfl (vs_is) ?_
  rintro v_7 hs_7 ⟨rfl, rfl⟩
  refine OT.pures hT 1 rfl (.nil (.seq (.cond rfl (fun c8 => ?_) (fun c8 => ?_))))
  ·
    have c8 : isT t = false := by simpa using c8
    refine TT.seq (.region (.pures hT 2 rfl (.nil (.seq (.ret (.of (rs := [.tmp 4, .tmp 5]) [_, _] (H :: r) rfl (.tmp rfl (.tmp rfl .nil)) sl ?_))))))
    try dsimp only [one]
    exact .inl ⟨c8, rfl, H, rfl, hH⟩
  ·
    have c8 : isT t = true := by simpa using c8
    refine TT.skip (.seq (.seq (.region (.pures hT 2 rfl (.call Tryz.call57 rfl rfl rfl rfl (Fun.weaken sl (vs_end hP hQ hH (Z := [(b_3, blk [.int .i64 t] 2 (0, 0))]) (p := fun x => decide (x = t)) undo_ok (end_keeps false) Tryz.call65 Tryz.call64 (fun x r' => vs_Undo1) (fun x hs => cl_Undo))) ?_)))))
    rintro v_11 hs_11 ⟨H1, g1, rfl, rfl, hH1, hg1⟩
    refine OT.pures hT 4 rfl (.nil (.seq (.ret (.of (rs := [.tmp 4, .tmp 5]) [_, _] (H1 :: r) rfl (.tmp rfl (.tmp rfl .nil)) sl ?_))))
    try dsimp only [one]
    exact .inr ⟨c8, H1, g1, rfl, rfl, hH1, hg1⟩

set_option maxHeartbeats 1000000 in
set_option maxRecDepth 100000 in
theorem vs_Clean1 {x : Int} {hs : List Chunk} : Fun Tryz.prog 63 [.int .i64 x] hs (fun v' hs' => v' = .bool true ∧ hs' = hs) := by
  refine Fun.enter 3 Tryz.func63 rfl Tryz.ntmps63 rfl ?_
  refine TT.seq (.region (.pures hT 1 rfl (.nil (.seq (.seq (.region (.pures hT 1 rfl (.nil (.seq (.ret (.of (rs := [.tmp 2]) [_] hs rfl (.tmp rfl .nil) sl ?_)))))))))))
  try dsimp only [one]
  exact ⟨rfl, rfl⟩

set_option maxHeartbeats 1000000 in
set_option maxRecDepth 100000 in
theorem vs_Clean {P : Value} {I : Chunk → Prop} {Qb : Pages} (hP : PgsA Tryz.prog 5 P I (fun _ _ => False) (pgOf Qb)) (hQ : Long Qb) {b : Nat} {g : Gone} {H : Chunk} {r : List Chunk} (hH : TrIn 110 b P I Qb g H) : Fun Tryz.prog 23 [.pointer (some ⟨b, 0, none⟩)] (H :: r) (fun v' hs' => ∃ H' g', hs' = H' :: r ∧ v' = .tuple ⟨[.int .i64 (endN g.2 (fun _ => true) : Nat), .int .i64 0]⟩ ∧ TrIn 110 b P I Qb g' H' ∧ g'.2 = endL g.2 (fun _ => true) undoC) := by
  refine Fun.enter 8 Tryz.func23 rfl Tryz.ntmps23 rfl ?_
  refine TT.seq (.region (.pures hT 2 rfl (.nil (.seq (.seq (.region (.pures hT 1 rfl (.chunk0 (.call Tryz.call57 rfl rfl rfl rfl (Fun.weaken sl (vs_end hP hQ hH (Z := []) (p := fun _ => true) undo_ok (end_keeps false) Tryz.call63 Tryz.call64 (fun x r' => vs_Clean1) (fun x hs => cl_Undo))) ?_)))))))))
  rintro v_5 hs_5 ⟨H1, g1, rfl, rfl, hH1, hg1⟩
  refine OT.pures hT 4 rfl (.nil (.seq (.ret (.of (rs := [.tmp 2, .tmp 3]) [_, _] (H1 :: r) rfl (.tmp rfl (.tmp rfl .nil)) sl ?_))))
  try dsimp only [one]
  exact ⟨H1, g1, rfl, rfl, hH1, hg1⟩

end Go.Proofs.YtihpkgmfkbkffaaGreat.Sx
end

section
namespace Go.Proofs.YtihpkgmfkbkffaaGreat.Sx
open Go Go.Sx Go.Pl
variable [Outer]

set_option maxHeartbeats 2000000 in
set_option maxRecDepth 100000 in
theorem law14_begun {hs : List Chunk} : Fun Tryz.prog 89 [] hs (fun v' hs' => v' = .bool true ∧ hs = hs') := by
  refine Fun.enter 99 Tryz.func89 rfl Tryz.ntmps89 rfl ?_
  refine TT.seq (.region (.pures hT 1 rfl (.nil (.seq (.seq (.region (.build (cs := bkCells (List.replicate 96 (.slice none 0 0))) hT rfl Tryz.zeroValue30 rfl rfl rfl rfl (.box rfl rfl rfl (fun b_14 => ?_)))))))))
  refine OT.mkiface Tryz.underlying26 rfl rfl rfl rfl ?_
  have hB0 : BkAt 30 b_14 noP [(b_14, blk (bkCells (List.replicate 96 (.slice none 0 0))) 30 (0, 0))] := BkAt.one (Slots.zero [[]])
  show OT _ _ _ _ _ ([(b_14, blk (bkCells (List.replicate 96 (.slice none 0 0))) 30 (0, 0))] :: hs)
  generalize ([(b_14, blk (bkCells (List.replicate 96 (.slice none 0 0))) 30 (0, 0))] : Chunk) = HB at hB0 ⊢
  refine OT.call Tryz.call15 rfl rfl rfl rfl (tk_New hB0) ?_
  rintro v_16 hs_16 ⟨b1, HS, rfl, rfl, hS0⟩
  refine OT.pures hT 1 rfl (.nil (.seq (.seq (.region (.build (cs := encVl cB.val) hT rfl Tryz.zeroValue36 rfl rfl rfl rfl (.build (cs := encCell cB) hT rfl Tryz.zeroValue113 rfl rfl rfl rfl (.alloc Tryz.zeroValue113 rfl rfl (fun b_2 => ?_))))))))
  refine OT.store_all hT rfl rfl rfl rfl pl rfl rfl rfl (.inl (Nat.le_refl _)) ?_
  refine OT.nil (.seq (.seq (.region (.build (cs := encVl cA.val) hT rfl Tryz.zeroValue36 rfl rfl rfl rfl (.build (cs := encCell cA) hT rfl Tryz.zeroValue113 rfl rfl rfl rfl (.alloc Tryz.zeroValue113 rfl rfl (fun b_3 => ?_)))))))
  refine OT.store_all hT rfl rfl rfl rfl pl rfl rfl rfl (.inl (Nat.le_refl _)) ?_
  refine OT.nil (.seq (.seq (.draw (([(b_3, blk (encCell cA) 113 (0, 0))] :: [(b_2, blk (encCell cB) 113 (0, 0))] :: hs)) mixed (.takes (fuel := 6) hT [0, 3] kr kr rfl (.take (fuel := 5) hT 1 rfl rfl kr kr kr rfl (.load rfl (Ld.struct_all hT rfl hz rfl)) rfl ?_)))))
  refine AT.take (fuel := 4) hT 4 rfl rfl kr kr kr rfl (.load rfl (Ld.struct_all hT rfl hz rfl)) rfl ?_
  refine AT.op (fuel := 3) 2 kr rfl sl (.call Tryz.call54 rfl rfl rfl rfl (Fun.pull pl (tk_Put hS0 (x := cB) (by decide))) ?_)
  rintro v_23 hs_23 ⟨H1, g1, e1, rfl, rfl, hS1, hp1⟩
  obtain ⟨rfl, hg1⟩ := begun1 hp1
  refine OT.nil (.any (.op (fuel := 2) 5 kr rfl sl (.call Tryz.call54 rfl rfl rfl rfl (Fun.pull pl (tk_Put hS1 (x := cA) (by decide))) ?_)))
  rintro v_26 hs_26 ⟨H2, g2, e2, rfl, rfl, hS2, hp2⟩
  obtain ⟨rfl, hg2⟩ := begun2 hg1 hp2
  refine OT.nil (.any (.takes (fuel := 0) hT [6, 7] kr kr rfl (.done kr sl (.seq (.seq (.region (.pures hT 1 rfl (.mkiface Tryz.underlying24 rfl rfl rfl rfl (.call Tryz.call53 rfl rfl rfl rfl (Fun.pull pl (tk_Get hS2)) ?_)))))))))
  rintro v_30 hs_30 ⟨H3, rfl, rfl, hS3⟩
  rw [hg2, show getC [cA, cB] (⟨#[98]⟩ : ByteArray) = some cB from begun_get]
  refine OT.pures hT 4 rfl (.alloc Tryz.zeroValue113 rfl rfl (fun b_6 => ?_))
  refine OT.store_all hT rfl rfl rfl rfl pl rfl rfl rfl (.inl (Nat.le_refl _)) ?_
  refine OT.pures hT 2 rfl (.nil (.seq (.seq (.region (.pures hT 1 rfl (.mkiface Tryz.underlying24 rfl rfl rfl rfl (.call Tryz.call60 rfl rfl rfl rfl (Fun.pull pl (tk_Scan hS3)) ?_)))))))
  rintro v_37 hs_37 ⟨H4, K4, v4, rfl, rfl, ho4, hS4⟩
  rw [all_in, hg2] at ho4
  obtain ⟨a4, c4, hv4⟩ := (ho4.row (hs := [])).len
  subst hv4
  refine OT.pures hT 5 rfl (.nil (.seq (.seq (.region (.pures hT 1 rfl (.call Tryz.call56 rfl rfl rfl rfl (Fun.pull pl (tk_Del hS4)) ?_))))))
  rintro v_42 hs_42 ⟨H5, g5, rfl, rfl, hS5, hg5, _⟩
  rw [hg2, show getC [cA, cB] (⟨#[97]⟩ : ByteArray) = some cA from begun_has]
  refine OT.pures hT 5 rfl (.nil (.seq (.seq (.region (.pures hT 3 rfl (.pures hT 4 rfl (.pures hT 3 rfl (.pures hT 4 rfl (.pures hT 2 rfl (.load rfl rfl (Ld.one hT rfl hz rfl) rfl ?_))))))))))
  refine OT.feq two_num rfl rfl rfl rfl (.pures hT 2 rfl (.pures hT 5 rfl (.pures hT 1 rfl (.index hT rfl rfl rfl rfl (ho4.row.there) (by omega) rfl rfl (fun ad_71 hel_71 => ?_)))))
  obtain ⟨eb_71, eo_71, rfl, hfld_71⟩ := hel_71.at (P := Tryz.prog)
  refine OT.pures hT 1 rfl (.load rfl rfl (hfld_71 hT rfl rfl) rfl (.pures hT 3 rfl (.pures hT 4 rfl (.pures hT 3 rfl (.pures hT 4 rfl (.pures hT 1 rfl (.mkiface Tryz.underlying24 rfl rfl rfl rfl (.call Tryz.call70 rfl rfl rfl rfl (Fun.pull pl (tk_Check hS5)) ?_))))))))
  rintro v_90 hs_90 ⟨H6, rfl, rfl, hS6⟩
  refine OT.pures hT 3 rfl (.pures hT 1 rfl (.build (cs := encCell noCell) hT rfl Tryz.zeroValue113 rfl rfl rfl rfl (.call Tryz.call54 rfl rfl rfl rfl (Fun.pull pl (tk_Put hS6 (x := noCell) (by decide))) ?_)))
  rintro v_96 hs_96 ⟨H7, g7, e7, rfl, rfl, hS7, hp7⟩
  obtain rfl := begun3 hp7
  refine OT.pures hT 3 rfl (.nil (.seq (.ret (.of (rs := [.tmp 0]) [_] hs rfl (.tmp rfl .nil) sl ?_))))
  try dsimp only [one]
  exact ⟨rfl, rfl⟩

end Go.Proofs.YtihpkgmfkbkffaaGreat.Sx
end

section
namespace Go.Proofs.YtihpkgmfkbkffaaGreat.Sx
open Go Go.Sx Go.Pl
variable [Outer]

omit [Outer] in
theorem TrS.good {b : Nat} {g : Gone} {H : Chunk} (h : TrS b g H) : GoodL g.2 := by obtain ⟨bk, h⟩ := h; exact h.good

theorem vk_See {b : Nat} {g : Gone} {H : Chunk} {r : List Chunk} (hH : TrS b g H) {t : Int} {k : ByteArray} : Fun Tryz.prog 20 [.iface 24 (.pointer (some ⟨b, 0, none⟩)), .int .i64 t, .string k] (H :: r) (fun v' hs' => ∃ H', hs' = H' :: r ∧ v' = .tuple ⟨[.agg ⟨encVl (seeK g.2 t k)⟩, .int .i64 0]⟩ ∧ TrS b g H') := by
  obtain ⟨bk, h⟩ := hH
  refine (vs_See bookA noP_long h).mono ?_
  rintro v' hs' ⟨H', h1, h2, h3⟩
  exact ⟨H', h1, h2, bk, h3⟩

theorem vk_Range {b : Nat} {g : Gone} {H : Chunk} {r : List Chunk} (hH : TrS b g H) {t : Int} {s e : ByteArray} : Fun Tryz.prog 19 [.iface 24 (.pointer (some ⟨b, 0, none⟩)), .int .i64 t, .string s, .string e] (H :: r) (fun v' hs' => ∃ H' K v, hs' = H' :: K :: r ∧ v' = .tuple ⟨[v, .int .i64 0]⟩ ∧ Own encPair 4 60 v (rangeL g.2 t s e) K ∧ TrS b g H') := by
  obtain ⟨bk, h⟩ := hH
  refine (vs_Range bookA noP_long h).mono ?_
  rintro v' hs' ⟨H', K, v, h1, h2, h3, h4⟩
  exact ⟨H', K, v, h1, h2, h3, bk, h4⟩

theorem vk_Write {b : Nat} {g : Gone} {H : Chunk} {r : List Chunk} (hH : TrS b g H) {t : Int} {k : ByteArray} {v : Vl} (hvf : v.f < 2 ^ 64) : Fun Tryz.prog 16 [.pointer (some ⟨b, 0, none⟩), .int .i64 t, .string k, .agg ⟨encVl v⟩] (H :: r) (fun v' hs' => ∃ H' g' e, hs' = H' :: r ∧ v' = .int .i64 e ∧ TrS b g' H' ∧ WriteR t k v g g' e) := by
  obtain ⟨bk, h⟩ := hH
  refine (vs_Write bookA noP_long h hvf).mono ?_
  rintro v' hs' ⟨H', g', e, h1, h2, h3, h4⟩
  exact ⟨H', g', e, h1, h2, ⟨bk, h3⟩, h4⟩

theorem vk_Commit {b : Nat} {g : Gone} {H : Chunk} {r : List Chunk} (hH : TrS b g H) {t : Int} (ht : isT t = true) : Fun Tryz.prog 18 [.pointer (some ⟨b, 0, none⟩), .int .i64 t] (H :: r) (fun v' hs' => ∃ H' g', hs' = H' :: r ∧ v' = .tuple ⟨[.int .i64 (endN g.2 (fun x => decide (x = t)) : Nat), .int .i64 0]⟩ ∧ TrS b g' H' ∧ g'.2 = endL g.2 (fun x => decide (x = t)) commitC) := by
  obtain ⟨bk, h⟩ := hH
  refine (vs_Commit bookA noP_long h).mono ?_
  rintro v' hs' (⟨h0, _⟩ | ⟨_, H', g', h1, h2, h3, h4⟩)
  · rw [ht] at h0; cases h0
  · exact ⟨H', g', h1, h2, ⟨bk, h3⟩, h4⟩

theorem vk_Undo {b : Nat} {g : Gone} {H : Chunk} {r : List Chunk} (hH : TrS b g H) {t : Int} (ht : isT t = true) : Fun Tryz.prog 27 [.pointer (some ⟨b, 0, none⟩), .int .i64 t] (H :: r) (fun v' hs' => ∃ H' g', hs' = H' :: r ∧ v' = .tuple ⟨[.int .i64 (endN g.2 (fun x => decide (x = t)) : Nat), .int .i64 0]⟩ ∧ TrS b g' H' ∧ g'.2 = endL g.2 (fun x => decide (x = t)) undoC) := by
  obtain ⟨bk, h⟩ := hH
  refine (vs_Undo bookA noP_long h).mono ?_
  rintro v' hs' (⟨h0, _⟩ | ⟨_, H', g', h1, h2, h3, h4⟩)
  · rw [ht] at h0; cases h0
  · exact ⟨H', g', h1, h2, ⟨bk, h3⟩, h4⟩

theorem vk_Clean {b : Nat} {g : Gone} {H : Chunk} {r : List Chunk} (hH : TrS b g H) : Fun Tryz.prog 23 [.pointer (some ⟨b, 0, none⟩)] (H :: r) (fun v' hs' => ∃ H' g', hs' = H' :: r ∧ v' = .tuple ⟨[.int .i64 (endN g.2 (fun _ => true) : Nat), .int .i64 0]⟩ ∧ TrS b g' H' ∧ g'.2 = endL g.2 (fun _ => true) undoC) := by
  obtain ⟨bk, h⟩ := hH
  refine (vs_Clean bookA noP_long h).mono ?_
  rintro v' hs' ⟨H', g', h1, h2, h3, h4⟩
  exact ⟨H', g', h1, h2, ⟨bk, h3⟩, h4⟩

set_option maxHeartbeats 1000000 in
set_option maxRecDepth 100000 in
theorem law15_key {i : Nat} (hi : i ≤ 1000000) {hs : List Chunk} : Fun Tryz.prog 17 [.int .i64 (i : Nat)] hs (fun v' hs' => v' = .string (keyV i) ∧ hs = hs') := by
  refine Fun.enter 14 Tryz.func17 rfl Tryz.ntmps17 rfl ?_
  refine TT.seq (.region (.pures hT 1 rfl (.nil (.seq (.seq (.region (.pures hT 9 rfl (.reg 6 rfl (v := .int .u8 ((UInt8.ofNat (97 + i % 26)).toNat : Int)) (int_eq (digV0 i)) (.reg 11 rfl (v := .int .u8 ((UInt8.ofNat (97 + i / 26 % 26)).toNat : Int)) (int_eq (digV1 hi)) ?_)))))))))
  refine OT.buildSlice (enc := Go.Sx.encB) (xs := [107, UInt8.ofNat (97 + i % 26), UInt8.ofNat (97 + i / 26 % 26)]) (xos := [.const (.int .u8 (107)), .tmp 6, .tmp 11]) el27 rfl rfl rfl rfl rfl (by simp [Value.cells]) (fun _ _ => rfl) rfl (by decide) rfl (fun v_12 H_12 ho_12 => ?_)
  refine OT.conv_bs (fun _ => rfl) hT rfl rfl rfl rfl rfl (ho_12.row) rfl (.pures hT 1 rfl (.nil (.seq (.ret (.of (rs := [.tmp 2]) [_] hs rfl (.tmp rfl .nil) sl ?_)))))
  try dsimp only [one]
  exact ⟨rfl, rfl⟩

set_option maxHeartbeats 1000000 in
set_option maxRecDepth 100000 in
theorem ref23_Eq {va vb : Value} {d : List Pair} {hs : List Chunk} (ha : Row encPair 4 hs va d) (hb : Row encPair 4 hs vb d) (hl : d.length ≤ 100000) (hf : ∀ p ∈ d, p.2.f < 2 ^ 64) : Fun Tryz.prog 24 [va, vb] hs (fun v' hs' => v' = .bool true ∧ hs = hs') := by
  refine Fun.enter 42 Tryz.func24 rfl Tryz.ntmps24 rfl ?_
  obtain ⟨a0, c0, hv⟩ := ha.len
  subst hv
  obtain ⟨a1, c1, hv⟩ := hb.len
  subst hv
  refine TT.seq (.region (.pures hT 1 rfl (.nil (.seq (.seq (.seq (.region (.pures hT 5 rfl (.nil (.seq (.cond rfl (fun c10 => ?_) (fun c10 => ?_))))))))))))
  ·
    exact absurd c10 (by simp)
  ·
    refine TT.skip (.seq (.seq (.seq (.region (.pures hT 1 rfl (.nil (.seq (.block (.loop (ι := Nat) (fun j => (j) ≤ d.length) (fun j => d.length - (j)) (fun j => [(0, .slice a0 d.length c0), (1, .slice a1 d.length c1), (5, .int .i64 ((j) : Nat))]) (fun j => hs) (0) ?_ (SubR.cons rfl (SubR.cons rfl (SubR.cons rfl (SubR.nil _)))) sl ?_)))))))))
    · exact Nat.zero_le _
    rintro i hi
    show TT _ _ _ [(0, .slice a0 d.length c0), (1, .slice a1 d.length c1), (5, .int .i64 (i : Nat))] (hs)
    refine TT.seq (.seq (.region (.pures hT 4 rfl (.nil (.seq (.cond rfl (fun c14 => ?_) (fun c14 => ?_)))))))
    ·
      have c14 := of_decide_eq_true c14
      obtain ⟨y, hy⟩ := nth (l := d) (i := i) (by omega)
      have hyf := hf y (List.mem_of_getElem? hy)
      refine TT.skip (.seq (.seq (.block (.seq (.draw (hs) mixed (.takes (fuel := 21) hT [0, 1, 5, 6] kr kr rfl (.index (fuel := 20) hT 2 rfl kr kr kr rfl rfl rfl rfl ha (by omega) (by rw [Int.toNat_natCast]; exact hy) rfl (fun ad_19 hel_19 => ?_))))))))
      obtain ⟨eb_19, eo_19, rfl, hfld_19⟩ := hel_19.at (P := Tryz.prog)
      refine AT.takes (fuel := 19) hT [3] kr kr rfl (.take (fuel := 18) hT 4 rfl rfl kr kr kr rfl (.load rfl (hfld_19 hT rfl rfl)) rfl (.index (fuel := 17) hT 7 rfl kr kr kr rfl rfl rfl rfl hb (by omega) (by rw [Int.toNat_natCast]; exact hy) rfl (fun ad_24 hel_24 => ?_)))
      obtain ⟨eb_24, eo_24, rfl, hfld_24⟩ := hel_24.at (P := Tryz.prog)
      refine AT.takes (fuel := 16) hT [8] kr kr rfl (.take (fuel := 15) hT 9 rfl rfl kr kr kr rfl (.load rfl (hfld_24 hT rfl rfl)) rfl (.takes (fuel := 13) hT [10, 11] kr kr rfl (.split 28 rfl (fun g28 => ?_) (fun g28 => ?_))))
      ·
        exact absurd g28 (by simp)
      ·
        refine AT.takes (fuel := 9) hT [12, 13, 17, 18] kr kr rfl (.index (fuel := 8) hT 14 rfl kr kr kr rfl rfl rfl rfl ha (by omega) (by rw [Int.toNat_natCast]; exact hy) rfl (fun ad_31 hel_31 => ?_))
        obtain ⟨eb_31, eo_31, rfl, hfld_31⟩ := hel_31.at (P := Tryz.prog)
        refine AT.takes (fuel := 7) hT [15] kr kr rfl (.take (fuel := 6) hT 16 rfl rfl kr kr kr rfl (.load rfl (hel_31.ld_sub hT rfl 1 (vs := encVl y.2) rfl (by decide))) rfl (.index (fuel := 5) hT 19 rfl kr kr kr rfl rfl rfl rfl hb (by omega) (by rw [Int.toNat_natCast]; exact hy) rfl (fun ad_36 hel_36 => ?_)))
        obtain ⟨eb_36, eo_36, rfl, hfld_36⟩ := hel_36.at (P := Tryz.prog)
        refine AT.takes (fuel := 4) hT [20] kr kr rfl (.take (fuel := 3) hT 21 rfl rfl kr kr kr rfl (.load rfl (hel_36.ld_sub hT rfl 1 (vs := encVl y.2) rfl (by decide))) rfl (.op (fuel := 2) 22 kr rfl sl (.call Tryz.call22 rfl rfl rfl rfl (ref1_EqVal hyf hyf) ?_)))
        rintro v_39 hs_39 ⟨rfl, rfl⟩
        refine OT.nil (.any (.takes (fuel := 0) hT [23, 24] kr kr rfl (.done kr sl (.seq (.cond rfl (fun c41 => ?_) (fun c41 => ?_))))))
        ·
          exact absurd c41 (by rw [eqVl_self]; simp)
        ·
          refine TT.skip (.blk (.seq (.region (.pures hT 3 rfl (.nil (.loop (i + 1) ?_ ?_ (SubR.cons rfl (SubR.cons rfl (SubR.cons' rfl (by (try dsimp only); exact (int_eq (by rw [wrap_i64 (by omega) (by omega)]; omega))) (SubR.nil _)))) sl))))))
          · omega
          · omega
    ·
      have c14 := of_decide_eq_false c14
      refine TT.exit (.seq (.loop (.here (.seq (.seq (.region (.pures hT 1 rfl (.nil (.seq (.ret (.of (rs := [.tmp 4]) [_] hs rfl (.tmp rfl .nil) sl ?_)))))))))))
      try dsimp only [one]
      exact ⟨rfl, rfl⟩

set_option maxHeartbeats 1000000 in
set_option maxRecDepth 100000 in
theorem law14_Begun {hs : List Chunk} : Fun Tryz.prog 49 [] hs (fun v' hs' => v' = .bool true ∧ hs = hs') := by
  refine Fun.enter 2 Tryz.func49 rfl Tryz.ntmps49 rfl ?_
  refine TT.seq (.region (.pures hT 1 rfl (.nil (.seq (.seq (.region (.call Tryz.call89 rfl rfl rfl rfl (law14_begun) ?_)))))))
  rintro v_1 hs_1 ⟨rfl, rfl⟩
  refine OT.pures hT 1 rfl (.nil (.seq (.ret (.of (rs := [.tmp 0]) [_] hs rfl (.tmp rfl .nil) sl ?_))))
  try dsimp only [one]
  exact ⟨rfl, rfl⟩

set_option maxHeartbeats 2000000 in
set_option maxRecDepth 100000 in
theorem law15_begun {hs : List Chunk} : Fun Tryz.prog 14 [] hs (fun v' hs' => v' = .bool true ∧ hs = hs') := by
  refine Fun.enter 91 Tryz.func14 rfl Tryz.ntmps14 rfl ?_
  refine TT.seq (.region (.pures hT 1 rfl (.nil (.seq (.seq (.region (.build (cs := bkCells (List.replicate 96 (.slice none 0 0))) hT rfl Tryz.zeroValue30 rfl rfl rfl rfl (.box rfl rfl rfl (fun b_14 => ?_)))))))))
  refine OT.mkiface Tryz.underlying26 rfl rfl rfl rfl ?_
  have hB0 : BkAt 30 b_14 noP [(b_14, blk (bkCells (List.replicate 96 (.slice none 0 0))) 30 (0, 0))] := BkAt.one (Slots.zero [[]])
  show OT _ _ _ _ _ ([(b_14, blk (bkCells (List.replicate 96 (.slice none 0 0))) 30 (0, 0))] :: hs)
  generalize ([(b_14, blk (bkCells (List.replicate 96 (.slice none 0 0))) 30 (0, 0))] : Chunk) = HB at hB0 ⊢
  refine OT.call Tryz.call15 rfl rfl rfl rfl (tk_New hB0) ?_
  rintro v_16 hs_16 ⟨b1, HS, rfl, rfl, hS0⟩
  refine OT.pures hT 1 rfl (.nil (.seq (.seq (.region (.build (cs := encVl vF) hT rfl Tryz.zeroValue36 rfl rfl rfl rfl (.alloc Tryz.zeroValue36 rfl rfl (fun b_2 => ?_)))))))
  refine OT.store_all hT rfl rfl rfl rfl pl rfl rfl rfl (.inl (Nat.le_refl _)) ?_
  refine OT.nil (.seq (.seq (.region (.pures hT 1 rfl (.load rfl rfl (Ld.struct_all hT rfl hz rfl) rfl ?_)))))
  refine OT.call Tryz.call16 rfl rfl rfl rfl (Fun.pull pl (vk_Write hS0 (t := 1) (k := kK) (v := vF) (by decide))) ?_
  rintro v_20 hs_20 ⟨H1, g1, e1, rfl, rfl, hS1, hw1⟩
  obtain ⟨rfl, hg1⟩ := vbegun1 hw1
  refine OT.pures hT 1 rfl (.nil (.seq (.seq (.region (.pures hT 1 rfl (.load rfl rfl (Ld.struct_all hT rfl hz rfl) rfl ?_))))))
  refine OT.call Tryz.call16 rfl rfl rfl rfl (Fun.pull pl (vk_Write hS1 (t := 2) (k := kK) (v := vF) (by decide))) ?_
  rintro v_23 hs_23 ⟨H2, g2, e2, rfl, rfl, hS2, hw2⟩
  obtain ⟨rfl, rfl⟩ := vbegun2 hg1 hw2
  refine OT.pures hT 1 rfl (.nil (.seq (.seq (.region (.pures hT 1 rfl (.mkiface Tryz.underlying24 rfl rfl rfl rfl (.call Tryz.call20 rfl rfl rfl rfl (Fun.pull pl (vk_See hS2 (t := 1) (k := kK))) ?_)))))))
  rintro v_27 hs_27 ⟨H3, rfl, rfl, hS3⟩
  rw [hg1, vsee1]
  refine OT.pures hT 3 rfl (.alloc Tryz.zeroValue36 rfl rfl (fun b_5 => ?_))
  refine OT.store_all hT rfl rfl rfl rfl pl rfl rfl rfl (.inl (Nat.le_refl _)) ?_
  refine OT.pures hT 1 rfl (.nil (.seq (.seq (.region (.pures hT 1 rfl (.mkiface Tryz.underlying24 rfl rfl rfl rfl (.call Tryz.call20 rfl rfl rfl rfl (Fun.pull pl (vk_See hS3 (t := 2) (k := kK))) ?_)))))))
  rintro v_33 hs_33 ⟨H4, rfl, rfl, hS4⟩
  rw [hg1, vsee2]
  refine OT.pures hT 3 rfl (.alloc Tryz.zeroValue36 rfl rfl (fun b_7 => ?_))
  refine OT.store_all hT rfl rfl rfl rfl pl rfl rfl rfl (.inl (Nat.le_refl _)) ?_
  refine OT.pures hT 1 rfl (.nil (.seq (.seq (.region (.pures hT 1 rfl (.call Tryz.call18 rfl rfl rfl rfl (Fun.pull pl (vk_Commit hS4 (t := 1) (by decide))) ?_))))))
  rintro v_38 hs_38 ⟨H5, g5, rfl, rfl, hS5, hg5⟩
  rw [hg1, vend2] at hg5
  rw [hg1, vend1]
  refine OT.pures hT 5 rfl (.nil (.seq (.seq (.region (.pures hT 1 rfl (.mkiface Tryz.underlying24 rfl rfl rfl rfl (.call Tryz.call20 rfl rfl rfl rfl (Fun.pull pl (vk_See hS5 (t := 0) (k := kK))) ?_)))))))
  rintro v_44 hs_44 ⟨H6, rfl, rfl, hS6⟩
  rw [hg5, vsee3]
  refine OT.pures hT 3 rfl (.alloc Tryz.zeroValue36 rfl rfl (fun b_11 => ?_))
  refine OT.store_all hT rfl rfl rfl rfl pl rfl rfl rfl (.inl (Nat.le_refl _)) ?_
  refine OT.pures hT 1 rfl (.nil (.seq (.seq (.region (.call Tryz.call49 rfl rfl rfl rfl (law14_Begun) ?_)))))
  rintro v_47 hs_47 ⟨rfl, rfl⟩
  refine OT.pures hT 1 rfl (.pures hT 4 rfl (.pures hT 4 rfl (.pures hT 1 rfl (.load rfl rfl (Ld.one hT rfl hz rfl) rfl ?_))))
  refine OT.feq two_num rfl rfl rfl rfl (.pures hT 2 rfl (.pures hT 4 rfl (.pures hT 1 rfl (.load rfl rfl (Ld.one hT rfl hz rfl) rfl ?_))))
  refine OT.pures hT 3 rfl (.pures hT 4 rfl (.pures hT 4 rfl (.pures hT 4 rfl (.pures hT 1 rfl (.load rfl rfl (Ld.one hT rfl hz rfl) rfl ?_)))))
  refine OT.feq two_num rfl rfl rfl rfl (.pures hT 2 rfl (.pures hT 4 rfl (.nil (.seq (.ret (.of (rs := [.tmp 0]) [_] hs rfl (.tmp rfl .nil) sl ?_))))))
  try dsimp only [one]
  exact ⟨rfl, rfl⟩

end Go.Proofs.YtihpkgmfkbkffaaGreat.Sx
end

section
namespace Go.Proofs.YtihpkgmfkbkffaaGreat.Sx
open Go Go.Sx Go.Pl
variable [Outer]

set_option maxHeartbeats 8000000 in
set_option maxRecDepth 100000 in
theorem law_VersBusy {z : Int} {cm : Bool} {hs : List Chunk} : Fun Tryz.prog 7 [.int .i64 z, .bool cm] hs (fun v' hs' => v' = .bool true ∧ hs = hs') := by
  refine Fun.enter 115 Tryz.func7 rfl Tryz.ntmps7 rfl ?_
  refine TT.seq (.region (.pures hT 1 rfl (.nil (.seq (.seq (.region (.call Tryz.call14 rfl rfl rfl rfl (law15_begun) ?_)))))))
  rintro v_14 hs_14 ⟨rfl, rfl⟩
  refine OT.pures hT 1 rfl (.nil (.seq (.seq (.seq (.region (.pures hT 2 rfl (.nil (.seq (.cond_false rfl (.skip (.seq (.seq (.seq (.region (.pures hT 3 rfl (.split 19 rfl (fun g19 => ?_) (fun g19 => ?_)))))))))))))))))
  ·
    refine OT.pures hT 3 rfl (.nil (.seq (.cond_true rfl (.seq (.region (.pures hT 1 rfl (.nil (.seq (.ret (.of (rs := [.tmp 4]) [_] hs rfl (.tmp rfl .nil) sl ?_))))))))))
    try dsimp only [one]
    exact ⟨rfl, rfl⟩
  ·
    have g19 := of_decide_eq_false g19
    refine OT.pures hT 3 rfl (.nil (.seq (.cond rfl (fun c22 => ?_) (fun c22 => ?_))))
    ·
      have c22 := of_decide_eq_true c22
      refine TT.seq (.region (.pures hT 1 rfl (.nil (.seq (.ret (.of (rs := [.tmp 4]) [_] hs rfl (.tmp rfl .nil) sl ?_))))))
      try dsimp only [one]
      exact ⟨rfl, rfl⟩
    ·
      have c22 := of_decide_eq_false c22
      obtain ⟨n, rfl⟩ := Int.eq_ofNat_of_zero_le (show 0 ≤ z by omega)
      have hn : 1 ≤ n ∧ n < 20 := by omega
      refine TT.skip (.seq (.seq (.region (.build (cs := bkCells (List.replicate 96 (.slice none 0 0))) hT rfl Tryz.zeroValue30 rfl rfl rfl rfl (.box rfl rfl rfl (fun b_24 => ?_))))))
      refine OT.mkiface Tryz.underlying26 rfl rfl rfl rfl ?_
      have hB0 : BkAt 30 b_24 noP [(b_24, blk (bkCells (List.replicate 96 (.slice none 0 0))) 30 (0, 0))] := BkAt.one (Slots.zero [[]])
      show OT _ _ _ _ _ ([(b_24, blk (bkCells (List.replicate 96 (.slice none 0 0))) 30 (0, 0))] :: hs)
      generalize ([(b_24, blk (bkCells (List.replicate 96 (.slice none 0 0))) 30 (0, 0))] : Chunk) = HB at hB0 ⊢
      refine OT.call Tryz.call15 rfl rfl rfl rfl (tk_New hB0) ?_
      rintro v_26 hs_26 ⟨b1, HS0, rfl, rfl, hS0⟩
      refine OT.pures hT 1 rfl (.nil (.seq (.seq (.seq (.region (.pures hT 1 rfl (.nil (.seq (.block (.loop (ι := Nat × Chunk × Gone) (fun j => (j.1) ≤ n ∧ TrS b1 (j.2.2) (j.2.1) ∧ (j.2.2).2 = cellsM noVl 1 vA n (j.1)) (fun j => n - (j.1)) (fun j => [(0, .int .i64 (n : Nat)), (1, .bool cm), (6, .pointer (some ⟨b1, 0, none⟩)), (7, .int .i64 ((j.1) : Nat))]) (fun j => (j.2.1) :: hs) (0, HS0, ([], [])) ?_ (SubR.cons rfl (SubR.cons rfl (SubR.cons rfl (SubR.cons rfl (SubR.nil _))))) sl ?_))))))))))
      · dsimp only
        exact ⟨Nat.zero_le _, hS0, (cellsM_none _ _ _).symm⟩
      rintro ⟨i, HS, g⟩ hI
      dsimp only at hI
      obtain ⟨hi, hS, hg⟩ := hI
      show TT _ _ _ [(0, .int .i64 (n : Nat)), (1, .bool cm), (6, .pointer (some ⟨b1, 0, none⟩)), (7, .int .i64 (i : Nat))] (HS :: hs)
      refine TT.seq (.seq (.region (.pures hT 3 rfl (.nil (.seq (.cond rfl (fun c29 => ?_) (fun c29 => ?_)))))))
      ·
        have c29 := of_decide_eq_true c29
        refine TT.skip (.seq (.seq (.block (.seq (.region (.pures hT 2 rfl (.call Tryz.call17 rfl rfl rfl rfl (law15_key (by omega)) ?_)))))))
        rintro v_34 hs_34 ⟨rfl, rfl⟩
        refine OT.build (cs := encVl vA) hT rfl Tryz.zeroValue36 rfl rfl rfl rfl (.call Tryz.call16 rfl rfl rfl rfl (Fun.pull pl (vk_Write hS (t := 1) (k := keyV i) (v := vA) (by decide))) ?_)
        rintro v_36 hs_36 ⟨HS1, g1, e1, rfl, rfl, hS1, hw1⟩
        obtain ⟨rfl, hg1⟩ := cellsM_write (by omega) (by omega) (fun _ => rfl) (by decide) (by decide) (by decide) hg hw1
        refine OT.pures hT 2 rfl (.pures hT 2 rfl (.call Tryz.call17 rfl rfl rfl rfl (law15_key (by omega)) ?_))
        rintro v_41 hs_41 ⟨rfl, rfl⟩
        refine OT.build (cs := encVl vB) hT rfl Tryz.zeroValue36 rfl rfl rfl rfl (.call Tryz.call16 rfl rfl rfl rfl (Fun.pull pl (vk_Write hS1 (t := 2) (k := keyV i) (v := vB) (by decide))) ?_)
        rintro v_43 hs_43 ⟨HS2, g2, e2, rfl, rfl, hS2, hw2⟩
        obtain ⟨rfl, hg2⟩ := cellsM_busy (by omega) (by omega) (by decide) (by decide) (by decide) (by decide) hg1 hw2
        refine OT.pures hT 2 rfl (.nil (.seq (.cond_false rfl (.skip (.blk (.seq (.region (.pures hT 3 rfl (.nil (.loop (i + 1, HS2, g2) ?_ ?_ (SubR.cons rfl (SubR.cons rfl (SubR.cons rfl (SubR.cons' rfl (by (try dsimp only); exact (int_eq (by rw [wrap_i64 (by omega) (by omega)]; omega))) (SubR.nil _))))) sl))))))))))
        · dsimp only
          exact ⟨by omega, hS2, by rw [hg2]; exact hg1⟩
        · dsimp only
          omega
      ·
        have c29 := of_decide_eq_false c29
        refine TT.exit (.seq (.loop (.here (.seq (.seq (.region (.pures hT 2 rfl (.nil (.seq (.seq (.seq (.region (.pures hT 1 rfl (.nil (.seq (.cond rfl (fun c46 => ?_) (fun c46 => ?_)))))))))))))))))
        ·
          subst c46
          refine TT.region (.pures hT 1 rfl ?_)
          obtain rfl : i = n := by omega
          refine OT.call Tryz.call18 rfl rfl rfl rfl (Fun.pull pl (vk_Commit hS (t := 1) (by decide))) ?_
          rintro v_49 hs_49 ⟨HS3, g3, rfl, rfl, hS3, hg3⟩
          rw [hg, cellsM_commit] at hg3
          rw [hg, cellsM_count]
          refine OT.pures hT 5 rfl (.nil (.seq (.seq (.seq (.region (.pures hT 4 rfl (.split 60 rfl (fun g60 => ?_) (fun g60 => ?_))))))))
          ·
            exact absurd g60 (by simp)
          ·
            refine OT.pures hT 3 rfl (.nil (.seq (.cond_false rfl (.skip (.seq (.seq (.seq (.region (.pures hT 1 rfl (.nil (.seq (.block (.loop (ι := Nat × Chunk × Gone) (fun j => (j.1) ≤ i ∧ TrS b1 (j.2.2) (j.2.1) ∧ (j.2.2).2 = cellsM vA 2 vB i (j.1)) (fun j => i - (j.1)) (fun j => [(0, .int .i64 (i : Nat)), (1, .bool true), (6, .pointer (some ⟨b1, 0, none⟩)), (10, .int .i64 ((j.1) : Nat))]) (fun j => (j.2.1) :: hs) (0, HS3, g3) ?_ (SubR.cons rfl (SubR.cons rfl (SubR.cons rfl (SubR.cons rfl (SubR.nil _))))) sl ?_)))))))))))))
            · dsimp only
              exact ⟨Nat.zero_le _, hS3, hg3⟩
            rintro ⟨q, HS, g⟩ hI
            dsimp only at hI
            obtain ⟨hq, hS4, hg4⟩ := hI
            show TT _ _ _ [(0, .int .i64 (i : Nat)), (1, .bool true), (6, .pointer (some ⟨b1, 0, none⟩)), (10, .int .i64 (q : Nat))] (HS :: hs)
            refine TT.seq (.seq (.region (.pures hT 3 rfl (.nil (.seq (.cond rfl (fun c66 => ?_) (fun c66 => ?_)))))))
            ·
              have c66 := of_decide_eq_true c66
              refine TT.skip (.seq (.seq (.block (.seq (.region (.pures hT 2 rfl (.call Tryz.call17 rfl rfl rfl rfl (law15_key (by omega)) ?_)))))))
              rintro v_71 hs_71 ⟨rfl, rfl⟩
              refine OT.build (cs := encVl vB) hT rfl Tryz.zeroValue36 rfl rfl rfl rfl (.call Tryz.call16 rfl rfl rfl rfl (Fun.pull pl (vk_Write hS4 (t := 2) (k := keyV q) (v := vB) (by decide))) ?_)
              rintro v_73 hs_73 ⟨HS5, g5, e5, rfl, rfl, hS5, hw5⟩
              obtain ⟨rfl, hg5⟩ := cellsM_write (by omega) (by omega) (fun h => absurd h (by decide)) (by decide) (by decide) (by decide) hg4 hw5
              refine OT.pures hT 1 rfl (.nil (.seq (.cond_false rfl (.skip (.blk (.seq (.region (.pures hT 3 rfl (.nil (.loop (q + 1, HS5, g5) ?_ ?_ (SubR.cons rfl (SubR.cons rfl (SubR.cons rfl (SubR.cons' rfl (by (try dsimp only); exact (int_eq (by rw [wrap_i64 (by omega) (by omega)]; omega))) (SubR.nil _))))) sl))))))))))
              · dsimp only
                exact ⟨by omega, hS5, hg5⟩
              · dsimp only
                omega
            ·
              have c66 := of_decide_eq_false c66
              refine TT.exit (.seq (.loop (.here (.seq (.seq (.region (.pures hT 1 rfl (.mkiface Tryz.underlying24 rfl rfl rfl rfl ?_))))))))
              obtain rfl : q = i := by omega
              refine OT.call Tryz.call19 rfl rfl rfl rfl (Fun.pull pl (vk_Range hS4)) ?_
              rintro v_78 hs_78 ⟨HS6, K6, v6, rfl, rfl, ho6, hS6⟩
              have hk6 : (rangeL g.2 0 ⟨#[]⟩ ⟨#[]⟩).length = q := by rw [hg4, cellsM_range0]; rfl
              obtain ⟨a6, c6, hv6⟩ := (ho6.row (hs := [])).len
              subst hv6
              rw [hk6]
              refine OT.pures hT 5 rfl (.nil (.seq (.seq (.region (.pures hT 1 rfl (.mkiface Tryz.underlying24 rfl rfl rfl rfl (.call Tryz.call19 rfl rfl rfl rfl (Fun.pull pl (vk_Range hS6)) ?_)))))))
              rintro v_84 hs_84 ⟨HS7, K7, v7, rfl, rfl, ho7, hS7⟩
              rw [hg4, cellsM_range2] at ho7
              have hrow7 := ho7.row (hs := [])
              obtain ⟨a7, c7, hv7⟩ := hrow7.len
              subst hv7
              rw [List.length_map, List.length_range] at ho7 ⊢
              refine OT.pures hT 5 rfl (.nil (.seq (.seq (.region (.pures hT 3 rfl (.pures hT 4 rfl (.pures hT 8 rfl (.split 101 rfl (fun g101 => ?_) (fun g101 => ?_)))))))))
              ·
                refine OT.pures hT 6 rfl (.split 107 rfl (fun g107 => ?_) (fun g107 => ?_))
                ·
                  refine OT.pures hT 1 rfl (.index hT rfl rfl rfl rfl (Row.mono ho7.row fun b o hb => Has.sel sl hb) (by omega) (by exact show ((List.range q).map fun q => (keyV q, vB))[0]? = some (keyV 0, vB) by rw [List.getElem?_map, List.getElem?_range (by omega)]; rfl) rfl (fun ad_109 hel_109 => ?_))
                  obtain ⟨eb_109, eo_109, rfl, hfld_109⟩ := hel_109.at (P := Tryz.prog)
                  refine OT.pures hT 2 rfl (.load rfl rfl (hfld_109 hT rfl (j := 3) (v := .string ⟨#[98]⟩) rfl) rfl (.pures hT 3 rfl (.nil (.seq (.ret (.of (rs := [.tmp 4]) [_] hs rfl (.tmp rfl .nil) sl ?_))))))
                  try dsimp only [one]
                  exact ⟨rfl, rfl⟩
                ·
                  exact absurd g107 (by simp)
              ·
                exact absurd g101 (by first | (simp; done) | (simp; omega))
        ·
          subst c46
          refine TT.region (.pures hT 1 rfl ?_)
          obtain rfl : i = n := by omega
          refine OT.call Tryz.call27 rfl rfl rfl rfl (Fun.pull pl (vk_Undo hS (t := 1) (by decide))) ?_
          rintro v_54 hs_54 ⟨HS3, g3, rfl, rfl, hS3, hg3⟩
          rw [hg, cellsM_undo] at hg3
          rw [hg, cellsM_count]
          refine OT.pures hT 5 rfl (.nil (.seq (.seq (.seq (.region (.pures hT 4 rfl (.split 60 rfl (fun g60 => ?_) (fun g60 => ?_))))))))
          ·
            exact absurd g60 (by simp)
          ·
            refine OT.pures hT 3 rfl (.nil (.seq (.cond_false rfl (.skip (.seq (.seq (.seq (.region (.pures hT 1 rfl (.nil (.seq (.block (.loop (ι := Nat × Chunk × Gone) (fun j => (j.1) ≤ i ∧ TrS b1 (j.2.2) (j.2.1) ∧ (j.2.2).2 = cellsM noVl 2 vB i (j.1)) (fun j => i - (j.1)) (fun j => [(0, .int .i64 (i : Nat)), (1, .bool false), (6, .pointer (some ⟨b1, 0, none⟩)), (10, .int .i64 ((j.1) : Nat))]) (fun j => (j.2.1) :: hs) (0, HS3, g3) ?_ (SubR.cons rfl (SubR.cons rfl (SubR.cons rfl (SubR.cons rfl (SubR.nil _))))) sl ?_)))))))))))))
            · dsimp only
              exact ⟨Nat.zero_le _, hS3, hg3⟩
            rintro ⟨q, HS, g⟩ hI
            dsimp only at hI
            obtain ⟨hq, hS4, hg4⟩ := hI
            show TT _ _ _ [(0, .int .i64 (i : Nat)), (1, .bool false), (6, .pointer (some ⟨b1, 0, none⟩)), (10, .int .i64 (q : Nat))] (HS :: hs)
            refine TT.seq (.seq (.region (.pures hT 3 rfl (.nil (.seq (.cond rfl (fun c66 => ?_) (fun c66 => ?_)))))))
            ·
              have c66 := of_decide_eq_true c66
              refine TT.skip (.seq (.seq (.block (.seq (.region (.pures hT 2 rfl (.call Tryz.call17 rfl rfl rfl rfl (law15_key (by omega)) ?_)))))))
              rintro v_71 hs_71 ⟨rfl, rfl⟩
              refine OT.build (cs := encVl vB) hT rfl Tryz.zeroValue36 rfl rfl rfl rfl (.call Tryz.call16 rfl rfl rfl rfl (Fun.pull pl (vk_Write hS4 (t := 2) (k := keyV q) (v := vB) (by decide))) ?_)
              rintro v_73 hs_73 ⟨HS5, g5, e5, rfl, rfl, hS5, hw5⟩
              obtain ⟨rfl, hg5⟩ := cellsM_write (by omega) (by omega) (fun h => rfl) (by decide) (by decide) (by decide) hg4 hw5
              refine OT.pures hT 1 rfl (.nil (.seq (.cond_false rfl (.skip (.blk (.seq (.region (.pures hT 3 rfl (.nil (.loop (q + 1, HS5, g5) ?_ ?_ (SubR.cons rfl (SubR.cons rfl (SubR.cons rfl (SubR.cons' rfl (by (try dsimp only); exact (int_eq (by rw [wrap_i64 (by omega) (by omega)]; omega))) (SubR.nil _))))) sl))))))))))
              · dsimp only
                exact ⟨by omega, hS5, hg5⟩
              · dsimp only
                omega
            ·
              have c66 := of_decide_eq_false c66
              refine TT.exit (.seq (.loop (.here (.seq (.seq (.region (.pures hT 1 rfl (.mkiface Tryz.underlying24 rfl rfl rfl rfl ?_))))))))
              obtain rfl : q = i := by omega
              refine OT.call Tryz.call19 rfl rfl rfl rfl (Fun.pull pl (vk_Range hS4)) ?_
              rintro v_78 hs_78 ⟨HS6, K6, v6, rfl, rfl, ho6, hS6⟩
              have hk6 : (rangeL g.2 0 ⟨#[]⟩ ⟨#[]⟩).length = 0 := by rw [hg4, cellsM_range0]; rfl
              obtain ⟨a6, c6, hv6⟩ := (ho6.row (hs := [])).len
              subst hv6
              rw [hk6]
              refine OT.pures hT 5 rfl (.nil (.seq (.seq (.region (.pures hT 1 rfl (.mkiface Tryz.underlying24 rfl rfl rfl rfl (.call Tryz.call19 rfl rfl rfl rfl (Fun.pull pl (vk_Range hS6)) ?_)))))))
              rintro v_84 hs_84 ⟨HS7, K7, v7, rfl, rfl, ho7, hS7⟩
              rw [hg4, cellsM_range2] at ho7
              have hrow7 := ho7.row (hs := [])
              obtain ⟨a7, c7, hv7⟩ := hrow7.len
              subst hv7
              rw [List.length_map, List.length_range] at ho7 ⊢
              refine OT.pures hT 5 rfl (.nil (.seq (.seq (.region (.pures hT 3 rfl (.pures hT 4 rfl (.pures hT 8 rfl (.split 101 rfl (fun g101 => ?_) (fun g101 => ?_)))))))))
              ·
                refine OT.pures hT 6 rfl (.split 107 rfl (fun g107 => ?_) (fun g107 => ?_))
                ·
                  refine OT.pures hT 1 rfl (.index hT rfl rfl rfl rfl (Row.mono ho7.row fun b o hb => Has.sel sl hb) (by omega) (by exact show ((List.range q).map fun q => (keyV q, vB))[0]? = some (keyV 0, vB) by rw [List.getElem?_map, List.getElem?_range (by omega)]; rfl) rfl (fun ad_109 hel_109 => ?_))
                  obtain ⟨eb_109, eo_109, rfl, hfld_109⟩ := hel_109.at (P := Tryz.prog)
                  refine OT.pures hT 2 rfl (.load rfl rfl (hfld_109 hT rfl (j := 3) (v := .string ⟨#[98]⟩) rfl) rfl (.pures hT 3 rfl (.nil (.seq (.ret (.of (rs := [.tmp 4]) [_] hs rfl (.tmp rfl .nil) sl ?_))))))
                  try dsimp only [one]
                  exact ⟨rfl, rfl⟩
                ·
                  exact absurd g107 (by simp)
              ·
                exact absurd g101 (by first | (simp; done) | (simp; omega))

end Go.Proofs.YtihpkgmfkbkffaaGreat.Sx
end

section
namespace Go.Proofs.YtihpkgmfkbkffaaGreat.Sx
open Go Go.Sx Go.Pl
variable [Outer]

set_option maxHeartbeats 2000000 in
set_option maxRecDepth 100000 in
theorem ref23_Set {v : Value} {d : List Pair} {k : ByteArray} {x : Vl} {hs : List Chunk} (hr : Row encPair 4 hs v d) (hl : d.length ≤ 100000) : Fun Tryz.prog 36 [v, .string k, .agg ⟨encVl x⟩] hs (fun v' hs' => ∃ K, hs' = K :: hs ∧ Own encPair 4 60 v' (setP d k x) K) := by
  refine Fun.enter 59 Tryz.func36 rfl Tryz.ntmps36 rfl ?_
  obtain ⟨a0, c0, hv⟩ := hr.len
  subst hv
  refine TT.seq (.region (.box rfl rfl rfl (fun b_5 => ?_)))
  refine OT.pures hT 1 rfl (.nil (.seq (.seq (.region (.pures hT 1 rfl (.nil (.seq (.seq (.region (.pures hT 1 rfl (.load rfl rfl (Ld.one hT rfl hz rfl) rfl ?_)))))))))))
  refine OT.pures hT 2 rfl (.nil (.seq (.seq (.seq (.region (.reg 12 rfl (v := .bool (decide (x.kind = 0))) (congrArg Value.bool (by rw [Bool.eq_iff_iff]; simp)) (.pures hT 1 rfl ?_)))))))
  refine OT.nil (.seq (.block (.loop (ι := Nat × Value × Chunk) (fun j => (j.1) ≤ d.length ∧ Own encPair 4 60 (j.2.1) (setTo d k x (j.1)).1 (j.2.2)) (fun j => d.length - (j.1)) (fun j => [(0, .slice a0 d.length c0), (1, .string k), (5, .pointer (some ⟨b_5, 0, none⟩)), (7, (j.2.1)), (8, .bool (setTo d k x (j.1)).2), (9, .int .i64 ((j.1) : Nat))]) (fun j => (j.2.2) :: [(b_5, blk (encVl x) 36 (0, 0))] :: hs) (0, .slice none 0 0, []) ?_ (SubR.cons rfl (SubR.cons rfl (SubR.cons rfl (SubR.cons rfl (SubR.cons rfl (SubR.cons rfl (SubR.nil _))))))) (.empty sl) ?_)))
  · dsimp only
    exact ⟨Nat.zero_le _, Own.nil⟩
  rintro ⟨i, w, K⟩ hI
  dsimp only at hI
  obtain ⟨hi, hoK⟩ := hI
  show TT _ _ _ [(0, .slice a0 d.length c0), (1, .string k), (5, .pointer (some ⟨b_5, 0, none⟩)), (7, w), (8, .bool (setTo d k x i).2), (9, .int .i64 (i : Nat))] (K :: [(b_5, blk (encVl x) 36 (0, 0))] :: hs)
  refine TT.seq (.seq (.region (.pures hT 4 rfl (.nil (.seq (.cond rfl (fun c16 => ?_) (fun c16 => ?_)))))))
  ·
    have c16 := of_decide_eq_true c16
    obtain ⟨y, hy⟩ := nth (l := d) (i := i) (by omega)
    have hlen := setTo_len d k x i
    have hsu := setTo_succ (k := k) (v := x) hy
    refine TT.skip (.seq (.seq (.block (.cut (ι := Value × Chunk) (fun j => Own encPair 4 60 (j.1) (midS k x (setTo d k x i) y).1 (j.2)) (fun j => [(0, .slice a0 d.length c0), (1, .string k), (5, .pointer (some ⟨b_5, 0, none⟩)), (7, (j.1)), (8, .bool (midS k x (setTo d k x i) y).2), (9, .int .i64 (i : Nat))]) (fun j => (j.2) :: [(b_5, blk (encVl x) 36 (0, 0))] :: hs) ?_ ?_))))
    ·
      refine TT.seq (.region (.pures hT 3 rfl (.split 21 rfl (fun g21 => ?_) (fun g21 => ?_))))
      ·
        have g21 : (setTo d k x i).2 = false := by simpa using g21
        refine OT.pures hT 2 rfl (.index hT rfl rfl rfl rfl (hr.there.there) (by omega) (by rw [Int.toNat_natCast]; exact hy) rfl (fun ad_24 hel_24 => ?_))
        obtain ⟨eb_24, eo_24, rfl, hfld_24⟩ := hel_24.at (P := Tryz.prog)
        refine OT.pures hT 1 rfl (.load rfl rfl (hfld_24 hT rfl rfl) rfl (.pures hT 3 rfl (.nil (.seq (.cond rfl (fun c29 => ?_) (fun c29 => ?_))))))
        ·
          have hmid : midS k x (setTo d k x i) y = ((setTo d k x i).1 ++ [(k, x)], true) := by unfold midS kLt; rw [if_pos ⟨g21, by simpa using c29⟩]
          refine TT.seq (.region (.pures hT 2 rfl (.load rfl rfl (Ld.struct_all hT rfl hz rfl) rfl ?_)))
          refine OT.build (cs := encPair (k, x)) hT rfl Tryz.zeroValue60 rfl rfl rfl rfl ?_
          refine OT.buildSlice (enc := encPair) (xs := [(k, x)]) (xos := [.tmp 33]) el39 rfl rfl rfl rfl rfl (by simp [Value.cells]; rfl) (fun _ _ => rfl) rfl (by decide) rfl (fun v_34 H_34 ho_34 => ?_)
          refine OT.append hT el39 rfl rfl rfl rfl pl hoK (ho_34.row) (ones_all (fun _ => rfl) _) (by simp only [List.length_singleton]; omega) rfl (fun v_35 H_35 ho_35 => ?_)
          refine OT.pures hT 1 rfl (.nil (.seq (.region (.pures hT 1 rfl (.nil (.cut (v_35, H_35) ?_ (SubR.cons rfl (SubR.cons rfl (SubR.cons rfl (SubR.cons rfl (SubR.cons' rfl (by (try dsimp only); exact (by rw [hmid])) (SubR.cons rfl (SubR.nil _))))))) sl))))))
          · dsimp only
            exact (by rw [hmid]; exact ho_35)
        ·
          have hmid : midS k x (setTo d k x i) y = setTo d k x i := by unfold midS kLt; rw [if_neg (fun h => by rw [h.2] at c29; simp at c29)]
          refine TT.skip (.cut (w, K) ?_ (SubR.cons rfl (SubR.cons rfl (SubR.cons rfl (SubR.cons rfl (SubR.cons' rfl (by (try dsimp only); exact (by rw [hmid])) (SubR.cons rfl (SubR.nil _))))))) sl)
          · dsimp only
            exact (by rw [hmid]; exact hoK)
      ·
        have g21 : ¬ (setTo d k x i).2 = false := by simpa using g21
        have hmid : midS k x (setTo d k x i) y = setTo d k x i := by unfold midS; rw [if_neg (fun h => g21 h.1)]
        have hdn : (setTo d k x i).2 = true := by simpa using g21
        refine OT.pures hT 8 rfl (.nil (.seq (.cond_false rfl (.skip (.cut (w, K) ?_ (SubR.cons rfl (SubR.cons rfl (SubR.cons rfl (SubR.cons rfl (SubR.cons' rfl (by (try dsimp only); exact (by rw [hmid])) (SubR.cons rfl (SubR.nil _))))))) sl)))))
        · dsimp only
          exact (by rw [hmid]; exact hoK)
    ·
      rintro ⟨w, K⟩ hI
      dsimp only at hI
      have hoK := hI
      show TT _ _ _ [(0, .slice a0 d.length c0), (1, .string k), (5, .pointer (some ⟨b_5, 0, none⟩)), (7, w), (8, .bool (midS k x (setTo d k x i) y).2), (9, .int .i64 (i : Nat))] (K :: [(b_5, blk (encVl x) 36 (0, 0))] :: hs)
      have hml := midS_len k x (setTo d k x i) y
      refine TT.seq (.region (.pures hT 2 rfl (.index hT rfl rfl rfl rfl (hr.there.there) (by omega) (by rw [Int.toNat_natCast]; exact hy) rfl (fun ad_38 hel_38 => ?_))))
      obtain ⟨eb_38, eo_38, rfl, hfld_38⟩ := hel_38.at (P := Tryz.prog)
      refine OT.pures hT 1 rfl (.load rfl rfl (hfld_38 hT rfl rfl) rfl (.pures hT 2 rfl (.nil (.seq (.cond rfl (fun c42 => ?_) (fun c42 => ?_))))))
      ·
        have c42 : y.1 ≠ k := by simpa using c42
        refine TT.region (.pures hT 3 rfl (.index hT rfl rfl rfl rfl (hr.there.there) (by omega) (by rw [Int.toNat_natCast]; exact hy) rfl (fun ad_46 hel_46 => ?_)))
        refine OT.load rfl rfl (hel_46.ld_struct hT rfl) rfl ?_
        refine OT.buildSlice (enc := encPair) (xs := [y]) (xos := [.tmp 47]) el39 rfl rfl rfl rfl rfl (by simp [Value.cells]; rfl) (fun _ _ => rfl) rfl (by decide) rfl (fun v_48 H_48 ho_48 => ?_)
        refine OT.append hT el39 rfl rfl rfl rfl pl hoK (ho_48.row) (ones_all (fun _ => rfl) _) (by simp only [List.length_singleton]; omega) rfl (fun v_49 H_49 ho_49 => ?_)
        refine OT.pures hT 1 rfl (.nil (.blk (.seq (.region (.pures hT 3 rfl (.nil (.loop (i + 1, v_49, H_49) ?_ ?_ (SubR.cons rfl (SubR.cons rfl (SubR.cons rfl (SubR.cons rfl (SubR.cons' rfl (by (try dsimp only); exact ((by rw [hsu, stepS_two]))) (SubR.cons' rfl (by (try dsimp only); exact (int_eq (by rw [wrap_i64 (by omega) (by omega)]; omega))) (SubR.nil _))))))) sl)))))))
        · dsimp only
          exact ⟨by omega, by rw [hsu]; unfold stepS; rw [if_pos c42]; exact ho_49⟩
        · dsimp only
          omega
      ·
        have c42 : y.1 = k := by simpa using c42
        refine TT.skip (.blk (.seq (.region (.pures hT 3 rfl (.nil (.loop (i + 1, w, K) ?_ ?_ (SubR.cons rfl (SubR.cons rfl (SubR.cons rfl (SubR.cons rfl (SubR.cons' rfl (by (try dsimp only); exact ((by rw [hsu, stepS_two]))) (SubR.cons' rfl (by (try dsimp only); exact (int_eq (by rw [wrap_i64 (by omega) (by omega)]; omega))) (SubR.nil _))))))) sl))))))
        · dsimp only
          exact ⟨by omega, by rw [hsu]; unfold stepS; rw [if_neg (fun h => h c42)]; exact hoK⟩
        · dsimp only
          omega
  ·
    have c16 := of_decide_eq_false c16
    obtain rfl : i = d.length := by omega
    have hlen := setTo_len d k x d.length
    refine TT.exit (.seq (.loop (.here (.seq (.seq (.seq (.region (.pures hT 2 rfl (.nil (.seq (.cond rfl (fun c51 => ?_) (fun c51 => ?_))))))))))))
    ·
      have c51 : (setTo d k x d.length).2 = false := by simpa using c51
      refine TT.region (.pures hT 2 rfl (.load rfl rfl (Ld.struct_all hT rfl hz rfl) rfl ?_))
      refine OT.build (cs := encPair (k, x)) hT rfl Tryz.zeroValue60 rfl rfl rfl rfl ?_
      refine OT.buildSlice (enc := encPair) (xs := [(k, x)]) (xos := [.tmp 55]) el39 rfl rfl rfl rfl rfl (by simp [Value.cells]; rfl) (fun _ _ => rfl) rfl (by decide) rfl (fun v_56 H_56 ho_56 => ?_)
      refine OT.append hT el39 rfl rfl rfl rfl pl hoK (ho_56.row) (ones_all (fun _ => rfl) _) (by simp only [List.length_singleton]; omega) rfl (fun v_57 H_57 ho_57 => ?_)
      refine OT.pures hT 1 rfl (.nil (.seq (.seq (.region (.pures hT 2 rfl (.nil (.seq (.ret (.of (rs := [.tmp 6]) [_] (H_57 :: hs) rfl (.tmp rfl .nil) sl ?_)))))))))
      try dsimp only [one]
      exact ⟨_, rfl, by unfold setP; rw [if_pos c51]; exact ho_57⟩
    ·
      have c51 : ¬ (setTo d k x d.length).2 = false := by simpa using c51
      refine TT.skip (.seq (.seq (.region (.pures hT 2 rfl (.nil (.seq (.ret (.of (rs := [.tmp 6]) [_] (K :: hs) rfl (.tmp rfl .nil) sl ?_))))))))
      try dsimp only [one]
      exact ⟨_, rfl, by unfold setP; rw [if_neg c51]; exact hoK⟩

end Go.Proofs.YtihpkgmfkbkffaaGreat.Sx
end

section
namespace Go.Proofs.YtihpkgmfkbkffaaGreat.Sx
open Go Go.Sx Go.Pl
variable [Outer]

set_option maxHeartbeats 1000000 in
set_option maxRecDepth 100000 in
theorem law15_end {b : Nat} {g : Gone} {H : Chunk} {r : List Chunk} (hH : TrS b g H) {t : Int} (ht : isT t = true) {cm : Bool} {bt : Nat} : Fun Tryz.prog 37 [.int .i64 t, .bool cm, .pointer (some ⟨bt, 0, none⟩)] (H :: [(bt, blk [.pointer (some ⟨b, 0, none⟩)] 24 (0, 0))] :: r) (fun v' hs' => ∃ H' g', hs' = H' :: [(bt, blk [.pointer (some ⟨b, 0, none⟩)] 24 (0, 0))] :: r ∧ TrS b g' H' ∧ g'.2 = endL g.2 (fun x => decide (x = t)) (howOf cm)) := by
  refine Fun.enter 12 Tryz.func37 rfl Tryz.ntmps37 rfl ?_
  refine TT.seq (.region (.pures hT 1 rfl (.nil (.seq (.cond rfl (fun c5 => ?_) (fun c5 => ?_))))))
  ·
    subst c5
    refine TT.region (.load rfl rfl (Ld.one hT rfl hz rfl) rfl ?_)
    refine OT.pures hT 1 rfl (.call Tryz.call18 rfl rfl rfl rfl (vk_Commit hH ht) ?_)
    rintro v_8 hs_8 ⟨H1, g1, rfl, rfl, hS1, hg1⟩
    refine OT.nil (.of (rs := []) [] (H1 :: [(bt, blk [.pointer (some ⟨b, 0, none⟩)] 24 (0, 0))] :: r) rfl .nil sl ?_)
    try dsimp only [one]
    exact ⟨H1, g1, rfl, hS1, hg1⟩
  ·
    subst c5
    refine TT.region (.load rfl rfl (Ld.one hT rfl hz rfl) rfl ?_)
    refine OT.pures hT 1 rfl (.call Tryz.call27 rfl rfl rfl rfl (vk_Undo hH ht) ?_)
    rintro v_11 hs_11 ⟨H1, g1, rfl, rfl, hS1, hg1⟩
    refine OT.nil (.of (rs := []) [] (H1 :: [(bt, blk [.pointer (some ⟨b, 0, none⟩)] 24 (0, 0))] :: r) rfl .nil sl ?_)
    try dsimp only [one]
    exact ⟨H1, g1, rfl, hS1, hg1⟩

set_option maxHeartbeats 8000000 in
set_option maxRecDepth 100000 in
theorem law_VersTwo {v1 v2 : Value} {l1 l2 : List Int} {fi ca cb : Bool} {hs : List Chunk} (hr1 : Row Go.Sx.encI 1 hs v1 l1) (hr2 : Row Go.Sx.encI 1 hs v2 l2) (hl1 : l1.length ≤ 4611686018427387904) (hl2 : l2.length ≤ 4611686018427387904) : Fun Tryz.prog 9 [v1, v2, .bool fi, .bool ca, .bool cb] hs (fun v' hs' => v' = .bool true ∧ hs = hs') := by
  refine Fun.enter 150 Tryz.func9 rfl Tryz.ntmps9 rfl ?_
  obtain ⟨a0, c0, hv⟩ := hr1.len
  subst hv
  obtain ⟨a1, c1, hv⟩ := hr2.len
  subst hv
  refine TT.seq (.region (.pures hT 1 rfl (.nil (.seq (.seq (.region (.call Tryz.call14 rfl rfl rfl rfl (law15_begun) ?_)))))))
  rintro v_27 hs_27 ⟨rfl, rfl⟩
  refine OT.pures hT 1 rfl (.nil (.seq (.seq (.seq (.region (.pures hT 2 rfl (.nil (.seq (.cond_false rfl (.skip (.seq (.seq (.region (.build (cs := bkCells (List.replicate 96 (.slice none 0 0))) hT rfl Tryz.zeroValue30 rfl rfl rfl rfl (.box rfl rfl rfl (fun b_31 => ?_))))))))))))))))
  refine OT.mkiface Tryz.underlying26 rfl rfl rfl rfl ?_
  have hB0 : BkAt 30 b_31 noP [(b_31, blk (bkCells (List.replicate 96 (.slice none 0 0))) 30 (0, 0))] := BkAt.one (Slots.zero [[]])
  show OT _ _ _ _ _ ([(b_31, blk (bkCells (List.replicate 96 (.slice none 0 0))) 30 (0, 0))] :: hs)
  generalize ([(b_31, blk (bkCells (List.replicate 96 (.slice none 0 0))) 30 (0, 0))] : Chunk) = HB at hB0 ⊢
  refine OT.call Tryz.call15 rfl rfl rfl rfl (tk_New hB0) ?_
  rintro v_33 hs_33 ⟨b1, HS0, rfl, rfl, hS0⟩
  refine OT.alloc Tryz.zeroValue24 rfl rfl (fun b_12 => ?_)
  refine OT.store_all hT rfl rfl rfl rfl pl rfl rfl rfl (.inl (Nat.le_refl _)) ?_
  refine OT.nil (.seq (.seq (.region (.pures hT 1 rfl (.nil (.seq (.seq (.seq (.region (.pures hT 1 rfl (.nil (.seq (.block (.loop (ι := Nat × Chunk × Gone × Value × Chunk) (fun j => (j.1) ≤ 15 ∧ (j.1) ≤ l1.length ∧ TrS b1 (j.2.2.1) (j.2.1) ∧ TwoL (j.2.2.1).2 ∧ (j.2.2.1).2.length ≤ (j.1) ∧ Own encPair 4 60 (j.2.2.2.1) (wantL ca cb (j.2.2.1).2) (j.2.2.2.2)) (fun j => 15 - (j.1)) (fun j => [(0, .slice a0 l1.length c0), (1, .slice a1 l2.length c1), (2, .bool fi), (3, .bool ca), (4, .bool cb), (12, .pointer (some ⟨b_12, 0, none⟩)), (13, (j.2.2.2.1)), (14, .int .i64 ((j.1) : Nat))]) (fun j => (j.2.2.2.2) :: (j.2.1) :: [(b_12, blk [.pointer (some ⟨b1, 0, none⟩)] 24 (0, 0))] :: hs) (0, HS0, ([], []), .slice none 0 0, []) ?_ (SubR.cons rfl (SubR.cons rfl (SubR.cons rfl (SubR.cons rfl (SubR.cons rfl (SubR.cons rfl (SubR.cons rfl (SubR.cons rfl (SubR.nil _))))))))) (.empty sl) ?_))))))))))))))
  · dsimp only
    exact ⟨Nat.zero_le _, Nat.zero_le _, hS0, TwoL.nil, Nat.le_refl _, Own.nil⟩
  rintro ⟨i, HS, g, w, K⟩ hI
  dsimp only at hI
  obtain ⟨hi, hil, hS, h2, hgl, hoK⟩ := hI
  show TT _ _ _ [(0, .slice a0 l1.length c0), (1, .slice a1 l2.length c1), (2, .bool fi), (3, .bool ca), (4, .bool cb), (12, .pointer (some ⟨b_12, 0, none⟩)), (13, w), (14, .int .i64 (i : Nat))] (K :: HS :: [(b_12, blk [.pointer (some ⟨b1, 0, none⟩)] 24 (0, 0))] :: hs)
  refine TT.seq (.seq (.region (.pures hT 5 rfl (.split 38 rfl (fun g38 => ?_) (fun g38 => ?_)))))
  ·
    have g38 : i < l1.length := by have := of_decide_eq_true g38; omega
    refine OT.pures hT 3 rfl (.nil (.seq (.cond rfl (fun c41 => ?_) (fun c41 => ?_))))
    ·
      have c41 := of_decide_eq_true c41
      obtain ⟨x, hx⟩ := nth (l := l1) (i := i) (by omega)
      have hm := maskN_le (x := x) (m := 31) (by decide)
      refine TT.skip (.seq (.seq (.block (.seq (.region (.pures hT 2 rfl (.index hT rfl rfl rfl rfl (Row.mono hr1 fun b o hb => Has.sel sl hb) (by omega) (by rw [Int.toNat_natCast]; exact hx) rfl (fun ad_46 hel_46 => ?_))))))))
      refine OT.load rfl rfl (hel_46.ld_one hT rfl rfl) rfl (.pures hT 2 rfl (.reg 49 rfl (v := .int .i64 ((2 * maskN x 31 : Nat) : Int)) (int_eq (mask2 (by decide))) (.call Tryz.call17 rfl rfl rfl rfl (law15_key (by omega)) ?_)))
      rintro v_50 hs_50 ⟨rfl, rfl⟩
      refine OT.pures hT 1 rfl (.conv_if hT rfl rfl rfl rfl rfl (.build (cs := encVl ⟨1, FloatKind.f64.nearest (i : Nat), ⟨#[]⟩⟩) hT rfl Tryz.zeroValue36 rfl rfl rfl rfl (.alloc Tryz.zeroValue36 rfl rfl (fun b_16 => ?_))))
      refine OT.pures hT 1 rfl (.store_all hT rfl rfl rfl rfl pl rfl rfl rfl (.inl (Nat.le_refl _)) ?_)
      refine OT.nil (.seq (.seq (.seq (.region (.load rfl rfl (Ld.one hT rfl hz rfl) rfl ?_)))))
      refine OT.pures hT 1 rfl (.load rfl rfl (Ld.struct_all hT rfl hz rfl) rfl ?_)
      refine OT.call Tryz.call16 rfl rfl rfl rfl (Fun.pull pl (vk_Write hS (t := 1) (k := keyV (2 * maskN x 31)) (v := ⟨1, FloatKind.f64.nearest (i : Nat), ⟨#[]⟩⟩) (near_lt _))) ?_
      rintro v_57 hs_57 ⟨HS1, g1, e1, rfl, rfl, hS1, hw1⟩
      obtain ⟨rfl, h2', hl', hW1, hW0⟩ := (two_write (ca := ca) (cb := cb) hS.small.2.2.1 h2 even_key (by decide) (keyV_may _) (near_may (by omega)) (show (1 : Int) ≠ 0 by decide) hw1).resolve_right (fun h => by have := h.2; omega)
      refine OT.pures hT 1 rfl (.nil (.seq (.seq (.region (.pures hT 2 rfl (.nil (.seq (.cond_false rfl (.skip (.seq (.seq (.region (.pures hT 1 rfl (.nil (.seq (.cond rfl (fun c66 => ?_) (fun c66 => ?_)))))))))))))))))
      ·
        refine TT.region (.pures hT 2 rfl (.load rfl rfl (Ld.struct_all hT rfl hz rfl) rfl ?_))
        refine OT.call Tryz.call36 rfl rfl rfl rfl (ref23_Set (k := keyV (2 * maskN x 31)) (x := ⟨1, FloatKind.f64.nearest (i : Nat), ⟨#[]⟩⟩) (Row.mono hoK.row fun b o hb => Has.sel sl hb) (Nat.le_trans (want_len _ _ _) (Nat.le_trans hS.small.2.1 (by decide)))) ?_
        rintro v_70 hs_70 ⟨K2, rfl, hoK2⟩
        refine OT.pures hT 1 rfl (.nil (.blk (.seq (.region (.pures hT 3 rfl (.nil (.loop (i + 1, HS1, g1, v_70, K2) ?_ ?_ (SubR.cons rfl (SubR.cons rfl (SubR.cons rfl (SubR.cons rfl (SubR.cons rfl (SubR.cons rfl (SubR.cons rfl (SubR.cons' rfl (by (try dsimp only); exact (int_eq (by rw [wrap_i64 (by omega) (by omega)]; omega))) (SubR.nil _))))))))) sl)))))))
        · dsimp only
          exact ⟨by omega, by omega, hS1, h2', by omega, by rw [hW1 (by rw [c66]; rfl)]; exact hoK2⟩
        · dsimp only
          omega
      ·
        refine TT.skip (.blk (.seq (.region (.pures hT 3 rfl (.nil (.loop (i + 1, HS1, g1, w, K) ?_ ?_ (SubR.cons rfl (SubR.cons rfl (SubR.cons rfl (SubR.cons rfl (SubR.cons rfl (SubR.cons rfl (SubR.cons rfl (SubR.cons' rfl (by (try dsimp only); exact (int_eq (by rw [wrap_i64 (by omega) (by omega)]; omega))) (SubR.nil _))))))))) sl))))))
        · dsimp only
          exact ⟨by omega, by omega, hS1, h2', by omega, by rw [hW0 (by rw [c66]; rfl)]; exact hoK⟩
        · dsimp only
          omega
    ·
      have c41 := of_decide_eq_false c41
      refine TT.exit (.seq (.loop (.here (.seq (.seq (.seq (.region (.pures hT 1 rfl (.nil (.seq (.block (.loop (ι := Nat × Chunk × Gone × Value × Chunk) (fun j => (j.1) ≤ 15 ∧ TrS b1 (j.2.2.1) (j.2.1) ∧ TwoL (j.2.2.1).2 ∧ (j.2.2.1).2.length ≤ l1.length + (j.1) ∧ Own encPair 4 60 (j.2.2.2.1) (wantL ca cb (j.2.2.1).2) (j.2.2.2.2)) (fun j => 15 - (j.1)) (fun j => [(0, .slice a0 l1.length c0), (1, .slice a1 l2.length c1), (2, .bool fi), (3, .bool ca), (4, .bool cb), (12, .pointer (some ⟨b_12, 0, none⟩)), (13, (j.2.2.2.1)), (18, .int .i64 ((j.1) : Nat))]) (fun j => (j.2.2.2.2) :: (j.2.1) :: [(b_12, blk [.pointer (some ⟨b1, 0, none⟩)] 24 (0, 0))] :: hs) (0, HS, g, w, K) ?_ (SubR.cons rfl (SubR.cons rfl (SubR.cons rfl (SubR.cons rfl (SubR.cons rfl (SubR.cons rfl (SubR.cons rfl (SubR.cons rfl (SubR.nil _))))))))) sl ?_))))))))))))
      · dsimp only
        exact ⟨Nat.zero_le _, hS, h2, by omega, hoK⟩
      rintro ⟨q, HS, g, w, K⟩ hI
      dsimp only at hI
      obtain ⟨hq, hS, h2, hgl, hoK⟩ := hI
      show TT _ _ _ [(0, .slice a0 l1.length c0), (1, .slice a1 l2.length c1), (2, .bool fi), (3, .bool ca), (4, .bool cb), (12, .pointer (some ⟨b_12, 0, none⟩)), (13, w), (18, .int .i64 (q : Nat))] (K :: HS :: [(b_12, blk [.pointer (some ⟨b1, 0, none⟩)] 24 (0, 0))] :: hs)
      refine TT.seq (.seq (.region (.pures hT 5 rfl (.split 75 rfl (fun g75 => ?_) (fun g75 => ?_)))))
      ·
        have g75 : q < l2.length := by have := of_decide_eq_true g75; omega
        refine OT.pures hT 3 rfl (.nil (.seq (.cond rfl (fun c78 => ?_) (fun c78 => ?_))))
        ·
          have c78 := of_decide_eq_true c78
          obtain ⟨x, hx⟩ := nth (l := l2) (i := q) (by omega)
          have hm := maskN_le (x := x) (m := 31) (by decide)
          refine TT.skip (.seq (.seq (.block (.seq (.region (.pures hT 2 rfl (.index hT rfl rfl rfl rfl (Row.mono hr2 fun b o hb => Has.sel sl hb) (by omega) (by rw [Int.toNat_natCast]; exact hx) rfl (fun ad_83 hel_83 => ?_))))))))
          refine OT.load rfl rfl (hel_83.ld_one hT rfl rfl) rfl (.pures hT 3 rfl (.reg 87 rfl (v := .int .i64 ((2 * maskN x 31 + 1 : Nat) : Int)) (int_eq (mask21 (by decide))) (.call Tryz.call17 rfl rfl rfl rfl (law15_key (by omega)) ?_)))
          rintro v_88 hs_88 ⟨rfl, rfl⟩
          refine OT.build (cs := encVl vB) hT rfl Tryz.zeroValue36 rfl rfl rfl rfl (.alloc Tryz.zeroValue36 rfl rfl (fun b_20 => ?_))
          refine OT.pures hT 1 rfl (.store_all hT rfl rfl rfl rfl pl rfl rfl rfl (.inl (Nat.le_refl _)) ?_)
          refine OT.nil (.seq (.seq (.seq (.region (.load rfl rfl (Ld.one hT rfl hz rfl) rfl ?_)))))
          refine OT.pures hT 1 rfl (.load rfl rfl (Ld.struct_all hT rfl hz rfl) rfl ?_)
          refine OT.call Tryz.call16 rfl rfl rfl rfl (Fun.pull pl (vk_Write hS (t := 2) (k := keyV (2 * maskN x 31 + 1)) (v := vB) (by decide))) ?_
          rintro v_93 hs_93 ⟨HS1, g1, e1, rfl, rfl, hS1, hw1⟩
          obtain ⟨rfl, h2', hl', hW1, hW0⟩ | ⟨rfl, hfull⟩ := two_write (ca := ca) (cb := cb) hS.small.2.2.1 h2 odd_key (by decide) (keyV_may _) (by decide) (by decide) hw1
          ·
            refine OT.pures hT 1 rfl (.nil (.seq (.seq (.region (.pures hT 2 rfl (.nil (.seq (.cond_false rfl (.skip (.seq (.seq (.region (.pures hT 1 rfl (.nil (.seq (.cond rfl (fun c105 => ?_) (fun c105 => ?_)))))))))))))))))
            ·
              refine TT.region (.pures hT 2 rfl (.load rfl rfl (Ld.struct_all hT rfl hz rfl) rfl ?_))
              refine OT.call Tryz.call36 rfl rfl rfl rfl (ref23_Set (k := keyV (2 * maskN x 31 + 1)) (x := vB) (Row.mono hoK.row fun b o hb => Has.sel sl hb) (Nat.le_trans (want_len _ _ _) (Nat.le_trans hS.small.2.1 (by decide)))) ?_
              rintro v_109 hs_109 ⟨K2, rfl, hoK2⟩
              refine OT.pures hT 1 rfl (.nil (.blk (.seq (.region (.pures hT 3 rfl (.nil (.loop (q + 1, HS1, g1, v_109, K2) ?_ ?_ (SubR.cons rfl (SubR.cons rfl (SubR.cons rfl (SubR.cons rfl (SubR.cons rfl (SubR.cons rfl (SubR.cons rfl (SubR.cons' rfl (by (try dsimp only); exact (int_eq (by rw [wrap_i64 (by omega) (by omega)]; omega))) (SubR.nil _))))))))) sl)))))))
              · dsimp only
                exact ⟨by omega, hS1, h2', by omega, by rw [hW1 (by rw [c105]; rfl)]; exact hoK2⟩
              · dsimp only
                omega
            ·
              refine TT.skip (.blk (.seq (.region (.pures hT 3 rfl (.nil (.loop (q + 1, HS1, g1, w, K) ?_ ?_ (SubR.cons rfl (SubR.cons rfl (SubR.cons rfl (SubR.cons rfl (SubR.cons rfl (SubR.cons rfl (SubR.cons rfl (SubR.cons' rfl (by (try dsimp only); exact (int_eq (by rw [wrap_i64 (by omega) (by omega)]; omega))) (SubR.nil _))))))))) sl))))))
              · dsimp only
                exact ⟨by omega, hS1, h2', by omega, by rw [hW0 (by rw [c105]; rfl)]; exact hoK⟩
              · dsimp only
                omega
          ·
            refine OT.pures hT 1 rfl (.nil (.seq (.seq (.region (.pures hT 2 rfl (.nil (.seq (.cond_true rfl (.seq (.region (.pures hT 3 rfl (.pures hT 7 rfl (.nil (.seq (.ret (.of (rs := [.tmp 10]) [_] hs rfl (.tmp rfl .nil) sl ?_))))))))))))))))
            try dsimp only [one]
            exact ⟨congrArg Value.bool (decide_eq_true (by rw [wrap_i64 (by omega) (by omega)]; omega)), rfl⟩
        ·
          have c78 := of_decide_eq_false c78
          refine TT.exit (.seq (.loop (.here (.seq (.seq (.region (.pures hT 2 rfl (.nil (.seq (.seq (.seq (.region (.pures hT 1 rfl (.nil (.seq (.cond rfl (fun c111 => ?_) (fun c111 => ?_)))))))))))))))))
          ·
            refine TT.seq (.region (.pures hT 2 rfl ?_))
            refine OT.callc Tryz.call37 rfl rfl rfl rfl (Fun.weaken sl (law15_end hS (r := K :: hs) (t := 1) (by decide) (cm := ca))) ?_
            rintro v_114 hs_114 ⟨HS5, g5, rfl, hS5, hg5⟩
            refine OT.nil (.seq (.region (.pures hT 2 rfl ?_)))
            refine OT.callc Tryz.call37 rfl rfl rfl rfl (Fun.weaken sl (law15_end hS5 (r := K :: hs) (t := 2) (by decide) (cm := cb))) ?_
            rintro v_117 hs_117 ⟨HS6, g6, rfl, hS6, hg6⟩
            have hfin : g6.2 = g.2.filterMap (finC ca cb) := by rw [hg6, hg5, end_two h2]
            refine OT.nil (.seq (.seq (.region (.load rfl rfl (Ld.one hT rfl hz rfl) rfl ?_))))
            refine OT.mkiface Tryz.underlying24 rfl rfl rfl rfl (.call Tryz.call19 rfl rfl rfl rfl (Fun.pull pl (vk_Range hS6)) ?_)
            rintro v_127 hs_127 ⟨HS3, K3, v3, rfl, rfl, ho3, hS3⟩
            rw [hfin, fin_range] at ho3
            obtain ⟨a3, c3, hv3⟩ := (ho3.row (hs := [])).len
            subst hv3
            refine OT.pures hT 5 rfl (.nil (.seq (.seq (.region (.load rfl rfl (Ld.one hT rfl hz rfl) rfl ?_)))))
            refine OT.call Tryz.call23 rfl rfl rfl rfl (Fun.pull pl (vk_Clean hS3)) ?_
            rintro v_132 hs_132 ⟨HS8, g8, rfl, rfl, hS8, hg8⟩
            rw [hfin, fin_none]
            refine OT.pures hT 5 rfl (.nil (.seq (.seq (.region (.pures hT 3 rfl (.pures hT 2 rfl (.call Tryz.call24 rfl rfl rfl rfl (ref23_Eq (Row.mono ho3.row fun b o hb => Has.sel sl hb) (Row.mono hoK.row fun b o hb => Has.sel sl hb) (Nat.le_trans (want_len _ _ _) (Nat.le_trans hS.small.2.1 (by decide))) (want_fl hS.good.fl)) ?_)))))))
            rintro v_140 hs_140 ⟨rfl, rfl⟩
            refine OT.pures hT 2 rfl (.pures hT 4 rfl (.pures hT 4 rfl (.nil (.seq (.ret (.of (rs := [.tmp 10]) [_] hs rfl (.tmp rfl .nil) sl ?_))))))
            try dsimp only [one]
            exact ⟨rfl, rfl⟩
          ·
            refine TT.seq (.region (.pures hT 2 rfl ?_))
            refine OT.callc Tryz.call37 rfl rfl rfl rfl (Fun.weaken sl (law15_end hS (r := K :: hs) (t := 2) (by decide) (cm := cb))) ?_
            rintro v_120 hs_120 ⟨HS5, g5, rfl, hS5, hg5⟩
            refine OT.nil (.seq (.region (.pures hT 2 rfl ?_)))
            refine OT.callc Tryz.call37 rfl rfl rfl rfl (Fun.weaken sl (law15_end hS5 (r := K :: hs) (t := 1) (by decide) (cm := ca))) ?_
            rintro v_123 hs_123 ⟨HS6, g6, rfl, hS6, hg6⟩
            have hfin : g6.2 = g.2.filterMap (finC ca cb) := by rw [hg6, hg5, end_two2 h2]
            refine OT.nil (.seq (.seq (.region (.load rfl rfl (Ld.one hT rfl hz rfl) rfl ?_))))
            refine OT.mkiface Tryz.underlying24 rfl rfl rfl rfl (.call Tryz.call19 rfl rfl rfl rfl (Fun.pull pl (vk_Range hS6)) ?_)
            rintro v_127 hs_127 ⟨HS3, K3, v3, rfl, rfl, ho3, hS3⟩
            rw [hfin, fin_range] at ho3
            obtain ⟨a3, c3, hv3⟩ := (ho3.row (hs := [])).len
            subst hv3
            refine OT.pures hT 5 rfl (.nil (.seq (.seq (.region (.load rfl rfl (Ld.one hT rfl hz rfl) rfl ?_)))))
            refine OT.call Tryz.call23 rfl rfl rfl rfl (Fun.pull pl (vk_Clean hS3)) ?_
            rintro v_132 hs_132 ⟨HS8, g8, rfl, rfl, hS8, hg8⟩
            rw [hfin, fin_none]
            refine OT.pures hT 5 rfl (.nil (.seq (.seq (.region (.pures hT 3 rfl (.pures hT 2 rfl (.call Tryz.call24 rfl rfl rfl rfl (ref23_Eq (Row.mono ho3.row fun b o hb => Has.sel sl hb) (Row.mono hoK.row fun b o hb => Has.sel sl hb) (Nat.le_trans (want_len _ _ _) (Nat.le_trans hS.small.2.1 (by decide))) (want_fl hS.good.fl)) ?_)))))))
            rintro v_140 hs_140 ⟨rfl, rfl⟩
            refine OT.pures hT 2 rfl (.pures hT 4 rfl (.pures hT 4 rfl (.nil (.seq (.ret (.of (rs := [.tmp 10]) [_] hs rfl (.tmp rfl .nil) sl ?_))))))
            try dsimp only [one]
            exact ⟨rfl, rfl⟩
      ·
        have g75 : ¬ q < l2.length := by have := of_decide_eq_false g75; omega
        refine OT.pures hT 3 rfl (.nil (.seq (.cond_false rfl (.exit (.seq (.loop (.here (.seq (.seq (.region (.pures hT 2 rfl (.nil (.seq (.seq (.seq (.region (.pures hT 1 rfl (.nil (.seq (.cond rfl (fun c111 => ?_) (fun c111 => ?_)))))))))))))))))))))
        ·
          refine TT.seq (.region (.pures hT 2 rfl ?_))
          refine OT.callc Tryz.call37 rfl rfl rfl rfl (Fun.weaken sl (law15_end hS (r := K :: hs) (t := 1) (by decide) (cm := ca))) ?_
          rintro v_114 hs_114 ⟨HS5, g5, rfl, hS5, hg5⟩
          refine OT.nil (.seq (.region (.pures hT 2 rfl ?_)))
          refine OT.callc Tryz.call37 rfl rfl rfl rfl (Fun.weaken sl (law15_end hS5 (r := K :: hs) (t := 2) (by decide) (cm := cb))) ?_
          rintro v_117 hs_117 ⟨HS6, g6, rfl, hS6, hg6⟩
          have hfin : g6.2 = g.2.filterMap (finC ca cb) := by rw [hg6, hg5, end_two h2]
          refine OT.nil (.seq (.seq (.region (.load rfl rfl (Ld.one hT rfl hz rfl) rfl ?_))))
          refine OT.mkiface Tryz.underlying24 rfl rfl rfl rfl (.call Tryz.call19 rfl rfl rfl rfl (Fun.pull pl (vk_Range hS6)) ?_)
          rintro v_127 hs_127 ⟨HS3, K3, v3, rfl, rfl, ho3, hS3⟩
          rw [hfin, fin_range] at ho3
          obtain ⟨a3, c3, hv3⟩ := (ho3.row (hs := [])).len
          subst hv3
          refine OT.pures hT 5 rfl (.nil (.seq (.seq (.region (.load rfl rfl (Ld.one hT rfl hz rfl) rfl ?_)))))
          refine OT.call Tryz.call23 rfl rfl rfl rfl (Fun.pull pl (vk_Clean hS3)) ?_
          rintro v_132 hs_132 ⟨HS8, g8, rfl, rfl, hS8, hg8⟩
          rw [hfin, fin_none]
          refine OT.pures hT 5 rfl (.nil (.seq (.seq (.region (.pures hT 3 rfl (.pures hT 2 rfl (.call Tryz.call24 rfl rfl rfl rfl (ref23_Eq (Row.mono ho3.row fun b o hb => Has.sel sl hb) (Row.mono hoK.row fun b o hb => Has.sel sl hb) (Nat.le_trans (want_len _ _ _) (Nat.le_trans hS.small.2.1 (by decide))) (want_fl hS.good.fl)) ?_)))))))
          rintro v_140 hs_140 ⟨rfl, rfl⟩
          refine OT.pures hT 2 rfl (.pures hT 4 rfl (.pures hT 4 rfl (.nil (.seq (.ret (.of (rs := [.tmp 10]) [_] hs rfl (.tmp rfl .nil) sl ?_))))))
          try dsimp only [one]
          exact ⟨rfl, rfl⟩
        ·
          refine TT.seq (.region (.pures hT 2 rfl ?_))
          refine OT.callc Tryz.call37 rfl rfl rfl rfl (Fun.weaken sl (law15_end hS (r := K :: hs) (t := 2) (by decide) (cm := cb))) ?_
          rintro v_120 hs_120 ⟨HS5, g5, rfl, hS5, hg5⟩
          refine OT.nil (.seq (.region (.pures hT 2 rfl ?_)))
          refine OT.callc Tryz.call37 rfl rfl rfl rfl (Fun.weaken sl (law15_end hS5 (r := K :: hs) (t := 1) (by decide) (cm := ca))) ?_
          rintro v_123 hs_123 ⟨HS6, g6, rfl, hS6, hg6⟩
          have hfin : g6.2 = g.2.filterMap (finC ca cb) := by rw [hg6, hg5, end_two2 h2]
          refine OT.nil (.seq (.seq (.region (.load rfl rfl (Ld.one hT rfl hz rfl) rfl ?_))))
          refine OT.mkiface Tryz.underlying24 rfl rfl rfl rfl (.call Tryz.call19 rfl rfl rfl rfl (Fun.pull pl (vk_Range hS6)) ?_)
          rintro v_127 hs_127 ⟨HS3, K3, v3, rfl, rfl, ho3, hS3⟩
          rw [hfin, fin_range] at ho3
          obtain ⟨a3, c3, hv3⟩ := (ho3.row (hs := [])).len
          subst hv3
          refine OT.pures hT 5 rfl (.nil (.seq (.seq (.region (.load rfl rfl (Ld.one hT rfl hz rfl) rfl ?_)))))
          refine OT.call Tryz.call23 rfl rfl rfl rfl (Fun.pull pl (vk_Clean hS3)) ?_
          rintro v_132 hs_132 ⟨HS8, g8, rfl, rfl, hS8, hg8⟩
          rw [hfin, fin_none]
          refine OT.pures hT 5 rfl (.nil (.seq (.seq (.region (.pures hT 3 rfl (.pures hT 2 rfl (.call Tryz.call24 rfl rfl rfl rfl (ref23_Eq (Row.mono ho3.row fun b o hb => Has.sel sl hb) (Row.mono hoK.row fun b o hb => Has.sel sl hb) (Nat.le_trans (want_len _ _ _) (Nat.le_trans hS.small.2.1 (by decide))) (want_fl hS.good.fl)) ?_)))))))
          rintro v_140 hs_140 ⟨rfl, rfl⟩
          refine OT.pures hT 2 rfl (.pures hT 4 rfl (.pures hT 4 rfl (.nil (.seq (.ret (.of (rs := [.tmp 10]) [_] hs rfl (.tmp rfl .nil) sl ?_))))))
          try dsimp only [one]
          exact ⟨rfl, rfl⟩
  ·
    have g38 : ¬ i < l1.length := by have := of_decide_eq_false g38; omega
    refine OT.pures hT 3 rfl (.nil (.seq (.cond_false rfl (.exit (.seq (.loop (.here (.seq (.seq (.seq (.region (.pures hT 1 rfl (.nil (.seq (.block (.loop (ι := Nat × Chunk × Gone × Value × Chunk) (fun j => (j.1) ≤ 15 ∧ TrS b1 (j.2.2.1) (j.2.1) ∧ TwoL (j.2.2.1).2 ∧ (j.2.2.1).2.length ≤ l1.length + (j.1) ∧ Own encPair 4 60 (j.2.2.2.1) (wantL ca cb (j.2.2.1).2) (j.2.2.2.2)) (fun j => 15 - (j.1)) (fun j => [(0, .slice a0 l1.length c0), (1, .slice a1 l2.length c1), (2, .bool fi), (3, .bool ca), (4, .bool cb), (12, .pointer (some ⟨b_12, 0, none⟩)), (13, (j.2.2.2.1)), (18, .int .i64 ((j.1) : Nat))]) (fun j => (j.2.2.2.2) :: (j.2.1) :: [(b_12, blk [.pointer (some ⟨b1, 0, none⟩)] 24 (0, 0))] :: hs) (0, HS, g, w, K) ?_ (SubR.cons rfl (SubR.cons rfl (SubR.cons rfl (SubR.cons rfl (SubR.cons rfl (SubR.cons rfl (SubR.cons rfl (SubR.cons rfl (SubR.nil _))))))))) sl ?_))))))))))))))))
    · dsimp only
      exact ⟨Nat.zero_le _, hS, h2, by omega, hoK⟩
    rintro ⟨q, HS, g, w, K⟩ hI
    dsimp only at hI
    obtain ⟨hq, hS, h2, hgl, hoK⟩ := hI
    show TT _ _ _ [(0, .slice a0 l1.length c0), (1, .slice a1 l2.length c1), (2, .bool fi), (3, .bool ca), (4, .bool cb), (12, .pointer (some ⟨b_12, 0, none⟩)), (13, w), (18, .int .i64 (q : Nat))] (K :: HS :: [(b_12, blk [.pointer (some ⟨b1, 0, none⟩)] 24 (0, 0))] :: hs)
    refine TT.seq (.seq (.region (.pures hT 5 rfl (.split 75 rfl (fun g75 => ?_) (fun g75 => ?_)))))
    ·
      have g75 : q < l2.length := by have := of_decide_eq_true g75; omega
      refine OT.pures hT 3 rfl (.nil (.seq (.cond rfl (fun c78 => ?_) (fun c78 => ?_))))
      ·
        have c78 := of_decide_eq_true c78
        obtain ⟨x, hx⟩ := nth (l := l2) (i := q) (by omega)
        have hm := maskN_le (x := x) (m := 31) (by decide)
        refine TT.skip (.seq (.seq (.block (.seq (.region (.pures hT 2 rfl (.index hT rfl rfl rfl rfl (Row.mono hr2 fun b o hb => Has.sel sl hb) (by omega) (by rw [Int.toNat_natCast]; exact hx) rfl (fun ad_83 hel_83 => ?_))))))))
        refine OT.load rfl rfl (hel_83.ld_one hT rfl rfl) rfl (.pures hT 3 rfl (.reg 87 rfl (v := .int .i64 ((2 * maskN x 31 + 1 : Nat) : Int)) (int_eq (mask21 (by decide))) (.call Tryz.call17 rfl rfl rfl rfl (law15_key (by omega)) ?_)))
        rintro v_88 hs_88 ⟨rfl, rfl⟩
        refine OT.build (cs := encVl vB) hT rfl Tryz.zeroValue36 rfl rfl rfl rfl (.alloc Tryz.zeroValue36 rfl rfl (fun b_20 => ?_))
        refine OT.pures hT 1 rfl (.store_all hT rfl rfl rfl rfl pl rfl rfl rfl (.inl (Nat.le_refl _)) ?_)
        refine OT.nil (.seq (.seq (.seq (.region (.load rfl rfl (Ld.one hT rfl hz rfl) rfl ?_)))))
        refine OT.pures hT 1 rfl (.load rfl rfl (Ld.struct_all hT rfl hz rfl) rfl ?_)
        refine OT.call Tryz.call16 rfl rfl rfl rfl (Fun.pull pl (vk_Write hS (t := 2) (k := keyV (2 * maskN x 31 + 1)) (v := vB) (by decide))) ?_
        rintro v_93 hs_93 ⟨HS1, g1, e1, rfl, rfl, hS1, hw1⟩
        obtain ⟨rfl, h2', hl', hW1, hW0⟩ | ⟨rfl, hfull⟩ := two_write (ca := ca) (cb := cb) hS.small.2.2.1 h2 odd_key (by decide) (keyV_may _) (by decide) (by decide) hw1
        ·
          refine OT.pures hT 1 rfl (.nil (.seq (.seq (.region (.pures hT 2 rfl (.nil (.seq (.cond_false rfl (.skip (.seq (.seq (.region (.pures hT 1 rfl (.nil (.seq (.cond rfl (fun c105 => ?_) (fun c105 => ?_)))))))))))))))))
          ·
            refine TT.region (.pures hT 2 rfl (.load rfl rfl (Ld.struct_all hT rfl hz rfl) rfl ?_))
            refine OT.call Tryz.call36 rfl rfl rfl rfl (ref23_Set (k := keyV (2 * maskN x 31 + 1)) (x := vB) (Row.mono hoK.row fun b o hb => Has.sel sl hb) (Nat.le_trans (want_len _ _ _) (Nat.le_trans hS.small.2.1 (by decide)))) ?_
            rintro v_109 hs_109 ⟨K2, rfl, hoK2⟩
            refine OT.pures hT 1 rfl (.nil (.blk (.seq (.region (.pures hT 3 rfl (.nil (.loop (q + 1, HS1, g1, v_109, K2) ?_ ?_ (SubR.cons rfl (SubR.cons rfl (SubR.cons rfl (SubR.cons rfl (SubR.cons rfl (SubR.cons rfl (SubR.cons rfl (SubR.cons' rfl (by (try dsimp only); exact (int_eq (by rw [wrap_i64 (by omega) (by omega)]; omega))) (SubR.nil _))))))))) sl)))))))
            · dsimp only
              exact ⟨by omega, hS1, h2', by omega, by rw [hW1 (by rw [c105]; rfl)]; exact hoK2⟩
            · dsimp only
              omega
          ·
            refine TT.skip (.blk (.seq (.region (.pures hT 3 rfl (.nil (.loop (q + 1, HS1, g1, w, K) ?_ ?_ (SubR.cons rfl (SubR.cons rfl (SubR.cons rfl (SubR.cons rfl (SubR.cons rfl (SubR.cons rfl (SubR.cons rfl (SubR.cons' rfl (by (try dsimp only); exact (int_eq (by rw [wrap_i64 (by omega) (by omega)]; omega))) (SubR.nil _))))))))) sl))))))
            · dsimp only
              exact ⟨by omega, hS1, h2', by omega, by rw [hW0 (by rw [c105]; rfl)]; exact hoK⟩
            · dsimp only
              omega
        ·
          refine OT.pures hT 1 rfl (.nil (.seq (.seq (.region (.pures hT 2 rfl (.nil (.seq (.cond_true rfl (.seq (.region (.pures hT 3 rfl (.pures hT 7 rfl (.nil (.seq (.ret (.of (rs := [.tmp 10]) [_] hs rfl (.tmp rfl .nil) sl ?_))))))))))))))))
          try dsimp only [one]
          exact ⟨congrArg Value.bool (decide_eq_true (by rw [wrap_i64 (by omega) (by omega)]; omega)), rfl⟩
      ·
        have c78 := of_decide_eq_false c78
        refine TT.exit (.seq (.loop (.here (.seq (.seq (.region (.pures hT 2 rfl (.nil (.seq (.seq (.seq (.region (.pures hT 1 rfl (.nil (.seq (.cond rfl (fun c111 => ?_) (fun c111 => ?_)))))))))))))))))
        ·
          refine TT.seq (.region (.pures hT 2 rfl ?_))
          refine OT.callc Tryz.call37 rfl rfl rfl rfl (Fun.weaken sl (law15_end hS (r := K :: hs) (t := 1) (by decide) (cm := ca))) ?_
          rintro v_114 hs_114 ⟨HS5, g5, rfl, hS5, hg5⟩
          refine OT.nil (.seq (.region (.pures hT 2 rfl ?_)))
          refine OT.callc Tryz.call37 rfl rfl rfl rfl (Fun.weaken sl (law15_end hS5 (r := K :: hs) (t := 2) (by decide) (cm := cb))) ?_
          rintro v_117 hs_117 ⟨HS6, g6, rfl, hS6, hg6⟩
          have hfin : g6.2 = g.2.filterMap (finC ca cb) := by rw [hg6, hg5, end_two h2]
          refine OT.nil (.seq (.seq (.region (.load rfl rfl (Ld.one hT rfl hz rfl) rfl ?_))))
          refine OT.mkiface Tryz.underlying24 rfl rfl rfl rfl (.call Tryz.call19 rfl rfl rfl rfl (Fun.pull pl (vk_Range hS6)) ?_)
          rintro v_127 hs_127 ⟨HS3, K3, v3, rfl, rfl, ho3, hS3⟩
          rw [hfin, fin_range] at ho3
          obtain ⟨a3, c3, hv3⟩ := (ho3.row (hs := [])).len
          subst hv3
          refine OT.pures hT 5 rfl (.nil (.seq (.seq (.region (.load rfl rfl (Ld.one hT rfl hz rfl) rfl ?_)))))
          refine OT.call Tryz.call23 rfl rfl rfl rfl (Fun.pull pl (vk_Clean hS3)) ?_
          rintro v_132 hs_132 ⟨HS8, g8, rfl, rfl, hS8, hg8⟩
          rw [hfin, fin_none]
          refine OT.pures hT 5 rfl (.nil (.seq (.seq (.region (.pures hT 3 rfl (.pures hT 2 rfl (.call Tryz.call24 rfl rfl rfl rfl (ref23_Eq (Row.mono ho3.row fun b o hb => Has.sel sl hb) (Row.mono hoK.row fun b o hb => Has.sel sl hb) (Nat.le_trans (want_len _ _ _) (Nat.le_trans hS.small.2.1 (by decide))) (want_fl hS.good.fl)) ?_)))))))
          rintro v_140 hs_140 ⟨rfl, rfl⟩
          refine OT.pures hT 2 rfl (.pures hT 4 rfl (.pures hT 4 rfl (.nil (.seq (.ret (.of (rs := [.tmp 10]) [_] hs rfl (.tmp rfl .nil) sl ?_))))))
          try dsimp only [one]
          exact ⟨rfl, rfl⟩
        ·
          refine TT.seq (.region (.pures hT 2 rfl ?_))
          refine OT.callc Tryz.call37 rfl rfl rfl rfl (Fun.weaken sl (law15_end hS (r := K :: hs) (t := 2) (by decide) (cm := cb))) ?_
          rintro v_120 hs_120 ⟨HS5, g5, rfl, hS5, hg5⟩
          refine OT.nil (.seq (.region (.pures hT 2 rfl ?_)))
          refine OT.callc Tryz.call37 rfl rfl rfl rfl (Fun.weaken sl (law15_end hS5 (r := K :: hs) (t := 1) (by decide) (cm := ca))) ?_
          rintro v_123 hs_123 ⟨HS6, g6, rfl, hS6, hg6⟩
          have hfin : g6.2 = g.2.filterMap (finC ca cb) := by rw [hg6, hg5, end_two2 h2]
          refine OT.nil (.seq (.seq (.region (.load rfl rfl (Ld.one hT rfl hz rfl) rfl ?_))))
          refine OT.mkiface Tryz.underlying24 rfl rfl rfl rfl (.call Tryz.call19 rfl rfl rfl rfl (Fun.pull pl (vk_Range hS6)) ?_)
          rintro v_127 hs_127 ⟨HS3, K3, v3, rfl, rfl, ho3, hS3⟩
          rw [hfin, fin_range] at ho3
          obtain ⟨a3, c3, hv3⟩ := (ho3.row (hs := [])).len
          subst hv3
          refine OT.pures hT 5 rfl (.nil (.seq (.seq (.region (.load rfl rfl (Ld.one hT rfl hz rfl) rfl ?_)))))
          refine OT.call Tryz.call23 rfl rfl rfl rfl (Fun.pull pl (vk_Clean hS3)) ?_
          rintro v_132 hs_132 ⟨HS8, g8, rfl, rfl, hS8, hg8⟩
          rw [hfin, fin_none]
          refine OT.pures hT 5 rfl (.nil (.seq (.seq (.region (.pures hT 3 rfl (.pures hT 2 rfl (.call Tryz.call24 rfl rfl rfl rfl (ref23_Eq (Row.mono ho3.row fun b o hb => Has.sel sl hb) (Row.mono hoK.row fun b o hb => Has.sel sl hb) (Nat.le_trans (want_len _ _ _) (Nat.le_trans hS.small.2.1 (by decide))) (want_fl hS.good.fl)) ?_)))))))
          rintro v_140 hs_140 ⟨rfl, rfl⟩
          refine OT.pures hT 2 rfl (.pures hT 4 rfl (.pures hT 4 rfl (.nil (.seq (.ret (.of (rs := [.tmp 10]) [_] hs rfl (.tmp rfl .nil) sl ?_))))))
          try dsimp only [one]
          exact ⟨rfl, rfl⟩
    ·
      have g75 : ¬ q < l2.length := by have := of_decide_eq_false g75; omega
      refine OT.pures hT 3 rfl (.nil (.seq (.cond_false rfl (.exit (.seq (.loop (.here (.seq (.seq (.region (.pures hT 2 rfl (.nil (.seq (.seq (.seq (.region (.pures hT 1 rfl (.nil (.seq (.cond rfl (fun c111 => ?_) (fun c111 => ?_)))))))))))))))))))))
      ·
        refine TT.seq (.region (.pures hT 2 rfl ?_))
        refine OT.callc Tryz.call37 rfl rfl rfl rfl (Fun.weaken sl (law15_end hS (r := K :: hs) (t := 1) (by decide) (cm := ca))) ?_
        rintro v_114 hs_114 ⟨HS5, g5, rfl, hS5, hg5⟩
        refine OT.nil (.seq (.region (.pures hT 2 rfl ?_)))
        refine OT.callc Tryz.call37 rfl rfl rfl rfl (Fun.weaken sl (law15_end hS5 (r := K :: hs) (t := 2) (by decide) (cm := cb))) ?_
        rintro v_117 hs_117 ⟨HS6, g6, rfl, hS6, hg6⟩
        have hfin : g6.2 = g.2.filterMap (finC ca cb) := by rw [hg6, hg5, end_two h2]
        refine OT.nil (.seq (.seq (.region (.load rfl rfl (Ld.one hT rfl hz rfl) rfl ?_))))
        refine OT.mkiface Tryz.underlying24 rfl rfl rfl rfl (.call Tryz.call19 rfl rfl rfl rfl (Fun.pull pl (vk_Range hS6)) ?_)
        rintro v_127 hs_127 ⟨HS3, K3, v3, rfl, rfl, ho3, hS3⟩
        rw [hfin, fin_range] at ho3
        obtain ⟨a3, c3, hv3⟩ := (ho3.row (hs := [])).len
        subst hv3
        refine OT.pures hT 5 rfl (.nil (.seq (.seq (.region (.load rfl rfl (Ld.one hT rfl hz rfl) rfl ?_)))))
        refine OT.call Tryz.call23 rfl rfl rfl rfl (Fun.pull pl (vk_Clean hS3)) ?_
        rintro v_132 hs_132 ⟨HS8, g8, rfl, rfl, hS8, hg8⟩
        rw [hfin, fin_none]
        refine OT.pures hT 5 rfl (.nil (.seq (.seq (.region (.pures hT 3 rfl (.pures hT 2 rfl (.call Tryz.call24 rfl rfl rfl rfl (ref23_Eq (Row.mono ho3.row fun b o hb => Has.sel sl hb) (Row.mono hoK.row fun b o hb => Has.sel sl hb) (Nat.le_trans (want_len _ _ _) (Nat.le_trans hS.small.2.1 (by decide))) (want_fl hS.good.fl)) ?_)))))))
        rintro v_140 hs_140 ⟨rfl, rfl⟩
        refine OT.pures hT 2 rfl (.pures hT 4 rfl (.pures hT 4 rfl (.nil (.seq (.ret (.of (rs := [.tmp 10]) [_] hs rfl (.tmp rfl .nil) sl ?_))))))
        try dsimp only [one]
        exact ⟨rfl, rfl⟩
      ·
        refine TT.seq (.region (.pures hT 2 rfl ?_))
        refine OT.callc Tryz.call37 rfl rfl rfl rfl (Fun.weaken sl (law15_end hS (r := K :: hs) (t := 2) (by decide) (cm := cb))) ?_
        rintro v_120 hs_120 ⟨HS5, g5, rfl, hS5, hg5⟩
        refine OT.nil (.seq (.region (.pures hT 2 rfl ?_)))
        refine OT.callc Tryz.call37 rfl rfl rfl rfl (Fun.weaken sl (law15_end hS5 (r := K :: hs) (t := 1) (by decide) (cm := ca))) ?_
        rintro v_123 hs_123 ⟨HS6, g6, rfl, hS6, hg6⟩
        have hfin : g6.2 = g.2.filterMap (finC ca cb) := by rw [hg6, hg5, end_two2 h2]
        refine OT.nil (.seq (.seq (.region (.load rfl rfl (Ld.one hT rfl hz rfl) rfl ?_))))
        refine OT.mkiface Tryz.underlying24 rfl rfl rfl rfl (.call Tryz.call19 rfl rfl rfl rfl (Fun.pull pl (vk_Range hS6)) ?_)
        rintro v_127 hs_127 ⟨HS3, K3, v3, rfl, rfl, ho3, hS3⟩
        rw [hfin, fin_range] at ho3
        obtain ⟨a3, c3, hv3⟩ := (ho3.row (hs := [])).len
        subst hv3
        refine OT.pures hT 5 rfl (.nil (.seq (.seq (.region (.load rfl rfl (Ld.one hT rfl hz rfl) rfl ?_)))))
        refine OT.call Tryz.call23 rfl rfl rfl rfl (Fun.pull pl (vk_Clean hS3)) ?_
        rintro v_132 hs_132 ⟨HS8, g8, rfl, rfl, hS8, hg8⟩
        rw [hfin, fin_none]
        refine OT.pures hT 5 rfl (.nil (.seq (.seq (.region (.pures hT 3 rfl (.pures hT 2 rfl (.call Tryz.call24 rfl rfl rfl rfl (ref23_Eq (Row.mono ho3.row fun b o hb => Has.sel sl hb) (Row.mono hoK.row fun b o hb => Has.sel sl hb) (Nat.le_trans (want_len _ _ _) (Nat.le_trans hS.small.2.1 (by decide))) (want_fl hS.good.fl)) ?_)))))))
        rintro v_140 hs_140 ⟨rfl, rfl⟩
        refine OT.pures hT 2 rfl (.pures hT 4 rfl (.pures hT 4 rfl (.nil (.seq (.ret (.of (rs := [.tmp 10]) [_] hs rfl (.tmp rfl .nil) sl ?_))))))
        try dsimp only [one]
        exact ⟨rfl, rfl⟩

end Go.Proofs.YtihpkgmfkbkffaaGreat.Sx
end
