/- Several texts in one. slices.Sort of whole numbers, in the words of the small logic: the shelf's contract is turned. Side pages: what Copies and Take compute, the program's and the document's. Printed by a program of ours off the loaded program and our notes; Lean checks it. A snapshot's copies. Printed by a program of ours off the loaded program and our notes; Lean checks it. All snapshots have what they need. Printed by a program of ours off the loaded program and our notes; Lean checks it. The change that is told. Printed by a program of ours off the loaded program and our notes; Lean checks it. Expand: what must be changed with some pages. Printed by a program of ours off the loaded program and our notes; Lean checks it. A change laid; a snapshot more. Printed by a program of ours off the loaded program and our notes; Lean checks it. CowFree, CowOnce: the laws of one snapshot, walked. Printed by a program of ours off the loaded program and our notes; Lean checks it. Revert: what must be changed so that pages are what a snapshot has. Printed by a program of ours off the loaded program and our notes; Lean checks it. begun: one snapshot, one change. Printed by a program of ours off the loaded program and our notes; Lean checks it. -/
import Derived.Test.YtnhkgchcdbideaaMA
import Derived.Test.YtnhkgchcdbideaaShelf
import Derived.Sort.Grow
import Derived.Test.YtnhkgchcdbideaaMC
import Derived.Test.YtnhkgchcdbideaaME
import Derived.Test.YtnhkgchcdbideaaMF
import Derived.Test.YtnhkgchcdbideaaMB
import Derived.Test.YtnhkgchcdbideaaMG
import Derived.Test.YtnhkgchcdbideaaMD

section
namespace Go.Sx
open Go Go.Sort
variable [Outer]

omit [Outer] in
theorem putCells_row (pre sp : List Value) (xs ys : List Int) (h : ys.length = xs.length) :
    putCells (Value.int .i64) pre.length ys.toArray ⟨pre ++ xs.map (Value.int .i64) ++ sp⟩ = ⟨pre ++ ys.map (Value.int .i64) ++ sp⟩ := by
  apply Array.ext_getElem?
  intro k
  unfold putCells
  rw [Array.getElem?_mapIdx]
  rw [List.getElem?_toArray, List.getElem?_toArray]
  rw [List.append_assoc, List.append_assoc]
  by_cases h1 : k < pre.length
  · rw [List.getElem?_append_left h1, List.getElem?_append_left h1]
    cases pre[k]? with
    | none => rfl
    | some v => rw [Option.map_some, if_neg (by omega)]
  · have key : ∀ zs : List Int, (pre ++ (zs.map (Value.int .i64) ++ sp))[k]? = if k < pre.length + zs.length then (zs[k - pre.length]?).map (Value.int .i64) else sp[k - pre.length - zs.length]? := by
      intro zs
      rw [List.getElem?_append_right (by omega)]
      by_cases h2 : k < pre.length + zs.length
      · rw [if_pos h2, List.getElem?_append_left (by rw [List.length_map]; omega), List.getElem?_map]
      · rw [if_neg h2, List.getElem?_append_right (by rw [List.length_map]; omega), List.length_map]
    rw [key xs, key ys, h]
    by_cases h2 : k < pre.length + xs.length
    · rw [if_pos h2, if_pos h2, List.getElem?_eq_getElem (by omega : k - pre.length < xs.length), List.getElem?_eq_getElem (by omega : k - pre.length < ys.length)]
      rw [Option.map_some, Option.map_some, Option.map_some, if_pos ⟨by omega, by rw [List.size_toArray]; omega⟩]
      rw [getElem!_pos ys.toArray (k - pre.length) (by rw [List.size_toArray]; omega)]
      rfl
    · rw [if_neg h2, if_neg h2]
      cases sp[k - pre.length - xs.length]? with
      | none => rfl
      | some v => rw [Option.map_some, if_neg (by rw [List.size_toArray]; omega)]

theorem Mem.putRow {w w' : World} {b : Nat} {pre sp : List Value} {xs ys : List Int} {e : Nat} {fr : Nat × Nat} {r : List Chunk} {n : Nat} {os : Array Obj}
    (hm : Mem ([(b, blk (pre ++ xs.map (Value.int .i64) ++ sp) e fr)] :: r) w) (hl : ys.length = xs.length)
    (hw : w' = grow (Go.Sort.putRow (Value.int .i64) (Go.Sort.ahead w n) b pre.length ys.toArray) os) : Mem ([(b, blk (pre ++ ys.map (Value.int .i64) ++ sp) e fr)] :: r) w' := by
  have hb := hm.heap (b := b) Has.one
  have hn := hm.nodup
  simp only [List.flatten_cons, List.singleton_append, List.map_cons, List.nodup_cons] at hn
  have hsz : (Go.Sort.putRow (Value.int .i64) (Go.Sort.ahead w n) b pre.length ys.toArray).heap.size = w.heap.size := by
    unfold Go.Sort.putRow mapBlock Go.Sort.ahead
    simp
  refine ⟨?_, ?_, by rw [hw]; exact hm.outer⟩
  · simp only [List.flatten_cons, List.singleton_append, List.map_cons, List.nodup_cons]
    exact hn
  · intro c oc hc
    simp only [List.flatten_cons, List.singleton_append, List.mem_cons, Prod.mk.injEq] at hc
    have hold : w.heap[c]? ≠ none → w'.heap[c]? = (if b = c then w.heap[c]?.map (onCells (putCells (Value.int .i64) pre.length ys.toArray)) else w.heap[c]?) := by
      intro h
      have hlt : c < w.heap.size := by
        rw [Ne, Array.getElem?_eq_none_iff] at h; omega
      rw [hw, heap_grow_old _ _ (by rw [hsz]; exact hlt)]
      unfold Go.Sort.putRow mapBlock Go.Sort.ahead
      exact Array.getElem?_modify ..
    rcases hc with ⟨rfl, rfl⟩ | hc
    · rw [hold (by rw [hb]; intro h; cases h), if_pos rfl, hb, Option.map_some]
      unfold onCells blk
      simp only [putCells_row pre sp xs ys hl]
    · have hne : b ≠ c := by
        intro e
        subst e
        exact hn.1 (List.mem_map.2 ⟨(b, oc), hc, rfl⟩)
      have ho := hm.has c oc (by simp [hc])
      rw [hold (by rw [ho]; intro h; cases h), if_neg hne, ho]

theorem Mem.holds {w : World} {b : Nat} {pre sp : List Value} {xs : List Int} {e : Nat} {fr : Nat × Nat} {r : List Chunk}
    (hm : Mem ([(b, blk (pre ++ xs.map (Value.int .i64) ++ sp) e fr)] :: r) w) (ht : thawed (pre ++ xs.map (Value.int .i64) ++ sp) fr) : Holds (Value.int .i64) w b pre.length xs.toArray := by
  intro j hj
  rw [List.size_toArray] at hj
  have hb := hm.heap (b := b) Has.one
  constructor
  · rw [hm.cell (b := b) Has.one (pre.length + j)]
    rw [List.append_assoc, List.getElem?_append_right (by omega), List.getElem?_append_left (by rw [List.length_map]; omega), List.getElem?_map]
    rw [show pre.length + j - pre.length = j by omega, List.getElem?_eq_getElem hj, Option.map_some, getElem!_pos xs.toArray j (by rw [List.size_toArray]; omega)]
    rfl
  · simp only [World.frozen?, hb]
    rcases ht with ht | ht
    · simp; omega
    · simp only [List.length_append, List.length_map] at ht
      simp; omega

theorem sorted_of {P : Program} {f : Nat} {v : Value} {xs : List Int} {H : Chunk} {r : List Chunk} {e : Nat} (ho : Own encI 1 e v xs H) (hl : xs.length ≤ 1073741824)
    (h0 : ∀ (p : Option Addr) (cap : Nat) (w : World), Calls P f #[.slice p 0 cap] w fun e w' => e = .returned (.tuple #[]) ∧ w' = w)
    (h1 : ∀ (b off cap : Nat) (zs : List Int) (w : World), Holds (Value.int .i64) w b off zs.toArray → b < w.heap.size → zs.length < 4611686018427387904 →
      Calls P f #[.slice (some ⟨b, off, none⟩) zs.length cap] w fun e w' => e = .returned (.tuple #[]) ∧ ∃ n os, w' = grow (Go.Sort.putRow (Value.int .i64) (Go.Sort.ahead w n) b off (zs.mergeSort fun x y => decide (x ≤ y)).toArray) os) :
    Fun P f [v] (H :: r) fun v' hs' => v' = .tuple #[] ∧ ∃ H', hs' = H' :: r ∧ Own encI 1 e v (xs.mergeSort fun x y => decide (x ≤ y)) H' := by
  obtain ⟨h1x, ⟨rfl, rfl, rfl⟩ | ⟨b, cap, pre, sp, fr, rfl, rfl, hc, hs, ht⟩⟩ := ho
  · intro w hm
    refine (h0 none 0 w).mono ?_
    rintro e' w' ⟨rfl, rfl⟩
    exact ⟨_, _, rfl, ⟨rfl, [], rfl, by simp; exact Own.nil⟩, hm⟩
  · intro w hm
    have em : ∀ l : List Int, l.flatMap encI = l.map (Value.int .i64) := by
      intro l
      induction l with
      | nil => rfl
      | cons x l ih => simpa using ih
    rw [em] at hm ht
    have hb := hm.heap (b := b) Has.one
    have hlen : (xs.mergeSort fun x y => decide (x ≤ y)).length = xs.length := List.length_mergeSort _
    refine (h1 b pre.length cap xs w (hm.holds ht) (Array.getElem?_eq_some_iff.1 hb).1 (by omega)).mono ?_
    rintro e' w' ⟨rfl, n, os, hw⟩
    refine ⟨_, _, rfl, ⟨rfl, _, rfl, ?_⟩, hm.putRow hlen hw⟩
    refine ⟨fun _ _ => rfl, .inr ⟨b, cap, pre, sp, fr, by rw [hlen], by rw [em], by rw [hlen]; exact hc, by rw [hlen]; exact hs, ?_⟩⟩
    rw [em]
    unfold thawed at ht ⊢
    simp only [List.length_append, List.length_map] at ht ⊢
    rw [hlen]
    exact ht
end Go.Sx
end

section
namespace Go.Proofs.Ytnhkgchcdbideaa.Sx
open Go Go.Sx Go.Pl
variable [Outer]

theorem sl_Sort {v : Value} {xs : List Int} {H : Chunk} {r : List Chunk} (ho : Own Go.Sx.encI 1 3 v xs H) (hl : xs.length ≤ 1073741824) :
    Fun Try.prog 54 [v] (H :: r) (fun v' hs' => v' = .tuple #[] ∧ ∃ H', hs' = H' :: r ∧ Own Go.Sx.encI 1 3 v (xs.mergeSort fun x y => decide (x ≤ y)) H') :=
  sorted_of ho hl Try.slices_Sort_int_none (fun b off cap zs w h1 h2 h3 => Try.slices_Sort_int b off cap zs w h1 h2 h3)

set_option maxHeartbeats 1000000 in
set_option maxRecDepth 100000 in
theorem cat_Copies {next : Int} {v : Value} {xs : List Snap} {hs : List Chunk} (hr : Row encSnap 35 hs v xs) (hl : xs.length ≤ 64) : Fun Try.prog 25 [.agg ⟨[.int .i64 next, v]⟩] hs (fun v' hs' => ∃ H', hs' = H' :: hs ∧ Own Go.Sx.encI 1 3 v' (copiesP xs) H') := by
  refine Fun.enter 31 Try.func25 rfl Try.ntmps25 rfl ?_
  obtain ⟨a0, c0, hv⟩ := hr.len
  subst hv
  refine TT.seq ?_
  refine TT.region ?_
  refine OT.box rfl rfl rfl (fun b_1 => ?_)
  refine OT.pures hT 1 rfl ?_
  refine OT.nil ?_
  refine KT.seq ?_
  refine TT.seq ?_
  refine TT.region ?_
  refine OT.pures hT 1 rfl ?_
  refine OT.nil ?_
  refine KT.seq ?_
  refine TT.seq ?_
  refine TT.seq ?_
  refine TT.region ?_
  refine OT.pures hT 1 rfl ?_
  refine OT.load rfl rfl (Ld.slc hT rfl (by repeat (first | exact Has.one | apply Has.there)) rfl) rfl ?_
  refine OT.pures hT 2 rfl ?_
  refine OT.nil ?_
  refine KT.seq ?_
  refine TT.block ?_
  refine TT.chunk0 ?_
  refine TT.loop (ι := Nat × Value × Chunk) (fun j => (j.1) ≤ xs.length ∧ Own Go.Sx.encI 1 3 (j.2.1) (gather (xs.take (j.1))) (j.2.2)) (fun j => xs.length - (j.1)) (fun j => [(1, .pointer (some ⟨b_1, 0, none⟩)), (3, (j.2.1)), (9, .slice a0 xs.length c0), (10, .int .i64 xs.length), (11, .int .i64 ((j.1) : Nat))]) (fun j => [(b_1, blk [.int .i64 next, .slice a0 xs.length c0] 31 (0, 0))] :: (j.2.2) :: hs) (0, .slice none 0 0, []) ?_ (SubR.cons rfl (SubR.cons rfl (SubR.cons rfl (SubR.cons rfl (SubR.cons rfl (SubR.nil _)))))) (by repeat (first | exact Sel.refl _ | refine Sel.empty ?_ | refine Sel.pull (by repeat (first | exact Pull.head | apply Pull.tail)) ?_ | refine Sel.drop ?_)) ?_
  · dsimp only
    exact ⟨by omega, Own.nil⟩
  rintro ⟨i, w, K⟩ hI
  dsimp only at hI
  obtain ⟨hi, hO⟩ := hI
  show TT _ _ _ [(1, .pointer (some ⟨b_1, 0, none⟩)), (3, w), (9, .slice a0 xs.length c0), (10, .int .i64 xs.length), (11, .int .i64 (i : Nat))] ([(b_1, blk [.int .i64 next, .slice a0 xs.length c0] 31 (0, 0))] :: K :: hs)
  have hg := gather_length (xs := xs.take i) (fun s hs => hr.1 s (List.mem_of_mem_take hs))
  have hti := List.length_take_le' i xs
  refine TT.seq ?_
  refine TT.region ?_
  refine OT.pures hT 1 rfl ?_
  refine OT.nil ?_
  refine KT.seq ?_
  refine TT.seq ?_
  refine TT.cond rfl (fun c12 => ?_) (fun c12 => ?_)
  ·
    have c12 := of_decide_eq_true c12
    obtain ⟨s, hy⟩ := nth (l := xs) (i := i) (by omega)
    have h35 := hr.1 s (List.mem_of_getElem? hy)
    have h32 := map32 h35
    refine TT.skip ?_
    refine KT.seq ?_
    refine TT.seq ?_
    refine TT.block ?_
    refine TT.seq ?_
    refine TT.region ?_
    refine OT.index hT rfl rfl rfl rfl hr.there.there (by omega) hy rfl (fun ad_13 hel_13 => ?_)
    refine OT.load rfl rfl (hel_13.ld_struct hT rfl) rfl ?_
    refine OT.alloc Try.zeroValue45 rfl rfl (fun b_5 => ?_)
    refine OT.store_all hT rfl rfl rfl rfl (by repeat (first | exact Pull.head | apply Pull.tail)) (by exact h35) rfl (ones_snap s) (.inl (Nat.le_refl _)) ?_
    refine OT.nil ?_
    refine KT.seq ?_
    refine TT.seq ?_
    refine TT.region ?_
    refine OT.pures hT 1 rfl ?_
    refine OT.load rfl rfl (Ld.arr hT rfl Has.one (snap_map h35) (by simp [h32])) rfl ?_
    refine OT.pures hT 1 rfl ?_
    refine OT.nil ?_
    refine KT.seq ?_
    refine TT.block ?_
    refine TT.loop (ι := Nat × Value × Chunk) (fun j => (j.1) ≤ 32 ∧ Own Go.Sx.encI 1 3 (j.2.1) (gather (xs.take i) ++ not0 (s.map.take (j.1))) (j.2.2)) (fun j => 32 - (j.1)) (fun j => [(1, .pointer (some ⟨b_1, 0, none⟩)), (3, (j.2.1)), (5, .pointer (some ⟨b_5, 0, none⟩)), (9, .slice a0 xs.length c0), (10, .int .i64 xs.length), (11, .int .i64 (i : Nat)), (16, .agg ⟨s.map.map (Value.int .i64)⟩), (17, .int .i64 ((j.1) : Nat))]) (fun j => [(b_5, blk (encSnap s) 45 (0, 0))] :: [(b_1, blk [.int .i64 next, .slice a0 xs.length c0] 31 (0, 0))] :: (j.2.2) :: hs) (0, w, K) ?_ (SubR.cons rfl (SubR.cons rfl (SubR.cons rfl (SubR.cons rfl (SubR.cons rfl (SubR.cons rfl (SubR.cons rfl (SubR.cons rfl (SubR.nil _))))))))) (by repeat (first | exact Sel.refl _ | refine Sel.empty ?_ | refine Sel.pull (by repeat (first | exact Pull.head | apply Pull.tail)) ?_ | refine Sel.drop ?_)) ?_
    · dsimp only
      exact ⟨by omega, by unfold not0; simpa using hO⟩
    rintro ⟨no, w2, K2⟩ hI
    dsimp only at hI
    obtain ⟨hno, hO2⟩ := hI
    show TT _ _ _ [(1, .pointer (some ⟨b_1, 0, none⟩)), (3, w2), (5, .pointer (some ⟨b_5, 0, none⟩)), (9, .slice a0 xs.length c0), (10, .int .i64 xs.length), (11, .int .i64 (i : Nat)), (16, .agg ⟨s.map.map (Value.int .i64)⟩), (17, .int .i64 (no : Nat))] ([(b_5, blk (encSnap s) 45 (0, 0))] :: [(b_1, blk [.int .i64 next, .slice a0 xs.length c0] 31 (0, 0))] :: K2 :: hs)
    have hn0 := not0_length (s.map.take no)
    have hn1 := List.length_take_le no s.map
    refine TT.seq ?_
    refine TT.region ?_
    refine OT.pures hT 1 rfl ?_
    refine OT.nil ?_
    refine KT.seq ?_
    refine TT.seq ?_
    refine TT.cond rfl (fun c18 => ?_) (fun c18 => ?_)
    ·
      have c18 := of_decide_eq_true c18
      obtain ⟨at_, hat⟩ := nth (l := s.map) (i := no) (by omega)
      refine TT.skip ?_
      refine KT.seq ?_
      refine TT.seq ?_
      refine TT.block ?_
      refine TT.seq ?_
      refine TT.region ?_
      refine OT.index_arr hT rfl rfl rfl rfl rfl (by omega) (by simp [h32]) (by rw [Int.toNat_natCast, List.getElem?_map, hat]; rfl) rfl ?_
      refine OT.pures hT 1 rfl ?_
      refine OT.nil ?_
      refine KT.seq ?_
      refine TT.seq ?_
      refine TT.region ?_
      refine OT.pures hT 2 rfl ?_
      refine OT.nil ?_
      refine KT.seq ?_
      refine TT.cond rfl (fun c21 => ?_) (fun c21 => ?_)
      ·
        have c21 : ¬ at_ = 0 := by simpa using c21
        refine TT.region ?_
        refine OT.pures hT 2 rfl ?_
        refine OT.buildSlice (enc := Go.Sx.encI) (xs := [at_]) (xos := [.tmp 23]) el59 rfl rfl rfl rfl rfl (by simp [Value.cells]) (fun _ _ => rfl) rfl (by decide) rfl (fun v_24 H_24 ho_24 => ?_)
        refine OT.append hT el59 rfl rfl rfl rfl (by repeat (first | exact Pull.head | apply Pull.tail)) hO2 ho_24.row rfl (by simp only [List.length_append, List.length_cons, List.length_nil]; omega) rfl (fun v_25 H_25 ho_25 => ?_)
        refine OT.pures hT 1 rfl ?_
        refine OT.nil ?_
        refine KT.blk ?_
        refine KT.seq ?_
        refine TT.region ?_
        refine OT.pures hT 2 rfl ?_
        refine OT.nil ?_
        refine KT.loop (no + 1, v_25, H_25) ?_ ?_ (SubR.cons rfl (SubR.cons rfl (SubR.cons rfl (SubR.cons rfl (SubR.cons rfl (SubR.cons rfl (SubR.cons rfl (SubR.cons' rfl (by (try dsimp only); exact (int_eq (by rw [wrap_i64 (by omega) (by omega)]; omega))) (SubR.nil _))))))))) (by repeat (first | exact Sel.refl _ | refine Sel.empty ?_ | refine Sel.pull (by repeat (first | exact Pull.head | apply Pull.tail)) ?_ | refine Sel.drop ?_))
        · dsimp only
          refine ⟨by omega, ?_⟩
          unfold not0
          rw [filter_take_succ _ hat, if_pos (by simpa using c21), ← List.append_assoc]
          exact ho_25
        · dsimp only
          omega
      ·
        have c21 : at_ = 0 := by simpa using c21
        refine TT.skip ?_
        refine KT.blk ?_
        refine KT.seq ?_
        refine TT.region ?_
        refine OT.pures hT 2 rfl ?_
        refine OT.nil ?_
        refine KT.loop (no + 1, w2, K2) ?_ ?_ (SubR.cons rfl (SubR.cons rfl (SubR.cons rfl (SubR.cons rfl (SubR.cons rfl (SubR.cons rfl (SubR.cons rfl (SubR.cons' rfl (by (try dsimp only); exact (int_eq (by rw [wrap_i64 (by omega) (by omega)]; omega))) (SubR.nil _))))))))) (by repeat (first | exact Sel.refl _ | refine Sel.empty ?_ | refine Sel.pull (by repeat (first | exact Pull.head | apply Pull.tail)) ?_ | refine Sel.drop ?_))
        · dsimp only
          refine ⟨by omega, ?_⟩
          unfold not0
          rw [filter_take_succ _ hat, if_neg (by simpa using c21), List.append_nil]
          exact hO2
        · dsimp only
          omega
    ·
      have c18 := of_decide_eq_false c18
      refine TT.exit ?_
      refine XT.seq ?_
      refine XT.loop ?_
      refine XT.here ?_
      refine KT.blk ?_
      refine KT.seq ?_
      refine TT.region ?_
      refine OT.pures hT 2 rfl ?_
      refine OT.nil ?_
      refine KT.loop (i + 1, w2, K2) ?_ ?_ (SubR.cons rfl (SubR.cons rfl (SubR.cons rfl (SubR.cons rfl (SubR.cons' rfl (by (try dsimp only); exact (int_eq (by rw [wrap_i64 (by omega) (by omega)]; omega))) (SubR.nil _)))))) (by repeat (first | exact Sel.refl _ | refine Sel.empty ?_ | refine Sel.pull (by repeat (first | exact Pull.head | apply Pull.tail)) ?_ | refine Sel.drop ?_))
      · dsimp only
        refine ⟨by omega, ?_⟩
        unfold gather
        rw [flatMap_take_succ _ _ hy]
        rw [List.take_of_length_le (l := s.map) (by omega)] at hO2
        exact hO2
      · dsimp only
        omega
  ·
    have c12 := of_decide_eq_false c12
    rw [List.take_of_length_le (by omega)] at hO hg
    refine TT.exit ?_
    refine XT.seq ?_
    refine XT.loop ?_
    refine XT.here ?_
    refine KT.seq ?_
    refine TT.seq ?_
    refine TT.region ?_
    refine OT.pures hT 1 rfl ?_
    refine OT.call Try.call54 rfl rfl rfl rfl (Fun.pull (by repeat (first | exact Pull.head | apply Pull.tail)) (sl_Sort hO (by omega))) ?_
    rintro v_29 hs_29 ⟨rfl, H29, rfl, ho29⟩
    refine OT.nil ?_
    refine KT.seq ?_
    refine TT.seq ?_
    refine TT.region ?_
    refine OT.pures hT 2 rfl ?_
    refine OT.nil ?_
    refine KT.seq ?_
    refine TT.ret ?_
    refine RT.of (rs := [.tmp 2]) [_] (H29 :: hs) rfl (.tmp rfl .nil) (by repeat (first | exact Sel.refl _ | refine Sel.empty ?_ | refine Sel.pull (by repeat (first | exact Pull.head | apply Pull.tail)) ?_ | refine Sel.drop ?_)) ?_
    dsimp only [one]
    exact ⟨_, rfl, ho29⟩

set_option maxHeartbeats 1000000 in
set_option maxRecDepth 100000 in
theorem cat_Take {next : Int} {v : Value} {xs : List Snap} {hs : List Chunk} (hr : Row encSnap 35 hs v xs) (hl : xs.length ≤ 64) : Fun Try.prog 80 [.agg ⟨[.int .i64 next, v]⟩] hs (fun v' hs' => v' = .tuple ⟨[.int .i64 (takeP xs).1, .bool (takeP xs).2]⟩ ∧ hs = hs') := by
  refine Fun.enter 17 Try.func80 rfl Try.ntmps80 rfl ?_
  obtain ⟨a0, c0, hv⟩ := hr.len
  subst hv
  refine TT.seq ?_
  refine TT.region ?_
  refine OT.box rfl rfl rfl (fun b_1 => ?_)
  refine OT.pures hT 2 rfl ?_
  refine OT.nil ?_
  refine KT.seq ?_
  refine TT.seq ?_
  refine TT.region ?_
  refine OT.load rfl rfl (Ld.struct_all hT rfl (by repeat (first | exact Has.one | apply Has.there)) rfl) rfl ?_
  refine OT.call Try.call25 rfl rfl rfl rfl (cat_Copies hr.there hl) ?_
  rintro v_7 hs_7 ⟨H7, rfl, ho7⟩
  have hcl : (copiesP xs).length ≤ 1073741824 := by
    unfold copiesP
    rw [List.length_mergeSort]
    have := gather_length hr.1
    omega
  refine OT.pures hT 1 rfl ?_
  refine OT.nil ?_
  refine KT.seq ?_
  refine TT.seq ?_
  refine TT.seq ?_
  refine TT.region ?_
  refine OT.pures hT 1 rfl ?_
  refine OT.nil ?_
  refine KT.seq ?_
  refine TT.block ?_
  refine TT.loop (ι := Nat) (fun j => (j) ≤ 64 ∧ freeAt (64 - (j)) ((32 + (j) : Nat) : Int) (copiesP xs) = takeP xs) (fun j => 64 - (j)) (fun j => [(1, .pointer (some ⟨b_1, 0, none⟩)), (4, v_7), (5, .int .i64 ((32 + (j) : Nat) : Int))]) (fun j => H7 :: [(b_1, blk [.int .i64 next, .slice a0 xs.length c0] 31 (0, 0))] :: hs) (0) ?_ (SubR.cons rfl (SubR.cons rfl (SubR.cons rfl (SubR.nil _)))) (by repeat (first | exact Sel.refl _ | refine Sel.empty ?_ | refine Sel.pull (by repeat (first | exact Pull.head | apply Pull.tail)) ?_ | refine Sel.drop ?_)) ?_
  · exact ⟨by omega, rfl⟩
  rintro k ⟨hk, hp⟩
  show TT _ _ _ [(1, .pointer (some ⟨b_1, 0, none⟩)), (4, v_7), (5, .int .i64 ((32 + k : Nat) : Int))] (H7 :: [(b_1, blk [.int .i64 next, .slice a0 xs.length c0] 31 (0, 0))] :: hs)
  refine TT.seq ?_
  refine TT.seq ?_
  refine TT.region ?_
  refine OT.pures hT 2 rfl ?_
  refine OT.nil ?_
  refine KT.seq ?_
  refine TT.cond rfl (fun c9 => ?_) (fun c9 => ?_)
  ·
    have c9 := of_decide_eq_true c9
    rw [show 64 - k = (63 - k) + 1 by omega, freeAt] at hp
    refine TT.skip ?_
    refine KT.seq ?_
    refine TT.seq ?_
    refine TT.block ?_
    refine TT.seq ?_
    refine TT.region ?_
    refine OT.pures hT 2 rfl ?_
    refine OT.call Try.call65 rfl rfl rfl rfl (sl_Contains ho7.row hcl) ?_
    rintro v_14 hs_14 ⟨rfl, rfl⟩
    refine OT.pures hT 1 rfl ?_
    refine OT.nil ?_
    refine KT.seq ?_
    refine TT.cond rfl (fun c15 => ?_) (fun c15 => ?_)
    ·
      have c15 : ((32 + k : Nat) : Int) ∉ copiesP xs := fun h => by rw [decide_eq_true h] at c15; cases c15
      rw [if_neg c15] at hp
      refine TT.seq ?_
      refine TT.region ?_
      refine OT.pures hT 3 rfl ?_
      refine OT.nil ?_
      refine KT.seq ?_
      refine TT.ret ?_
      refine RT.of (rs := [.tmp 2, .tmp 3]) [_, _] hs rfl (.tmp rfl (.tmp rfl .nil)) (by repeat (first | exact Sel.refl _ | refine Sel.empty ?_ | refine Sel.pull (by repeat (first | exact Pull.head | apply Pull.tail)) ?_ | refine Sel.drop ?_)) ?_
      dsimp only [one]
      rw [← hp]
      exact ⟨rfl, rfl⟩
    ·
      have c15 : ((32 + k : Nat) : Int) ∈ copiesP xs := Decidable.byContradiction fun h => by rw [decide_eq_false h] at c15; cases c15
      rw [if_pos c15] at hp
      refine TT.skip ?_
      refine KT.blk ?_
      refine KT.seq ?_
      refine TT.region ?_
      refine OT.pures hT 3 rfl ?_
      refine OT.nil ?_
      refine KT.loop (k + 1) ?_ ?_ (SubR.cons rfl (SubR.cons rfl (SubR.cons' rfl (by (try dsimp only); exact (int_eq (by rw [wrap_i64 (by omega) (by omega)]; omega))) (SubR.nil _)))) (by repeat (first | exact Sel.refl _ | refine Sel.empty ?_ | refine Sel.pull (by repeat (first | exact Pull.head | apply Pull.tail)) ?_ | refine Sel.drop ?_))
      · refine ⟨by omega, ?_⟩
        rw [show 64 - (k + 1) = 63 - k by omega, show ((32 + (k + 1) : Nat) : Int) = ((32 + k : Nat) : Int) + 1 by omega]
        exact hp
      · omega
  ·
    have c9 := of_decide_eq_false c9
    rw [show 64 - k = 0 by omega, freeAt] at hp
    refine TT.exit ?_
    refine XT.seq ?_
    refine XT.loop ?_
    refine XT.here ?_
    refine KT.seq ?_
    refine TT.seq ?_
    refine TT.region ?_
    refine OT.pures hT 2 rfl ?_
    refine OT.nil ?_
    refine KT.seq ?_
    refine TT.ret ?_
    refine RT.of (rs := [.tmp 2, .tmp 3]) [_, _] hs rfl (.tmp rfl (.tmp rfl .nil)) (by repeat (first | exact Sel.refl _ | refine Sel.empty ?_ | refine Sel.pull (by repeat (first | exact Pull.head | apply Pull.tail)) ?_ | refine Sel.drop ?_)) ?_
    dsimp only [one]
    rw [← hp]
    exact ⟨rfl, rfl⟩

set_option maxHeartbeats 4000000 in
set_option maxRecDepth 100000 in
theorem ref_Copies {next : Int} {v : Value} {xs : List Snap} {hs : List Chunk} (hr : Row encSnap 35 hs v xs) (hl : xs.length ≤ 64) : Fun Try.prog 92 [.agg ⟨[.int .i64 next, v]⟩] hs (fun v' hs' => ∃ H', hs' = H' :: hs ∧ Own Go.Sx.encI 1 3 v' (copiesR xs) H') := by
  refine Fun.enter 37 Try.func92 rfl Try.ntmps92 rfl ?_
  obtain ⟨a0, c0, hv⟩ := hr.len
  subst hv
  refine TT.seq ?_
  refine TT.region ?_
  refine OT.box rfl rfl rfl (fun b_1 => ?_)
  refine OT.pures hT 1 rfl ?_
  refine OT.nil ?_
  refine KT.seq ?_
  refine TT.seq ?_
  refine TT.region ?_
  refine OT.pures hT 1 rfl ?_
  refine OT.nil ?_
  refine KT.seq ?_
  refine TT.seq ?_
  refine TT.seq ?_
  refine TT.region ?_
  refine OT.pures hT 1 rfl ?_
  refine OT.nil ?_
  refine KT.seq ?_
  refine TT.block ?_
  refine TT.chunk0 ?_
  refine TT.loop (ι := Nat × Value × Chunk) (fun j => (j.1) ≤ 255 ∧ Own Go.Sx.encI 1 3 (j.2.1) (copiesTo (j.1) xs) (j.2.2)) (fun j => 255 - (j.1)) (fun j => [(1, .pointer (some ⟨b_1, 0, none⟩)), (3, (j.2.1)), (4, .int .i64 (((j.1) : Int) + 1))]) (fun j => [(b_1, blk [.int .i64 next, .slice a0 xs.length c0] 74 (0, 0))] :: (j.2.2) :: hs) (0, .slice none 0 0, []) ?_ (SubR.cons rfl (SubR.cons rfl (SubR.cons rfl (SubR.nil _)))) (by repeat (first | exact Sel.refl _ | refine Sel.empty ?_ | refine Sel.pull (by repeat (first | exact Pull.head | apply Pull.tail)) ?_ | refine Sel.drop ?_)) ?_
  · dsimp only
    exact ⟨by omega, Own.nil⟩
  rintro ⟨k, w, K⟩ hI
  dsimp only at hI
  obtain ⟨hk, hO⟩ := hI
  show TT _ _ _ [(1, .pointer (some ⟨b_1, 0, none⟩)), (3, w), (4, .int .i64 ((k : Int) + 1))] ([(b_1, blk [.int .i64 next, .slice a0 xs.length c0] 74 (0, 0))] :: K :: hs)
  have hcl : (copiesTo k xs).length ≤ 255 * (64 * 32) := Nat.le_trans (copiesTo_length hr.1) (Nat.mul_le_mul hk (Nat.mul_le_mul hl (Nat.le_refl _)))
  refine TT.seq ?_
  refine TT.seq ?_
  refine TT.region ?_
  refine OT.pures hT 2 rfl ?_
  refine OT.nil ?_
  refine KT.seq ?_
  refine TT.cond rfl (fun c8 => ?_) (fun c8 => ?_)
  ·
    have c8 := of_decide_eq_true c8
    refine TT.skip ?_
    refine KT.seq ?_
    refine TT.seq ?_
    refine TT.block ?_
    refine TT.seq ?_
    refine TT.region ?_
    refine OT.pures hT 1 rfl ?_
    refine OT.nil ?_
    refine KT.seq ?_
    refine TT.block ?_
    refine TT.loop (ι := Nat × Value × Chunk) (fun j => (j.1) ≤ xs.length ∧ Own Go.Sx.encI 1 3 (j.2.1) (copiesTo k xs ++ sameIn ((k : Int) + 1) (xs.take (j.1))) (j.2.2)) (fun j => xs.length - (j.1)) (fun j => [(1, .pointer (some ⟨b_1, 0, none⟩)), (3, (j.2.1)), (4, .int .i64 ((k : Int) + 1)), (5, .int .i64 ((j.1) : Nat))]) (fun j => [(b_1, blk [.int .i64 next, .slice a0 xs.length c0] 74 (0, 0))] :: (j.2.2) :: hs) (0, w, K) ?_ (SubR.cons rfl (SubR.cons rfl (SubR.cons rfl (SubR.cons rfl (SubR.nil _))))) (by repeat (first | exact Sel.refl _ | refine Sel.empty ?_ | refine Sel.pull (by repeat (first | exact Pull.head | apply Pull.tail)) ?_ | refine Sel.drop ?_)) ?_
    · dsimp only
      exact ⟨by omega, by unfold sameIn; simpa using hO⟩
    rintro ⟨i, w2, K2⟩ hI
    dsimp only at hI
    obtain ⟨hi, hO2⟩ := hI
    show TT _ _ _ [(1, .pointer (some ⟨b_1, 0, none⟩)), (3, w2), (4, .int .i64 ((k : Int) + 1)), (5, .int .i64 (i : Nat))] ([(b_1, blk [.int .i64 next, .slice a0 xs.length c0] 74 (0, 0))] :: K2 :: hs)
    have hsl := sameIn_length (n := (k : Int) + 1) (xs := xs.take i) (fun s hs => hr.1 s (List.mem_of_mem_take hs))
    have hti := List.length_take_le' i xs
    refine TT.seq ?_
    refine TT.seq ?_
    refine TT.region ?_
    refine OT.pures hT 2 rfl ?_
    refine OT.load rfl rfl (Ld.slc hT rfl (by repeat (first | exact Has.one | apply Has.there)) rfl) rfl ?_
    refine OT.pures hT 2 rfl ?_
    refine OT.nil ?_
    refine KT.seq ?_
    refine TT.cond rfl (fun c15 => ?_) (fun c15 => ?_)
    ·
      have c15 := of_decide_eq_true c15
      obtain ⟨s, hy⟩ := nth (l := xs) (i := i) (by omega)
      have h35 := hr.1 s (List.mem_of_getElem? hy)
      have h32 := map32 h35
      refine TT.skip ?_
      refine KT.seq ?_
      refine TT.seq ?_
      refine TT.block ?_
      refine TT.seq ?_
      refine TT.region ?_
      refine OT.pures hT 1 rfl ?_
      refine OT.nil ?_
      refine KT.seq ?_
      refine TT.block ?_
      refine TT.loop (ι := Nat × Value × Chunk) (fun j => (j.1) ≤ 32 ∧ Own Go.Sx.encI 1 3 (j.2.1) (copiesTo k xs ++ sameIn ((k : Int) + 1) (xs.take i) ++ same ((k : Int) + 1) (s.map.take (j.1))) (j.2.2)) (fun j => 32 - (j.1)) (fun j => [(1, .pointer (some ⟨b_1, 0, none⟩)), (3, (j.2.1)), (4, .int .i64 ((k : Int) + 1)), (5, .int .i64 (i : Nat)), (6, .int .i64 ((j.1) : Nat))]) (fun j => [(b_1, blk [.int .i64 next, .slice a0 xs.length c0] 74 (0, 0))] :: (j.2.2) :: hs) (0, w2, K2) ?_ (SubR.cons rfl (SubR.cons rfl (SubR.cons rfl (SubR.cons rfl (SubR.cons rfl (SubR.nil _)))))) (by repeat (first | exact Sel.refl _ | refine Sel.empty ?_ | refine Sel.pull (by repeat (first | exact Pull.head | apply Pull.tail)) ?_ | refine Sel.drop ?_)) ?_
      · dsimp only
        exact ⟨by omega, by unfold same; simpa using hO2⟩
      rintro ⟨no, w3, K3⟩ hI
      dsimp only at hI
      obtain ⟨hno, hO3⟩ := hI
      show TT _ _ _ [(1, .pointer (some ⟨b_1, 0, none⟩)), (3, w3), (4, .int .i64 ((k : Int) + 1)), (5, .int .i64 (i : Nat)), (6, .int .i64 (no : Nat))] ([(b_1, blk [.int .i64 next, .slice a0 xs.length c0] 74 (0, 0))] :: K3 :: hs)
      have hn0 := same_length ((k : Int) + 1) (s.map.take no)
      have hn1 := List.length_take_le no s.map
      refine TT.seq ?_
      refine TT.seq ?_
      refine TT.region ?_
      refine OT.pures hT 2 rfl ?_
      refine OT.nil ?_
      refine KT.seq ?_
      refine TT.cond rfl (fun c19 => ?_) (fun c19 => ?_)
      ·
        have c19 := of_decide_eq_true c19
        obtain ⟨x, hn⟩ := nth (l := s.map) (i := no) (by omega)
        refine TT.skip ?_
        refine KT.seq ?_
        refine TT.seq ?_
        refine TT.block ?_
        refine TT.seq ?_
        refine TT.region ?_
        refine OT.pures hT 1 rfl ?_
        refine OT.load rfl rfl (Ld.slc hT rfl (by repeat (first | exact Has.one | apply Has.there)) rfl) rfl ?_
        refine OT.pures hT 2 rfl ?_
        refine OT.index hT rfl rfl rfl rfl hr.there.there (by omega) hy rfl (fun ad_26 hel_26 => ?_)
        obtain ⟨eb_26, eo_26, rfl, hfld_26⟩ := hel_26.at (P := Try.prog)
        refine OT.pures hT 1 rfl ?_
        refine OT.index_at hT rfl rfl rfl rfl (by omega) (by omega) rfl ?_
        refine OT.load rfl rfl (by rw [Nat.add_assoc]; exact hfld_26 hT rfl (snap_at hn)) rfl ?_
        refine OT.pures hT 2 rfl ?_
        refine OT.nil ?_
        refine KT.seq ?_
        refine TT.cond rfl (fun c31 => ?_) (fun c31 => ?_)
        ·
          have c31 : x = (k : Int) + 1 := by simpa using c31
          refine TT.region ?_
          refine OT.pures hT 2 rfl ?_
          refine OT.buildSlice (enc := Go.Sx.encI) (xs := [(k : Int) + 1]) (xos := [.tmp 33]) el59 rfl rfl rfl rfl rfl (by simp [Value.cells]) (fun _ _ => rfl) rfl (by decide) rfl (fun v_34 H_34 ho_34 => ?_)
          refine OT.append hT el59 rfl rfl rfl rfl (by repeat (first | exact Pull.head | apply Pull.tail)) hO3 ho_34.row rfl (by simp only [List.length_append, List.length_cons, List.length_nil]; omega) rfl (fun v_35 H_35 ho_35 => ?_)
          refine OT.pures hT 1 rfl ?_
          refine OT.nil ?_
          refine KT.blk ?_
          refine KT.seq ?_
          refine TT.region ?_
          refine OT.pures hT 3 rfl ?_
          refine OT.nil ?_
          refine KT.loop (no + 1, v_35, H_35) ?_ ?_ (SubR.cons rfl (SubR.cons rfl (SubR.cons rfl (SubR.cons rfl (SubR.cons' rfl (by (try dsimp only); exact (int_eq (by rw [wrap_i64 (by omega) (by omega)]; omega))) (SubR.nil _)))))) (by repeat (first | exact Sel.refl _ | refine Sel.empty ?_ | refine Sel.pull (by repeat (first | exact Pull.head | apply Pull.tail)) ?_ | refine Sel.drop ?_))
          · dsimp only
            refine ⟨by omega, ?_⟩
            unfold same
            rw [filter_take_succ _ hn, if_pos (by simpa using c31), ← List.append_assoc, c31]
            exact ho_35
          · dsimp only
            omega
        ·
          have c31 : ¬ x = (k : Int) + 1 := by simpa using c31
          refine TT.skip ?_
          refine KT.blk ?_
          refine KT.seq ?_
          refine TT.region ?_
          refine OT.pures hT 3 rfl ?_
          refine OT.nil ?_
          refine KT.loop (no + 1, w3, K3) ?_ ?_ (SubR.cons rfl (SubR.cons rfl (SubR.cons rfl (SubR.cons rfl (SubR.cons' rfl (by (try dsimp only); exact (int_eq (by rw [wrap_i64 (by omega) (by omega)]; omega))) (SubR.nil _)))))) (by repeat (first | exact Sel.refl _ | refine Sel.empty ?_ | refine Sel.pull (by repeat (first | exact Pull.head | apply Pull.tail)) ?_ | refine Sel.drop ?_))
          · dsimp only
            refine ⟨by omega, ?_⟩
            unfold same
            rw [filter_take_succ _ hn, if_neg (by simpa using c31), List.append_nil]
            exact hO3
          · dsimp only
            omega
      ·
        have c19 := of_decide_eq_false c19
        refine TT.exit ?_
        refine XT.seq ?_
        refine XT.loop ?_
        refine XT.here ?_
        refine KT.blk ?_
        refine KT.seq ?_
        refine TT.region ?_
        refine OT.pures hT 3 rfl ?_
        refine OT.nil ?_
        refine KT.loop (i + 1, w3, K3) ?_ ?_ (SubR.cons rfl (SubR.cons rfl (SubR.cons rfl (SubR.cons' rfl (by (try dsimp only); exact (int_eq (by rw [wrap_i64 (by omega) (by omega)]; omega))) (SubR.nil _))))) (by repeat (first | exact Sel.refl _ | refine Sel.empty ?_ | refine Sel.pull (by repeat (first | exact Pull.head | apply Pull.tail)) ?_ | refine Sel.drop ?_))
        · dsimp only
          refine ⟨by omega, ?_⟩
          unfold sameIn
          rw [flatMap_take_succ _ _ hy, ← List.append_assoc]
          rw [List.take_of_length_le (l := s.map) (by omega)] at hO3
          exact hO3
        · dsimp only
          omega
    ·
      have c15 := of_decide_eq_false c15
      refine TT.exit ?_
      refine XT.seq ?_
      refine XT.loop ?_
      refine XT.here ?_
      refine KT.blk ?_
      refine KT.seq ?_
      refine TT.region ?_
      refine OT.pures hT 3 rfl ?_
      refine OT.nil ?_
      refine KT.loop (k + 1, w2, K2) ?_ ?_ (SubR.cons rfl (SubR.cons rfl (SubR.cons' rfl (by (try dsimp only); exact (int_eq (by rw [wrap_i64 (by omega) (by omega)]; omega))) (SubR.nil _)))) (by repeat (first | exact Sel.refl _ | refine Sel.empty ?_ | refine Sel.pull (by repeat (first | exact Pull.head | apply Pull.tail)) ?_ | refine Sel.drop ?_))
      · dsimp only
        refine ⟨by omega, ?_⟩
        rw [copiesTo_succ]
        rw [List.take_of_length_le (by omega)] at hO2
        exact hO2
      · dsimp only
        omega
  ·
    have c8 := of_decide_eq_false c8
    obtain rfl : k = 255 := by omega
    refine TT.exit ?_
    refine XT.seq ?_
    refine XT.loop ?_
    refine XT.here ?_
    refine KT.seq ?_
    refine TT.seq ?_
    refine TT.region ?_
    refine OT.pures hT 2 rfl ?_
    refine OT.nil ?_
    refine KT.seq ?_
    refine TT.ret ?_
    refine RT.of (rs := [.tmp 2]) [_] (K :: hs) rfl (.tmp rfl .nil) (by repeat (first | exact Sel.refl _ | refine Sel.empty ?_ | refine Sel.pull (by repeat (first | exact Pull.head | apply Pull.tail)) ?_ | refine Sel.drop ?_)) ?_
    dsimp only [one]
    exact ⟨_, rfl, hO⟩

set_option maxHeartbeats 4000000 in
set_option maxRecDepth 100000 in
theorem ref_Take {next : Int} {v : Value} {xs : List Snap} {hs : List Chunk} (hr : Row encSnap 35 hs v xs) (hl : xs.length ≤ 64) : Fun Try.prog 77 [.agg ⟨[.int .i64 next, v]⟩] hs (fun v' hs' => v' = .tuple ⟨[.int .i64 (takeR xs).1, .bool (takeR xs).2]⟩ ∧ hs = hs') := by
  refine Fun.enter 31 Try.func77 rfl Try.ntmps77 rfl ?_
  obtain ⟨a0, c0, hv⟩ := hr.len
  subst hv
  refine TT.seq ?_
  refine TT.region ?_
  refine OT.box rfl rfl rfl (fun b_1 => ?_)
  refine OT.pures hT 2 rfl ?_
  refine OT.nil ?_
  refine KT.seq ?_
  refine TT.seq ?_
  refine TT.region ?_
  refine OT.load rfl rfl (Ld.struct_all hT rfl (by repeat (first | exact Has.one | apply Has.there)) rfl) rfl ?_
  refine OT.call Try.call92 rfl rfl rfl rfl (ref_Copies hr.there hl) ?_
  rintro v_9 hs_9 ⟨H9, rfl, ho9⟩
  obtain ⟨a9, c9, hv9⟩ := (ho9.row (hs := hs)).len
  subst hv9
  have hcl : (copiesR xs).length ≤ 255 * (64 * 32) := Nat.le_trans (copiesTo_length hr.1) (Nat.mul_le_mul (Nat.le_refl _) (Nat.mul_le_mul hl (Nat.le_refl _)))
  refine OT.pures hT 1 rfl ?_
  refine OT.nil ?_
  refine KT.seq ?_
  refine TT.seq ?_
  refine TT.seq ?_
  refine TT.region ?_
  refine OT.pures hT 1 rfl ?_
  refine OT.nil ?_
  refine KT.seq ?_
  refine TT.block ?_
  refine TT.loop (ι := Nat) (fun j => (j) ≤ 64 ∧ freeAt (64 - (j)) ((32 + (j) : Nat) : Int) (copiesR xs) = takeR xs) (fun j => 64 - (j)) (fun j => [(1, .pointer (some ⟨b_1, 0, none⟩)), (4, .slice a9 (copiesR xs).length c9), (5, .int .i64 ((32 + (j) : Nat) : Int))]) (fun j => H9 :: [(b_1, blk [.int .i64 next, .slice a0 xs.length c0] 74 (0, 0))] :: hs) (0) ?_ (SubR.cons rfl (SubR.cons rfl (SubR.cons rfl (SubR.nil _)))) (by repeat (first | exact Sel.refl _ | refine Sel.empty ?_ | refine Sel.pull (by repeat (first | exact Pull.head | apply Pull.tail)) ?_ | refine Sel.drop ?_)) ?_
  · exact ⟨by omega, rfl⟩
  rintro k ⟨hk, hp⟩
  show TT _ _ _ [(1, .pointer (some ⟨b_1, 0, none⟩)), (4, .slice a9 (copiesR xs).length c9), (5, .int .i64 ((32 + k : Nat) : Int))] (H9 :: [(b_1, blk [.int .i64 next, .slice a0 xs.length c0] 74 (0, 0))] :: hs)
  refine TT.seq ?_
  refine TT.seq ?_
  refine TT.region ?_
  refine OT.pures hT 2 rfl ?_
  refine OT.nil ?_
  refine KT.seq ?_
  refine TT.cond rfl (fun c11 => ?_) (fun c11 => ?_)
  ·
    have c11 := of_decide_eq_true c11
    rw [show 64 - k = (63 - k) + 1 by omega, freeAt] at hp
    refine TT.skip ?_
    refine KT.seq ?_
    refine TT.seq ?_
    refine TT.block ?_
    refine TT.seq ?_
    refine TT.region ?_
    refine OT.pures hT 1 rfl ?_
    refine OT.nil ?_
    refine KT.seq ?_
    refine TT.seq ?_
    refine TT.seq ?_
    refine TT.region ?_
    refine OT.pures hT 1 rfl ?_
    refine OT.nil ?_
    refine KT.seq ?_
    refine TT.block ?_
    refine TT.loop (ι := Nat × Bool) (fun j => (j.1) ≤ (copiesR xs).length ∧ ((j.2) = true ↔ ((32 + k : Nat) : Int) ∉ (copiesR xs).take (j.1))) (fun j => (copiesR xs).length - (j.1)) (fun j => [(1, .pointer (some ⟨b_1, 0, none⟩)), (4, .slice a9 (copiesR xs).length c9), (5, .int .i64 ((32 + k : Nat) : Int)), (6, .bool (j.2)), (7, .int .i64 ((j.1) : Nat))]) (fun j => H9 :: [(b_1, blk [.int .i64 next, .slice a0 xs.length c0] 74 (0, 0))] :: hs) (0, true) ?_ (SubR.cons rfl (SubR.cons rfl (SubR.cons rfl (SubR.cons rfl (SubR.cons rfl (SubR.nil _)))))) (by repeat (first | exact Sel.refl _ | refine Sel.empty ?_ | refine Sel.pull (by repeat (first | exact Pull.head | apply Pull.tail)) ?_ | refine Sel.drop ?_)) ?_
    · dsimp only
      exact ⟨by omega, by simp⟩
    rintro ⟨m, b⟩ hI
    dsimp only at hI
    obtain ⟨hm, hb⟩ := hI
    show TT _ _ _ [(1, .pointer (some ⟨b_1, 0, none⟩)), (4, .slice a9 (copiesR xs).length c9), (5, .int .i64 ((32 + k : Nat) : Int)), (6, .bool b), (7, .int .i64 (m : Nat))] (H9 :: [(b_1, blk [.int .i64 next, .slice a0 xs.length c0] 74 (0, 0))] :: hs)
    refine TT.seq ?_
    refine TT.seq ?_
    refine TT.region ?_
    refine OT.pures hT 4 rfl ?_
    refine OT.nil ?_
    refine KT.seq ?_
    refine TT.cond rfl (fun c17 => ?_) (fun c17 => ?_)
    ·
      have c17 := of_decide_eq_true c17
      obtain ⟨x, hx⟩ := nth (l := copiesR xs) (i := m) (by omega)
      refine TT.skip ?_
      refine KT.seq ?_
      refine TT.seq ?_
      refine TT.block ?_
      refine TT.region ?_
      refine OT.pures hT 2 rfl ?_
      refine OT.split 21 rfl (fun g21 => ?_) (fun g21 => ?_)
      ·
        refine OT.pures hT 2 rfl ?_
        refine OT.index hT rfl rfl rfl rfl ho9.row (by omega) hx rfl (fun ad_24 hel_24 => ?_)
        refine OT.load rfl rfl (hel_24.ld_one hT rfl rfl) rfl ?_
        refine OT.pures hT 4 rfl ?_
        refine OT.nil ?_
        refine KT.blk ?_
        refine KT.seq ?_
        refine TT.region ?_
        refine OT.pures hT 3 rfl ?_
        refine OT.nil ?_
        refine KT.loop (m + 1, _) ?_ ?_ (SubR.cons rfl (SubR.cons rfl (SubR.cons rfl (SubR.cons rfl (SubR.cons' rfl (by (try dsimp only); exact (int_eq (by rw [wrap_i64 (by omega) (by omega)]; omega))) (SubR.nil _)))))) (by repeat (first | exact Sel.refl _ | refine Sel.empty ?_ | refine Sel.pull (by repeat (first | exact Pull.head | apply Pull.tail)) ?_ | refine Sel.drop ?_))
        · dsimp only
          refine ⟨by omega, ?_⟩
          rw [take_succ hx, List.mem_append, not_or, ← hb, g21, List.mem_singleton]
          refine ⟨fun h => ⟨rfl, fun e => (bne_iff_ne (a := x) (b := ((32 + k : Nat) : Int))).1 h e.symm⟩, fun h => (bne_iff_ne (a := x) (b := ((32 + k : Nat) : Int))).2 fun e => h.2 e.symm⟩
        · dsimp only
          omega
      ·
        refine OT.pures hT 8 rfl ?_
        refine OT.nil ?_
        refine KT.blk ?_
        refine KT.seq ?_
        refine TT.region ?_
        refine OT.pures hT 3 rfl ?_
        refine OT.nil ?_
        refine KT.loop (m + 1, false) ?_ ?_ (SubR.cons rfl (SubR.cons rfl (SubR.cons rfl (SubR.cons rfl (SubR.cons' rfl (by (try dsimp only); exact (int_eq (by rw [wrap_i64 (by omega) (by omega)]; omega))) (SubR.nil _)))))) (by repeat (first | exact Sel.refl _ | refine Sel.empty ?_ | refine Sel.pull (by repeat (first | exact Pull.head | apply Pull.tail)) ?_ | refine Sel.drop ?_))
        · dsimp only
          refine ⟨by omega, ?_⟩
          rw [take_succ hx, List.mem_append, not_or, ← hb, g21]
          simp only [Bool.false_eq_true, false_and]
        · dsimp only
          omega
    ·
      have c17 := of_decide_eq_false c17
      rw [List.take_of_length_le (by omega)] at hb
      refine TT.exit ?_
      refine XT.seq ?_
      refine XT.loop ?_
      refine XT.here ?_
      refine KT.seq ?_
      refine TT.seq ?_
      refine TT.region ?_
      refine OT.pures hT 1 rfl ?_
      refine OT.nil ?_
      refine KT.seq ?_
      refine TT.cond rfl (fun c29 => ?_) (fun c29 => ?_)
      ·
        rw [if_neg (hb.1 c29)] at hp
        refine TT.seq ?_
        refine TT.region ?_
        refine OT.pures hT 3 rfl ?_
        refine OT.nil ?_
        refine KT.seq ?_
        refine TT.ret ?_
        refine RT.of (rs := [.tmp 2, .tmp 3]) [_, _] hs rfl (.tmp rfl (.tmp rfl .nil)) (by repeat (first | exact Sel.refl _ | refine Sel.empty ?_ | refine Sel.pull (by repeat (first | exact Pull.head | apply Pull.tail)) ?_ | refine Sel.drop ?_)) ?_
        dsimp only [one]
        rw [← hp]
        exact ⟨rfl, rfl⟩
      ·
        rw [if_pos (Decidable.byContradiction fun h => by rw [hb.2 h] at c29; cases c29)] at hp
        refine TT.skip ?_
        refine KT.blk ?_
        refine KT.seq ?_
        refine TT.region ?_
        refine OT.pures hT 3 rfl ?_
        refine OT.nil ?_
        refine KT.loop (k + 1) ?_ ?_ (SubR.cons rfl (SubR.cons rfl (SubR.cons' rfl (by (try dsimp only); exact (int_eq (by rw [wrap_i64 (by omega) (by omega)]; omega))) (SubR.nil _)))) (by repeat (first | exact Sel.refl _ | refine Sel.empty ?_ | refine Sel.pull (by repeat (first | exact Pull.head | apply Pull.tail)) ?_ | refine Sel.drop ?_))
        · refine ⟨by omega, ?_⟩
          rw [show 64 - (k + 1) = 63 - k by omega, show ((32 + (k + 1) : Nat) : Int) = ((32 + k : Nat) : Int) + 1 by omega]
          exact hp
        · omega
  ·
    have c11 := of_decide_eq_false c11
    rw [show 64 - k = 0 by omega, freeAt] at hp
    refine TT.exit ?_
    refine XT.seq ?_
    refine XT.loop ?_
    refine XT.here ?_
    refine KT.seq ?_
    refine TT.seq ?_
    refine TT.region ?_
    refine OT.pures hT 2 rfl ?_
    refine OT.nil ?_
    refine KT.seq ?_
    refine TT.ret ?_
    refine RT.of (rs := [.tmp 2, .tmp 3]) [_, _] hs rfl (.tmp rfl (.tmp rfl .nil)) (by repeat (first | exact Sel.refl _ | refine Sel.empty ?_ | refine Sel.pull (by repeat (first | exact Pull.head | apply Pull.tail)) ?_ | refine Sel.drop ?_)) ?_
    dsimp only [one]
    rw [← hp]
    exact ⟨rfl, rfl⟩

end Go.Proofs.Ytnhkgchcdbideaa.Sx
end

section
namespace Go.Proofs.Ytnhkgchcdbideaa.Sx
open Go Go.Sx Go.Pl
variable [Outer]

set_option maxHeartbeats 4000000 in
set_option maxRecDepth 100000 in
theorem cow_copies {bx : Nat} {nx : Int} {vs mv : Value} {ti : Nat} {ui : Value} {I : Chunk → Prop} {E : Int → Chunk → Prop} {Q : Pages} {H : Chunk} {r : List Chunk} (hP : Pgs Try.prog 5 (.iface ti ui) I E (pgOf Q)) (hI : I H) (hQ : ∀ no, mayPage no → (Q no).length = 256) {xs : List Snap} {HS : Chunk} (ho : Own encSnap 35 45 vs (xs) HS) (hl : xs.length ≤ 64) (hsd : ∀ s ∈ xs, s.side) {k : Nat} (hk : k < xs.length) {vn : Value} {nos : List Int} (hn : Row Go.Sx.encI 1 r vn nos) (hnl : nos.length ≤ 32) (hnr : ∀ no ∈ nos, 0 ≤ no ∧ no < 32) : FunP Try.prog 68 [.pointer (some ⟨bx, 0, none⟩), .int .i64 (k : Nat), vn] ([(bx, blk [.iface ti ui, .int .i64 nx, vs, mv] 100 (0, 0))] :: HS :: H :: r) (fun v' hs' => ∃ HS' H', hs' = [(bx, blk [.iface ti ui, .int .i64 nx, vs, mv] 100 (0, 0))] :: HS' :: H' :: r ∧ v' = .tuple ⟨[]⟩ ∧ Own encSnap 35 45 vs (copiesC Q xs k nos) HS' ∧ I H') (fun v' hs' => ∃ e H', v' = flt e ∧ e ≠ 0 ∧ E e H' ∧ hs' = H' :: r) := by
  refine FunP.enter 80 Try.func68 rfl Try.ntmps68 rfl ?_
  obtain ⟨an, cn, hvn⟩ := hn.len
  subst hvn
  obtain ⟨ib, io, ic, hvs⟩ : ∃ ib io ic, vs = .slice (some ⟨ib, io, none⟩) xs.length ic := by
    obtain ⟨b, o, cap, cs, fr, hv, _⟩ := ho.over (by omega)
    exact ⟨b, o, cap, hv⟩
  subst hvs
  obtain ⟨s, hs⟩ := nth (l := xs) (i := k) hk
  have h35 := (ho.enc_len) s (List.mem_of_getElem? hs)
  have hss := hsd s (List.mem_of_getElem? hs)
  have hC : copiesC Q xs k nos = takeAll xs k (nos.filter (needsB Q s)) := by unfold copiesC; rw [hs]
  refine TT.seq (.region (.pures hT 1 rfl (.nil (.seq (.seq (.seq (.region (.pures hT 3 rfl (.nil (.seq (.block (.chunk0 (.loop (ι := Nat × Value × Chunk × Chunk) (fun j => (j.1) ≤ nos.length ∧ Own Go.Sx.encI 1 3 (j.2.1) ((nos.take (j.1)).filter (needsB Q s)) (j.2.2.1) ∧ I (j.2.2.2)) (fun j => nos.length - (j.1)) (fun j => [(0, .pointer (some ⟨bx, 0, none⟩)), (1, .int .i64 (k : Nat)), (6, (j.2.1)), (13, .slice an nos.length cn), (14, .int .i64 nos.length), (15, .int .i64 ((j.1) : Nat))]) (fun j => (j.2.2.1) :: [(bx, blk [.iface ti ui, .int .i64 nx, (.slice (some ⟨ib, io, none⟩) xs.length ic), mv] 100 (0, 0))] :: HS :: (j.2.2.2) :: r) (0, .slice none 0 0, [], H) ?_ (SubR.cons rfl (SubR.cons rfl (SubR.cons rfl (SubR.cons rfl (SubR.cons rfl (SubR.cons rfl (SubR.nil _))))))) sl ?_)))))))))))))
  · dsimp only
    exact ⟨by omega, Own.nil, hI⟩
  rintro ⟨i, w, K, H1⟩ hI
  dsimp only at hI
  obtain ⟨hi, hw, hI1⟩ := hI
  show TT _ _ _ [(0, .pointer (some ⟨bx, 0, none⟩)), (1, .int .i64 (k : Nat)), (6, w), (13, .slice an nos.length cn), (14, .int .i64 nos.length), (15, .int .i64 (i : Nat))] (K :: [(bx, blk [.iface ti ui, .int .i64 nx, (.slice (some ⟨ib, io, none⟩) xs.length ic), mv] 100 (0, 0))] :: HS :: H1 :: r)
  have hfl : ((nos.take i).filter (needsB Q s)).length ≤ i := Nat.le_trans (List.length_filter_le _ _) (List.length_take_le _ _)
  refine TT.seq (.region (.pures hT 1 rfl (.nil (.seq (.seq (.cond rfl (fun c16 => ?_) (fun c16 => ?_)))))))
  ·
    have c16 := of_decide_eq_true c16
    obtain ⟨no, hno⟩ := nth (l := nos) (i := i) (by omega)
    obtain ⟨hn0, hn1⟩ := hnr no (List.mem_of_getElem? hno)
    obtain ⟨n, rfl⟩ : ∃ n : Nat, no = n := ⟨no.toNat, by omega⟩
    refine TT.skip (.seq (.seq (.block (.seq (.region (.index hT rfl rfl rfl rfl hn.there.there.there.there (by omega) hno rfl (fun ad_17 hel_17 => ?_)))))))
    refine OT.load rfl rfl (hel_17.ld_one hT rfl rfl) rfl (.pures hT 1 rfl (.nil (.seq (.seq (.region (.pures hT 5 rfl (.load rfl rfl (Ld.slc hT rfl hz rfl) rfl ?_)))))))
    refine OT.pures hT 1 rfl (.index hT rfl rfl rfl rfl (ho.row.there.there.mono (fun _ _ h => h)) (by omega) hs rfl (fun ad_26 hel_26 => ?_))
    refine OT.load rfl rfl (hel_26.ld_struct hT rfl) rfl (.pures hT 1 rfl ?_)
    refine OT.callP Try.call79 rfl rfl rfl rfl (FunP.weaken (sl (hs' := [(bx, blk [.iface ti ui, .int .i64 nx, (.slice (some ⟨ib, io, none⟩) xs.length ic), mv] 100 (0, 0))] :: H1 :: K :: HS :: r)) (cow_needs (r := K :: HS :: r) hP hI1 hQ h35 hss (n := n) (by omega))) (fun _ _ h => by
      obtain ⟨e, H', rfl, h1, h2, rfl⟩ := h
      exact PP.of ⟨e, H', rfl, h1, h2, rfl⟩ sl) ?_
    rintro v_29 hs_29 ⟨H2, rfl, rfl, hI2⟩
    refine OT.nil (.seq (.cond rfl (fun c29 => ?_) (fun c29 => ?_)))
    ·
      refine TT.region (.pures hT 2 rfl ?_)
      refine OT.buildSlice (enc := Go.Sx.encI) (xs := [(n : Int)]) (xos := [.tmp 31]) el59 rfl rfl rfl rfl rfl (by simp [Value.cells]) (fun _ _ => rfl) rfl (by decide) rfl (fun v_32 H_32 ho_32 => ?_)
      refine OT.append hT el59 rfl rfl rfl rfl pl hw ho_32.row rfl (by simp only [List.length_append, List.length_cons, List.length_nil]; omega) rfl (fun v_33 H_33 ho_33 => ?_)
      refine OT.pures hT 1 rfl (.nil (.blk (.seq (.region (.pures hT 2 rfl (.nil (.loop (i + 1, v_33, H_33, H2) ?_ ?_ (SubR.cons rfl (SubR.cons rfl (SubR.cons rfl (SubR.cons rfl (SubR.cons rfl (SubR.cons' rfl (by (try dsimp only); exact (int_eq (by rw [wrap_i64 (by omega) (by omega)]; omega))) (SubR.nil _))))))) sl)))))))
      · dsimp only
        refine ⟨by omega, ?_, hI2⟩
        rw [filter_take_succ _ hno, if_pos c29]
        exact ho_33
      · dsimp only
        omega
    ·
      refine TT.skip (.blk (.seq (.region (.pures hT 2 rfl (.nil (.loop (i + 1, w, K, H2) ?_ ?_ (SubR.cons rfl (SubR.cons rfl (SubR.cons rfl (SubR.cons rfl (SubR.cons rfl (SubR.cons' rfl (by (try dsimp only); exact (int_eq (by rw [wrap_i64 (by omega) (by omega)]; omega))) (SubR.nil _))))))) sl))))))
      · dsimp only
        refine ⟨by omega, ?_, hI2⟩
        rw [filter_take_succ _ hno, if_neg (by rw [c29]; simp), List.append_nil]
        exact hw
      · dsimp only
        omega
  ·
    have c16 := of_decide_eq_false c16
    rw [List.take_of_length_le (by omega)] at hw hfl
    obtain ⟨aw, cw, hw'⟩ := (hw.row (hs := [])).len
    subst hw'
    refine TT.exit (.seq (.loop (.here (.seq (.seq (.region (.pures hT 3 rfl (.nil (.seq (.block (.loop (ι := Nat × (List Snap) × Chunk) (fun j => (j.1) ≤ (nos.filter (needsB Q s)).length ∧ Own encSnap 35 45 (.slice (some ⟨ib, io, none⟩) xs.length ic) ((j.2.1)) (j.2.2) ∧ (j.2.1).length = xs.length ∧ takeAll (j.2.1) k ((nos.filter (needsB Q s)).drop (j.1)) = copiesC Q xs k nos) (fun j => (nos.filter (needsB Q s)).length - (j.1)) (fun j => [(0, .pointer (some ⟨bx, 0, none⟩)), (1, .int .i64 (k : Nat)), (35, .slice aw (nos.filter (needsB Q s)).length cw), (36, .int .i64 (nos.filter (needsB Q s)).length), (37, .int .i64 ((j.1) : Nat))]) (fun j => (j.2.2) :: [(bx, blk [.iface ti ui, .int .i64 nx, (.slice (some ⟨ib, io, none⟩) xs.length ic), mv] 100 (0, 0))] :: K :: H1 :: r) (0, xs, HS) ?_ (SubR.cons rfl (SubR.cons rfl (SubR.cons rfl (SubR.cons rfl (SubR.cons rfl (SubR.nil _)))))) sl ?_)))))))))))
    · dsimp only
      exact ⟨by omega, ho, rfl, by rw [hC]; rfl⟩
    rintro ⟨j, ys, HS1⟩ hI
    dsimp only at hI
    obtain ⟨hj, ho1, hyl, hp⟩ := hI
    show TT _ _ _ [(0, .pointer (some ⟨bx, 0, none⟩)), (1, .int .i64 (k : Nat)), (35, .slice aw (nos.filter (needsB Q s)).length cw), (36, .int .i64 (nos.filter (needsB Q s)).length), (37, .int .i64 (j : Nat))] (HS1 :: [(bx, blk [.iface ti ui, .int .i64 nx, (.slice (some ⟨ib, io, none⟩) xs.length ic), mv] 100 (0, 0))] :: K :: H1 :: r)
    refine TT.seq (.region (.pures hT 1 rfl (.nil (.seq (.seq (.cond rfl (fun c38 => ?_) (fun c38 => ?_)))))))
    ·
      have c38 := of_decide_eq_true c38
      obtain ⟨no, hno⟩ := nth (l := (nos.filter (needsB Q s))) (i := j) (by omega)
      obtain ⟨hn0, hn1⟩ := hnr no (List.mem_filter.1 (List.mem_of_getElem? hno)).1
      obtain ⟨n, rfl⟩ : ∃ n : Nat, no = n := ⟨no.toNat, by omega⟩
      obtain ⟨s1, hs1⟩ := nth (l := ys) (i := k) (by omega)
      have hm1 := map32 (ho1.enc_len s1 (List.mem_of_getElem? hs1))
      rw [drop_cons hno, takeAll] at hp
      obtain ⟨a, hav⟩ : ∃ a, (takeP ys).1 = a := ⟨_, rfl⟩
      refine TT.skip (.seq (.seq (.block (.seq (.region (.index hT rfl rfl rfl rfl hw.row.there.there (by omega) hno rfl (fun ad_39 hel_39 => ?_)))))))
      refine OT.load rfl rfl (hel_39.ld_one hT rfl rfl) rfl (.pures hT 1 rfl (.nil (.seq (.seq (.region (.pures hT 3 rfl (.load rfl rfl (Ld.struct hT rfl hz rfl rfl) rfl ?_)))))))
      refine OT.call Try.call80 rfl rfl rfl rfl (cat_Take ho1.row (by omega)) ?_
      rintro v_46 hs_46 ⟨rfl, rfl⟩
      refine OT.pures hT 5 rfl (.nil (.seq (.seq (.seq (.region (.pures hT 2 rfl (.nil (.seq (.cond rfl (fun c50 => ?_) (fun c50 => ?_))))))))))
      ·
        have c50 : (takeP ys).2 = false := by simpa using c50
        have htp : takeP ys = (a, false) := by rw [← hav, ← c50]
        rw [htp] at hp
        dsimp only at hp
        rw [modify_at hs1] at hp
        refine TT.seq (.draw (([(bx, blk [.iface ti ui, .int .i64 nx, (.slice (some ⟨ib, io, none⟩) xs.length ic), mv] 100 (0, 0))] :: H1 :: r)) mixed (.takes (fuel := 9) hT [0, 1, 2, 3, 5, 6, 7, 8, 9, 11] kr kr rfl (.take (fuel := 8) hT 4 rfl rfl kr kr kr rfl (.load rfl (Ld.slc hT rfl hz rfl)) rfl ?_)))
        refine AT.take (fuel := 7) hT 10 rfl rfl kr kr kr rfl (.load rfl (Ld.slc hT rfl hz rfl)) rfl ?_
        refine AT.takeR (fuel := 6) 12 rfl rfl kr kr kr rfl (fun a w _ _ => arr0_run hT rfl Try.zeroValue43 a.eval w) rfl (.op (fuel := 5) 13 kr rfl sl (.index_raw hT rfl rfl rfl rfl (by omega) (by omega) rfl (.nil (.any (.takes (fuel := 4) hT [14] kr kr rfl (.op (fuel := 3) 15 kr rfl sl (.store_el k 2 hT rfl rfl rfl rfl pl ho1 hs1 (by omega) rfl (by decide) rfl (enc_inv true) (fun H_y ho_y => ?_))))))))
        refine OT.nil (.any (.op (fuel := 2) 16 kr rfl sl (.index_raw hT rfl rfl rfl rfl (by omega) (by omega) rfl (.nil (.any (.takes (fuel := 1) hT [17] kr kr rfl (.op (fuel := 0) 18 kr rfl sl (.store_el k 3 hT rfl rfl rfl rfl pl ho_y (List.getElem?_set_self (by omega)) (by omega) rfl (by decide) rfl (by exact enc_lose (s := { s1 with inv := true }) hm1 (List.replicate 32 0) rfl) (fun H_z ho_z => ?_)))))))))
        refine OT.nil (.any (.done kr sl (.seq (.ret (.ofP (rs := []) [] ([(bx, blk [.iface ti ui, .int .i64 nx, (.slice (some ⟨ib, io, none⟩) xs.length ic), mv] 100 (0, 0))] :: H_z :: H1 :: r) rfl .nil sl ?_)))))
        try dsimp only [one]
        exact ⟨H_z, H1, rfl, rfl, by rw [← hp]; rw [List.set_set] at ho_z; exact ho_z, hI1⟩
      ·
        have c50 : (takeP ys).2 = true := by simpa using c50
        have htp : takeP ys = (a, true) := by rw [← hav, ← c50]
        rw [htp] at hp ⊢
        dsimp only at hp
        rw [modify_at hs1] at hp
        refine TT.skip (.seq (.region (.pures hT 4 rfl (.load rfl rfl (Ld.slc hT rfl hz rfl) rfl ?_))))
        refine OT.pures hT 3 rfl (.index_raw hT rfl rfl rfl rfl (by omega) (by omega) rfl (.pures hT 1 rfl (.index_at hT rfl rfl rfl rfl (by omega) (by omega) rfl (.store_el k (0 + 3 + ((n : Nat) : Int).toNat * 1) hT rfl rfl rfl rfl pl ho1 hs1 (by omega) rfl (by show 0 + 3 + ((n : Nat) : Int).toNat * 1 + 1 ≤ 35; omega) rfl (snap_set (s := s1) (by omega)) (fun H_x ho_x => ?_)))))
        refine OT.nil (.blk (.seq (.region (.pures hT 2 rfl (.nil (.loop (j + 1, ys.set k (give s1 (n : Int) a), H_x) ?_ ?_ (SubR.cons rfl (SubR.cons rfl (SubR.cons rfl (SubR.cons rfl (SubR.cons' rfl (by (try dsimp only); exact (int_eq (by rw [wrap_i64 (by omega) (by omega)]; omega))) (SubR.nil _)))))) sl))))))
        · dsimp only
          refine ⟨by omega, ho_x, by rw [List.length_set]; exact hyl, hp⟩
        · dsimp only
          omega
    ·
      have c38 := of_decide_eq_false c38
      rw [List.drop_eq_nil_of_le (by omega), takeAll] at hp
      refine TT.exit (.seq (.loop (.here (.ofP (rs := []) [] ([(bx, blk [.iface ti ui, .int .i64 nx, (.slice (some ⟨ib, io, none⟩) xs.length ic), mv] 100 (0, 0))] :: HS1 :: H1 :: r) rfl .nil sl ?_))))
      try dsimp only [one]
      exact ⟨HS1, H1, rfl, rfl, by rw [← hp]; exact ho1, hI1⟩

end Go.Proofs.Ytnhkgchcdbideaa.Sx
end

section
namespace Go.Proofs.Ytnhkgchcdbideaa.Sx
open Go Go.Sx Go.Pl
variable [Outer]

omit [Outer] in
theorem mapT : IntMap Try.prog 98 22 (.slice none 0 0) := ⟨⟨_, Try.underlying98, Try.underlying3⟩, Try.zeroValue22⟩

set_option maxHeartbeats 4000000 in
set_option maxRecDepth 100000 in
theorem cow_expand {bx mb : Nat} {nx but : Int} {vs : Value} {ti : Nat} {ui : Value} {I : Chunk → Prop} {E : Int → Chunk → Prop} {Q : Pages} {H : Chunk} {r : List Chunk} (hP : Pgs Try.prog 5 (.iface ti ui) I E (pgOf Q)) (hI : I H) (hQ : ∀ no, mayPage no → (Q no).length = 256) {n0 : Int} {was : List Snap} (hdec : decodeS (Q 0) = ((n0, was), 0)) (hwl : was.length ≤ 64) {xs : List Snap} {HS : Chunk} (ho : Own encSnap 35 45 (vs) (xs) HS) (hl : xs.length ≤ 64) (hsd : ∀ s ∈ xs, s.side) {m : Int → Option Value} {c : Chg} {HM G : Chunk} (hM : IsMap m mb HM) (hc : MapRow (G :: r) m c) (hnm : ∀ s ∈ (expandS Q but (nosOf c) xs), ∃ (i : Nat) (w : Snap), findAt (named s.name) 0 was = (i : Int) ∧ was[i]? = some w) (hmay : mayB nx (expandS Q but (nosOf c) xs) = true) : FunP Try.prog 44 [.pointer (some ⟨bx, 0, none⟩), .int .i64 but] ([(bx, blk [.iface ti ui, .int .i64 nx, (vs), (.map (some mb))] 100 (0, 0))] :: HS :: HM :: G :: H :: r) (fun v' hs' => ∃ vs' HS' m' HM' G' H', hs' = [(bx, blk [.iface ti ui, .int .i64 nx, (vs'), (.map (some mb))] 100 (0, 0))] :: HS' :: HM' :: G' :: H' :: r ∧ v' = .tuple ⟨[]⟩ ∧ IsMap m' mb HM' ∧ MapRow (G' :: r) m' (expandM Q nx was (expandS Q but (nosOf c) xs) c) ∧ I H') (fun v' hs' => ∃ e H', v' = flt e ∧ e ≠ 0 ∧ E e H' ∧ hs' = H' :: r) := by
  refine FunP.enter 148 Try.func44 rfl Try.ntmps44 rfl ?_
  obtain ⟨a0, c0, hvs⟩ := (ho.row (hs := [])).len
  subst hvs
  refine TT.seq (.region (.pures hT 1 rfl (.nil (.seq (.seq (.seq (.region (.pures hT 1 rfl (.nil (.seq (.block (.chunk0 (.loop (ι := Nat × Value × Chunk) (fun j => (j.1) ≤ 32 ∧ Own Go.Sx.encI 1 3 (j.2.1) (nosTo c (j.1)) (j.2.2)) (fun j => 32 - (j.1)) (fun j => [(0, .pointer (some ⟨bx, 0, none⟩)), (1, .int .i64 but), (4, (j.2.1)), (17, .int .i64 ((j.1) : Nat))]) (fun j => (j.2.2) :: [(bx, blk [.iface ti ui, .int .i64 nx, (.slice a0 xs.length c0), (.map (some mb))] 100 (0, 0))] :: HS :: HM :: G :: H :: r) (0, .slice none 0 0, []) ?_ (SubR.cons rfl (SubR.cons rfl (SubR.cons rfl (SubR.cons rfl (SubR.nil _))))) sl ?_)))))))))))))
  · dsimp only
    exact ⟨by omega, Own.nil⟩
  rintro ⟨i, w, K⟩ hI
  dsimp only at hI
  obtain ⟨hi, hw⟩ := hI
  show TT _ _ _ [(0, .pointer (some ⟨bx, 0, none⟩)), (1, .int .i64 but), (4, w), (17, .int .i64 (i : Nat))] (K :: [(bx, blk [.iface ti ui, .int .i64 nx, (.slice a0 xs.length c0), (.map (some mb))] 100 (0, 0))] :: HS :: HM :: G :: H :: r)
  have hfl := nosTo_len c i
  refine TT.seq (.region (.pures hT 1 rfl (.nil (.seq (.seq (.cond rfl (fun c18 => ?_) (fun c18 => ?_)))))))
  ·
    have c18 := of_decide_eq_true c18
    refine TT.skip (.seq (.seq (.block (.seq (.region (.pures hT 2 rfl (.nil (.seq (.seq (.region (.pures hT 3 rfl (.load rfl rfl (Ld.one hT rfl hz rfl) rfl ?_))))))))))))
    refine OT.pures hT 1 rfl (.lookup_ok mapT rfl rfl rfl pl hM rfl ?_)
    refine OT.pures hT 5 rfl (.nil (.seq (.seq (.region (.pures hT 1 rfl (.nil (.seq (.cond rfl (fun c29 => ?_) (fun c29 => ?_)))))))))
    ·
      refine TT.region (.pures hT 2 rfl ?_)
      refine OT.buildSlice (enc := Go.Sx.encI) (xs := [(i : Int)]) (xos := [.tmp 31]) el59 rfl rfl rfl rfl rfl (by simp [Value.cells]) (fun _ _ => rfl) rfl (by decide) rfl (fun v_32 H_32 ho_32 => ?_)
      refine OT.append hT el59 rfl rfl rfl rfl pl hw ho_32.row rfl (by simp only [List.length_append, List.length_cons, List.length_nil]; omega) rfl (fun v_33 H_33 ho_33 => ?_)
      refine OT.pures hT 1 rfl (.nil (.blk (.seq (.region (.pures hT 2 rfl (.nil (.loop (i + 1, v_33, H_33) ?_ ?_ (SubR.cons rfl (SubR.cons rfl (SubR.cons rfl (SubR.cons' rfl (by (try dsimp only); exact (int_eq (by rw [wrap_i64 (by omega) (by omega)]; omega))) (SubR.nil _))))) sl)))))))
      · dsimp only
        refine ⟨by omega, ?_⟩
        rw [nosTo_succ, if_pos (by rw [← hc.is]; exact c29)]
        exact ho_33
      · dsimp only
        omega
    ·
      refine TT.skip (.blk (.seq (.region (.pures hT 2 rfl (.nil (.loop (i + 1, w, K) ?_ ?_ (SubR.cons rfl (SubR.cons rfl (SubR.cons rfl (SubR.cons' rfl (by (try dsimp only); exact (int_eq (by rw [wrap_i64 (by omega) (by omega)]; omega))) (SubR.nil _))))) sl))))))
      · dsimp only
        refine ⟨by omega, ?_⟩
        rw [nosTo_succ, if_neg (by rw [← hc.is, c29]; simp), List.append_nil]
        exact hw
      · dsimp only
        omega
  ·
    have c18 := of_decide_eq_false c18
    obtain rfl : i = 32 := by omega
    obtain ⟨aw, cw, hw'⟩ := (hw.row (hs := [])).len
    subst hw'
    refine TT.exit (.seq (.loop (.here (.seq (.seq (.region (.pures hT 3 rfl (.load rfl rfl (Ld.one hT rfl hz rfl) rfl ?_))))))))
    refine OT.callP Try.call43 rfl rfl rfl rfl (FunP.pull pl (cow_read hP hI hdec (hQ 0 (by unfold mayPage; omega)))) (fun _ _ h => by
      obtain ⟨e, H', rfl, h1, h2, rfl⟩ := h
      exact PP.of ⟨e, H', rfl, h1, h2, rfl⟩ sl) ?_
    rintro v_39 hs_39 ⟨H1, w1, HW, rfl, rfl, hoW, hI1⟩
    obtain ⟨a8, c8, hw1⟩ := (hoW.row (hs := [])).len
    subst hw1
    refine OT.alloc Try.zeroValue31 rfl rfl (fun b_8 => ?_)
    refine OT.store_all hT rfl rfl rfl rfl pl rfl rfl rfl (.inl (Nat.le_refl _)) ?_
    refine OT.nil (.seq (.seq (.region (.pures hT 5 rfl (.load rfl rfl (Ld.slc hT rfl hz rfl) rfl ?_)))))
    refine OT.call Try.call35 rfl rfl rfl rfl (sl_Clone ro (by omega)) ?_
    rintro v_46 hs_46 ⟨HS0, rfl, ho0⟩
    obtain ⟨a46, c46, hv46⟩ := (ho0.row (hs := [])).len
    subst hv46
    refine OT.pures hT 3 rfl (.store hT rfl rfl rfl rfl pl rfl (Nat.le_of_ble_eq_true rfl) rfl (.inl (Nat.le_refl _)) rfl ?_)
    refine OT.nil (.seq (.seq (.seq (.region (.pures hT 4 rfl (.load rfl rfl (Ld.slc hT rfl hz rfl) rfl ?_))))))
    refine OT.pures hT 2 rfl (.nil (.seq (.block (.loop (ι := Nat × (List Snap) × Chunk × Chunk) (fun j => (j.1) ≤ xs.length ∧ Own encSnap 35 45 (.slice a46 xs.length c46) ((j.2.1)) (j.2.2.1) ∧ (j.2.1).length = xs.length ∧ (∀ s ∈ (j.2.1), s.side) ∧ (List.range (j.1)).foldl (stepS Q but (nosTo c 32)) xs = (j.2.1) ∧ I (j.2.2.2)) (fun j => xs.length - (j.1)) (fun j => [(0, .pointer (some ⟨bx, 0, none⟩)), (1, .int .i64 but), (4, .slice aw (nosTo c 32).length cw), (8, .pointer (some ⟨b_8, 0, none⟩)), (55, .int .i64 xs.length), (56, .int .i64 ((j.1) : Nat))]) (fun j => [(bx, blk [.iface ti ui, .int .i64 nx, (.slice a46 xs.length c46), (.map (some mb))] 100 (0, 0))] :: (j.2.2.1) :: (j.2.2.2) :: K :: [(b_8, blk [.int .i64 n0, .slice a8 was.length c8] 31 (0, 0))] :: HW :: HM :: G :: r) (0, xs, HS0, H1) ?_ (SubR.cons rfl (SubR.cons rfl (SubR.cons rfl (SubR.cons rfl (SubR.cons rfl (SubR.cons rfl (SubR.nil _))))))) sl ?_))))
    · dsimp only
      exact ⟨by omega, ho0, rfl, hsd, rfl, hI1⟩
    rintro ⟨k, ys, HS1, H2⟩ hI
    dsimp only at hI
    obtain ⟨hk, ho1, hyl, hys, hf, hI2⟩ := hI
    show TT _ _ _ [(0, .pointer (some ⟨bx, 0, none⟩)), (1, .int .i64 but), (4, .slice aw (nosTo c 32).length cw), (8, .pointer (some ⟨b_8, 0, none⟩)), (55, .int .i64 xs.length), (56, .int .i64 (k : Nat))] ([(bx, blk [.iface ti ui, .int .i64 nx, (.slice a46 xs.length c46), (.map (some mb))] 100 (0, 0))] :: HS1 :: H2 :: K :: [(b_8, blk [.int .i64 n0, .slice a8 was.length c8] 31 (0, 0))] :: HW :: HM :: G :: r)
    refine TT.seq (.region (.pures hT 1 rfl (.nil (.seq (.seq (.cond rfl (fun c57 => ?_) (fun c57 => ?_)))))))
    ·
      have c57 := of_decide_eq_true c57
      obtain ⟨s, hs⟩ := nth (l := ys) (i := k) (by omega)
      refine TT.skip (.seq (.seq (.block (.seq (.region (.pures hT 2 rfl (.nil (.seq (.seq (.region (.pures hT 4 rfl (.load rfl rfl (Ld.slc hT rfl hz rfl) rfl ?_))))))))))))
      refine OT.pures hT 1 rfl (.index hT rfl rfl rfl rfl ho1.row.there (by omega) hs rfl (fun ad_65 hel_65 => ?_))
      obtain ⟨eb_65, eo_65, rfl, hfld_65⟩ := hel_65.at (P := Try.prog)
      refine OT.pures hT 1 rfl (.load rfl rfl (hfld_65 hT rfl rfl) rfl (.pures hT 2 rfl (.nil (.seq (.cond rfl (fun c69 => ?_) (fun c69 => ?_))))))
      ·
        have c69 := bne_iff_ne.1 c69
        refine TT.region (.pures hT 3 rfl ?_)
        refine OT.callP Try.call68 rfl rfl rfl rfl (cow_copies (r := K :: [(b_8, blk [.int .i64 n0, .slice a8 was.length c8] 31 (0, 0))] :: HW :: HM :: G :: r) hP hI2 hQ ho1 (by omega) hys (k := k) (by omega) hw.row (nosTo_len c 32) nosOf_in) (fun _ _ h => by
          obtain ⟨e, H', rfl, h1, h2, rfl⟩ := h
          exact PP.of ⟨e, H', rfl, h1, h2, rfl⟩ sl) ?_
        rintro v_73 hs_73 ⟨HS2, H3, rfl, rfl, hoC, hI3⟩
        refine OT.nil (.blk (.seq (.region (.pures hT 2 rfl (.nil (.loop (k + 1, copiesC Q ys k (nosTo c 32), HS2, H3) ?_ ?_ (SubR.cons rfl (SubR.cons rfl (SubR.cons rfl (SubR.cons rfl (SubR.cons rfl (SubR.cons' rfl (by (try dsimp only); exact (int_eq (by rw [wrap_i64 (by omega) (by omega)]; omega))) (SubR.nil _))))))) sl))))))
        · dsimp only
          refine ⟨by omega, hoC, by rw [copiesC_length]; exact hyl, copiesC_side hys, ?_, hI3⟩
          rw [fold_succ, hf]
          unfold stepS
          rw [hs]
          dsimp only
          rw [if_neg c69]
        · dsimp only
          omega
      ·
        have c69 := bne_eq_false_iff_eq.1 c69
        refine TT.skip (.blk (.seq (.region (.pures hT 2 rfl (.nil (.loop (k + 1, ys, HS1, H2) ?_ ?_ (SubR.cons rfl (SubR.cons rfl (SubR.cons rfl (SubR.cons rfl (SubR.cons rfl (SubR.cons' rfl (by (try dsimp only); exact (int_eq (by rw [wrap_i64 (by omega) (by omega)]; omega))) (SubR.nil _))))))) sl))))))
        · dsimp only
          refine ⟨by omega, ho1, hyl, hys, ?_, hI2⟩
          rw [fold_succ, hf]
          unfold stepS
          rw [hs]
          dsimp only
          rw [if_pos c69]
        · dsimp only
          omega
    ·
      have c57 := of_decide_eq_false c57
      obtain rfl : k = xs.length := by omega
      have hye : ys = (expandS Q but (nosOf c) xs) := hf.symm
      subst hye
      refine TT.exit (.seq (.loop (.here (.seq (.seq (.seq (.region (.pures hT 4 rfl (.load rfl rfl (Ld.slc hT rfl hz rfl) rfl ?_)))))))))
      refine OT.pures hT 2 rfl (.nil (.seq (.block ?_)))
      have hoY := ho1
      have hYl := hyl
      generalize hY : (expandS Q but (nosOf c) xs) = YS at hoY hYl hnm hmay ⊢
      refine TT.loop (ι := Nat × Chg × (Int → Option Value) × Chunk × Chunk × Chunk) (fun j => (j.1) ≤ xs.length ∧ IsMap (j.2.2.1) mb (j.2.2.2.1) ∧ MapRow ((j.2.2.2.2.1) :: r) (j.2.2.1) (j.2.1) ∧ I (j.2.2.2.2.2) ∧ (j.2.1) = laySides Q c (sides was (YS.take (j.1)))) (fun j => xs.length - (j.1)) (fun j => [(0, .pointer (some ⟨bx, 0, none⟩)), (8, .pointer (some ⟨b_8, 0, none⟩)), (79, .slice a46 xs.length c46), (80, .int .i64 xs.length), (81, .int .i64 ((j.1) : Nat))]) (fun j => [(bx, blk [.iface ti ui, .int .i64 nx, (.slice a46 xs.length c46), (.map (some mb))] 100 (0, 0))] :: HS1 :: (j.2.2.2.2.2) :: [(b_8, blk [.int .i64 n0, .slice a8 was.length c8] 31 (0, 0))] :: HW :: (j.2.2.2.1) :: (j.2.2.2.2.1) :: r) (0, c, m, HM, G, H2) ?_ (SubR.cons rfl (SubR.cons rfl (SubR.cons rfl (SubR.cons rfl (SubR.cons rfl (SubR.nil _)))))) sl ?_
      · dsimp only
        exact ⟨by omega, hM, hc, hI2, rfl⟩
      rintro ⟨k, cc, m', HM1, G1, H3⟩ hI
      dsimp only at hI
      obtain ⟨hk, hM1, hc1, hI3, hcc⟩ := hI
      show TT _ _ _ [(0, .pointer (some ⟨bx, 0, none⟩)), (8, .pointer (some ⟨b_8, 0, none⟩)), (79, .slice a46 xs.length c46), (80, .int .i64 xs.length), (81, .int .i64 (k : Nat))] ([(bx, blk [.iface ti ui, .int .i64 nx, (.slice a46 xs.length c46), (.map (some mb))] 100 (0, 0))] :: HS1 :: H3 :: [(b_8, blk [.int .i64 n0, .slice a8 was.length c8] 31 (0, 0))] :: HW :: HM1 :: G1 :: r)
      refine TT.seq (.region (.pures hT 1 rfl (.nil (.seq (.seq (.cond rfl (fun c82 => ?_) (fun c82 => ?_)))))))
      ·
        have c82 := of_decide_eq_true c82
        obtain ⟨s, hs⟩ := nth (l := YS) (i := k) (by omega)
        obtain ⟨wi, w, hfi, hwi⟩ := hnm s (List.mem_of_getElem? hs)
        have h35 := hoY.enc_len s (List.mem_of_getElem? hs)
        have h32 := map32 h35
        have h35w := hoW.enc_len w (List.mem_of_getElem? hwi)
        have h32w := map32 h35w
        have hwo : wasOf was s = w := by unfold wasOf; rw [hfi, Int.toNat_natCast, List.getD_eq_getElem?_getD, hwi]; rfl
        refine TT.skip (.seq (.seq (.block (.seq (.region (.index hT rfl rfl rfl rfl hoY.row.there (by omega) hs rfl (fun ad_83 hel_83 => ?_)))))))
        refine OT.load rfl rfl (hel_83.ld_struct hT rfl) rfl (.alloc Try.zeroValue45 rfl rfl (fun b_11 => ?_))
        refine OT.store_all hT rfl rfl rfl rfl pl (by exact h35) rfl (ones_snap s) (.inl (Nat.le_refl _)) ?_
        refine OT.nil (.seq (.seq (.region (.load rfl rfl (Ld.struct_all hT rfl hz rfl) rfl ?_))))
        refine OT.pures hT 1 rfl (.load rfl rfl (Ld.one hT rfl hz rfl) rfl ?_)
        refine OT.call Try.call31 rfl rfl rfl rfl (cat_Find (next := n0) ro (by omega)) ?_
        rintro v_88 hs_88 ⟨rfl, rfl⟩
        refine OT.pures hT 1 rfl (.nil (.seq (.seq (.region (.pures hT 1 rfl (.load rfl rfl (Ld.arr hT rfl Has.one (snap_map h35) (by simp [h32])) rfl (.pures hT 1 rfl (.nil (.seq (.block (.loop (ι := Nat × Chg × (Int → Option Value) × Chunk × Chunk × Chunk) (fun j => (j.1) ≤ 32 ∧ IsMap (j.2.2.1) mb (j.2.2.2.1) ∧ MapRow ((j.2.2.2.2.1) :: r) (j.2.2.1) (j.2.1) ∧ I (j.2.2.2.2.2) ∧ (j.2.1) = laySides Q c (sides was (YS.take k) ++ sideOf (wasOf was s) s (j.1))) (fun j => 32 - (j.1)) (fun j => [(0, .pointer (some ⟨bx, 0, none⟩)), (8, .pointer (some ⟨b_8, 0, none⟩)), (12, .int .i64 (findAt (named s.name) 0 was)), (79, .slice a46 xs.length c46), (80, .int .i64 xs.length), (81, .int .i64 (k : Nat)), (90, .agg ⟨s.map.map (Value.int .i64)⟩), (91, .int .i64 ((j.1) : Nat))]) (fun j => [(bx, blk [.iface ti ui, .int .i64 nx, (.slice a46 xs.length c46), (.map (some mb))] 100 (0, 0))] :: HS1 :: (j.2.2.2.2.2) :: [(b_8, blk [.int .i64 n0, .slice a8 was.length c8] 31 (0, 0))] :: HW :: (j.2.2.2.1) :: (j.2.2.2.2.1) :: r) (0, cc, m', HM1, G1, H3) ?_ (SubR.cons rfl (SubR.cons rfl (SubR.cons rfl (SubR.cons rfl (SubR.cons rfl (SubR.cons rfl (SubR.cons rfl (SubR.cons rfl (SubR.nil _))))))))) sl ?_)))))))))))
        · dsimp only
          exact ⟨by omega, hM1, hc1, hI3, by rw [hcc]; unfold sideOf; simp⟩
        rintro ⟨n, cc2, m2, HM2, G2, H4⟩ hI
        dsimp only at hI
        obtain ⟨hn, hM2, hc2, hI4, hcc2⟩ := hI
        show TT _ _ _ [(0, .pointer (some ⟨bx, 0, none⟩)), (8, .pointer (some ⟨b_8, 0, none⟩)), (12, .int .i64 (findAt (named s.name) 0 was)), (79, .slice a46 xs.length c46), (80, .int .i64 xs.length), (81, .int .i64 (k : Nat)), (90, .agg ⟨s.map.map (Value.int .i64)⟩), (91, .int .i64 (n : Nat))] ([(bx, blk [.iface ti ui, .int .i64 nx, (.slice a46 xs.length c46), (.map (some mb))] 100 (0, 0))] :: HS1 :: H4 :: [(b_8, blk [.int .i64 n0, .slice a8 was.length c8] 31 (0, 0))] :: HW :: HM2 :: G2 :: r)
        refine TT.seq (.region (.pures hT 1 rfl (.nil (.seq (.seq (.cond rfl (fun c92 => ?_) (fun c92 => ?_)))))))
        ·
          have c92 := of_decide_eq_true c92
          obtain ⟨at_, hat⟩ := nth (l := s.map) (i := n) (by omega)
          obtain ⟨wat, hwat⟩ := nth (l := w.map) (i := n) (by omega)
          refine TT.skip (.seq (.seq (.block (.seq (.region (.pures hT 1 rfl (.index_arr hT rfl rfl rfl rfl rfl (by omega) (by simp [h32]) (by rw [Int.toNat_natCast, List.getElem?_map, hat]; rfl) rfl ?_)))))))
          refine OT.pures hT 2 rfl (.nil (.seq (.seq (.region (.pures hT 3 rfl (.split 97 rfl (fun g97 => ?_) (fun g97 => ?_)))))))
          ·
            have g97 := bne_iff_ne.1 g97
            refine OT.pures hT 1 rfl (.load rfl rfl (Ld.slc hT rfl hz rfl) rfl ?_)
            refine OT.pures hT 2 rfl (.index hT rfl rfl rfl rfl ro (by rw [hfi]; omega) (by rw [hfi, Int.toNat_natCast]; exact hwi) rfl (fun ad_102 hel_102 => ?_))
            obtain ⟨eb_102, eo_102, rfl, hfld_102⟩ := hel_102.at (P := Try.prog)
            refine OT.pures hT 1 rfl (.index_at hT rfl rfl rfl rfl (by omega) (by omega) rfl (.load rfl rfl (by rw [Nat.add_assoc]; exact hfld_102 hT rfl (snap_at hwat)) rfl (.pures hT 3 rfl (.nil (.seq (.cond rfl (fun c108 => ?_) (fun c108 => ?_)))))))
            ·
              have c108 := bne_iff_ne.1 c108
              refine TT.draw (([(bx, blk [.iface ti ui, .int .i64 nx, (.slice a46 xs.length c46), (.map (some mb))] 100 (0, 0))] :: r)) mixed (.takes (fuel := 4) hT [0, 1, 2, 4, 5, 6, 7, 9] kr kr rfl (.take (fuel := 3) hT 3 rfl rfl kr kr kr rfl (.load rfl (Ld.one hT rfl hz rfl)) rfl ?_))
              refine AT.take (fuel := 2) hT 8 rfl rfl kr kr kr rfl (.load rfl (Ld.one hT rfl hz rfl)) rfl ?_
              refine AT.op (fuel := 1) 10 kr rfl sl ?_
              refine OT.callP Try.call50 rfl rfl rfl rfl (FunP.pull pl (cow_page hP hI4 (no := (n : Nat)) (by unfold mayPage; omega))) (fun _ _ h => by
                obtain ⟨e, H', rfl, h1, h2, rfl⟩ := h
                exact PP.of ⟨e, H', rfl, h1, h2, rfl⟩ sl) ?_
              rintro v_119 hs_119 ⟨H5, K5, rfl, ho5, hI5⟩
              refine OT.nil (.any (.op (fuel := 0) 11 kr rfl sl (.mapUpdate mapT rfl rfl rfl rfl pl hM2 (fun H_u ho_u => ?_))))
              refine OT.nil (.any (.done kr sl (.blk (.seq (.region (.pures hT 2 rfl (.nil (.loop (n + 1, updO cc2 at_ (Q (n : Nat)), (fun z => if z = at_ then some v_119 else m2 z), H_u, G2 ++ K5, H5) ?_ ?_ (SubR.cons rfl (SubR.cons rfl (SubR.cons rfl (SubR.cons rfl (SubR.cons rfl (SubR.cons rfl (SubR.cons rfl (SubR.cons' rfl (by (try dsimp only); exact (int_eq (by rw [wrap_i64 (by omega) (by omega)]; omega))) (SubR.nil _))))))))) sl))))))))
              · dsimp only
                refine ⟨by omega, ho_u, hc2.grow.put (Row.last ho5.row), hI5, ?_⟩
                rw [sideOf_succ, hwo, Snap.at_some hat, Snap.at_some hwat, if_pos ⟨g97, c108⟩, ← List.append_assoc, laySides_append, ← hwo, ← hcc2]
                rfl
              · dsimp only
                omega
            ·
              have c108 := bne_eq_false_iff_eq.1 c108
              refine TT.skip (.blk (.seq (.region (.pures hT 2 rfl (.nil (.loop (n + 1, cc2, m2, HM2, G2, H4) ?_ ?_ (SubR.cons rfl (SubR.cons rfl (SubR.cons rfl (SubR.cons rfl (SubR.cons rfl (SubR.cons rfl (SubR.cons rfl (SubR.cons' rfl (by (try dsimp only); exact (int_eq (by rw [wrap_i64 (by omega) (by omega)]; omega))) (SubR.nil _))))))))) sl))))))
              · dsimp only
                refine ⟨by omega, hM2, hc2, hI4, ?_⟩
                rw [sideOf_succ, hwo, Snap.at_some hat, Snap.at_some hwat, if_neg (fun h => h.2 c108), List.append_nil, ← hwo]
                exact hcc2
              · dsimp only
                omega
          ·
            have g97 := bne_eq_false_iff_eq.1 g97
            refine OT.pures hT 11 rfl (.nil (.seq (.cond_false rfl (.skip (.blk (.seq (.region (.pures hT 2 rfl (.nil (.loop (n + 1, cc2, m2, HM2, G2, H4) ?_ ?_ (SubR.cons rfl (SubR.cons rfl (SubR.cons rfl (SubR.cons rfl (SubR.cons rfl (SubR.cons rfl (SubR.cons rfl (SubR.cons' rfl (by (try dsimp only); exact (int_eq (by rw [wrap_i64 (by omega) (by omega)]; omega))) (SubR.nil _))))))))) sl))))))))))
            · dsimp only
              refine ⟨by omega, hM2, hc2, hI4, ?_⟩
              rw [sideOf_succ, hwo, Snap.at_some hat, Snap.at_some hwat, if_neg (fun h => h.1 g97), List.append_nil, ← hwo]
              exact hcc2
            · dsimp only
              omega
        ·
          have c92 := of_decide_eq_false c92
          refine TT.exit (.seq (.loop (.here (.blk (.seq (.region (.pures hT 2 rfl (.nil (.loop (k + 1, cc2, m2, HM2, G2, H4) ?_ ?_ (SubR.cons rfl (SubR.cons rfl (SubR.cons rfl (SubR.cons rfl (SubR.cons' rfl (by (try dsimp only); exact (int_eq (by rw [wrap_i64 (by omega) (by omega)]; omega))) (SubR.nil _)))))) sl)))))))))
          · dsimp only
            refine ⟨by omega, hM2, hc2, hI4, ?_⟩
            obtain rfl : n = 32 := by omega
            rw [sides_succ hs]
            exact hcc2
          · dsimp only
            omega
      ·
        have c82 := of_decide_eq_false c82
        obtain rfl : k = xs.length := by omega
        rw [List.take_of_length_le (by omega)] at hcc
        refine TT.exit (.seq (.loop (.here (.seq (.seq (.region (.pures hT 3 rfl (.load rfl rfl (Ld.struct hT rfl hz rfl rfl) rfl ?_))))))))
        refine OT.call Try.call12 rfl rfl rfl rfl (cat_Encode ro (by omega)) ?_
        rintro v_127 hs_127 ⟨wE, HE, rfl, rfl, hoE⟩
        have hee : (encode nx YS).2 = 0 := by unfold encode; rw [if_pos hmay]
        rw [hee]
        refine OT.pures hT 5 rfl (.nil (.seq (.seq (.region (.pures hT 3 rfl (.call Try.call49 rfl rfl rfl rfl (guard_Check) ?_))))))
        rintro v_133 hs_133 ⟨rfl, rfl⟩
        refine OT.nil (.seq (.seq (.draw ((HE :: [(bx, blk [.iface ti ui, .int .i64 nx, (.slice a46 xs.length c46), (.map (some mb))] 100 (0, 0))] :: r)) mixed (.takes (fuel := 5) hT [0, 2, 3, 4] kr kr rfl (.take (fuel := 4) hT 5 rfl rfl kr kr kr rfl (.load rfl (Ld.one hT rfl hz rfl)) rfl ?_)))))
        refine AT.conv (fuel := 3) 1 rfl kr kr kr hT rfl rfl rfl rfl rfl hoE.row rfl (.op (fuel := 2) 6 kr rfl sl ?_)
        refine OT.callP Try.call50 rfl rfl rfl rfl (FunP.pull pl (cow_page hP hI3 (no := 0) (by unfold mayPage; omega))) (fun _ _ h => by
          obtain ⟨e, H', rfl, h1, h2, rfl⟩ := h
          exact PP.of ⟨e, H', rfl, h1, h2, rfl⟩ sl) ?_
        rintro v_140 hs_140 ⟨H5, K5, rfl, ho5, hI5⟩
        refine OT.nil (.any (.op (fuel := 1) 7 kr rfl sl (.conv_bs (fun _ => rfl) hT rfl rfl rfl rfl rfl ro rfl ?_)))
        refine OT.nil (.any (.takes (fuel := 0) hT [8] kr kr rfl (.done kr sl (.seq (.cond rfl (fun c142 => ?_) (fun c142 => ?_))))))
        ·
          have c142 : (encode nx YS).1 ≠ Q 0 := fun e => by rw [e] at c142; simp at c142
          refine TT.region (.pures hT 3 rfl (.load rfl rfl (Ld.one hT rfl hz rfl) rfl ?_))
          refine OT.pures hT 1 rfl (.mapUpdate mapT rfl rfl rfl rfl pl hM1 (fun H_u ho_u => ?_))
          refine OT.nil (.ofP (rs := []) [] ([(bx, blk [.iface ti ui, .int .i64 nx, (.slice a46 xs.length c46), (.map (some mb))] 100 (0, 0))] :: HS1 :: H_u :: (G1 ++ HE) :: H5 :: r) rfl .nil sl ?_)
          try dsimp only [one]
          refine ⟨_, HS1, _, H_u, G1 ++ HE, H5, rfl, rfl, ho_u, ?_, hI5⟩
          unfold expandM sealCat
          rw [if_neg c142, ← hcc]
          exact hc1.grow.put (Row.last hoE.row)
        ·
          have c142 : (encode nx YS).1 = Q 0 := by simpa using c142
          refine TT.skip (.ofP (rs := []) [] ([(bx, blk [.iface ti ui, .int .i64 nx, (.slice a46 xs.length c46), (.map (some mb))] 100 (0, 0))] :: HS1 :: HM1 :: G1 :: H5 :: r) rfl .nil sl ?_)
          try dsimp only [one]
          refine ⟨_, HS1, m', HM1, G1, H5, rfl, rfl, hM1, ?_, hI5⟩
          unfold expandM sealCat
          rw [if_pos c142, ← hcc]
          exact hc1

end Go.Proofs.Ytnhkgchcdbideaa.Sx
end

section
namespace Go.Proofs.Ytnhkgchcdbideaa.Sx
open Go Go.Sx Go.Pl
variable [Outer]

omit [Outer] in
theorem ones_im {t : Im} (h : oneC t.v = true) : ones (encIm t) = true := by
  unfold ones encIm
  rw [List.all_cons, List.all_cons, h]
  rfl

set_option maxHeartbeats 1000000 in
set_option maxRecDepth 100000 in
theorem sl_CloneB {v : Value} {xs : List UInt8} {hs : List Chunk} (hr : Row Go.Sx.encB 1 hs v xs) (hl : xs.length ≤ 1073741824) : Fun Try.prog 69 [v] hs (fun v' hs' => ∃ H', hs' = H' :: hs ∧ Own Go.Sx.encB 1 5 v' xs H') := by
  refine Fun.enter 8 Try.func69 rfl Try.ntmps69 rfl ?_
  obtain ⟨a0, c0, hv⟩ := hr.len
  subst hv
  refine TT.seq (.region (.pures hT 1 rfl (.nil (.seq (.seq (.seq (.region (.pures hT 2 rfl (.nil (.seq (.cond rfl (fun c4 => ?_) (fun c4 => ?_))))))))))))
  ·
    have hx : xs = [] := by
      rcases hr.2 with ⟨_, h⟩ | ⟨b, o, cap, cs, t, fr, h, _⟩
      · exact h
      · injection h with h; rw [h] at c4; cases c4
    subst hx
    refine TT.seq (.region (.pures hT 1 rfl (.nil (.seq (.ret (.of (rs := [.tmp 2]) [_] ([] :: hs) rfl (.tmp rfl .nil) sl ?_))))))
    dsimp only [one]
    exact ⟨[], rfl, Own.nil⟩
  ·
    refine TT.skip (.seq (.seq (.region ?_)))
    refine OT.buildSlice (enc := Go.Sx.encB) (xs := ([] : List UInt8)) (xos := []) el22 rfl rfl rfl rfl rfl (by intro v hv; cases hv) (by intro v hv; cases hv) rfl (by decide) rfl (fun v_5 H_5 ho_5 => ?_)
    refine OT.pures hT 1 rfl ?_
    refine OT.append hT el22 rfl rfl rfl rfl pl ho_5 hr.there (ones_B xs) (by simp only [List.length_nil]; omega) rfl (fun v_7 H_7 ho_7 => ?_)
    refine OT.pures hT 1 rfl (.nil (.seq (.ret (.of (rs := [.tmp 2]) [_] (H_7 :: hs) rfl (.tmp rfl .nil) sl ?_))))
    dsimp only [one]
    exact ⟨_, rfl, ho_7⟩

set_option maxHeartbeats 2000000 in
set_option maxRecDepth 100000 in
theorem cow_images {bx mb ti : Nat} {ui : Value} {nx : Int} {vs : Value} {m : Int → Option Value} {c : Chg} {HM : Chunk} {r : List Chunk} (hM : IsMap m mb HM) (hc : MapRow r m c) (hlen : ∀ no b, c no = some b → b.length ≤ 1073741824) : Fun Try.prog 45 [.pointer (some ⟨bx, 0, none⟩)] ([(bx, blk [.iface ti ui, .int .i64 nx, vs, (.map (some mb))] 100 (0, 0))] :: HM :: r) (fun v' hs' => ∃ ts HI, hs' = HI :: [(bx, blk [.iface ti ui, .int .i64 nx, vs, (.map (some mb))] 100 (0, 0))] :: HM :: r ∧ OwnIms 66 5 v' ts HI ∧ imgs ts = imgsOf c 96) := by
  refine Fun.enter 29 Try.func45 rfl Try.ntmps45 rfl ?_
  refine TT.seq (.region (.pures hT 1 rfl (.nil (.seq (.seq (.region (.pures hT 1 rfl (.nil (.seq (.seq (.seq (.region (.pures hT 1 rfl (.nil (.seq (.block (.chunk0 (.chunk0 (.loop (ι := Nat × (List It) × Value × Chunk) (fun j => (j.1) ≤ 96 ∧ imgs ((j.2.1).map (·.1)) = imgsOf c (j.1) ∧ (∀ u ∈ (j.2.1), Own Go.Sx.encB 1 5 u.1.v u.1.b u.2) ∧ Own encIm 2 66 (j.2.2.1) ((j.2.1).map (·.1)) (j.2.2.2)) (fun j => 96 - (j.1)) (fun j => [(0, .pointer (some ⟨bx, 0, none⟩)), (3, (j.2.2.1)), (7, .int .i64 ((j.1) : Nat))]) (fun j => (j.2.2.2) :: itChunk (j.2.1) :: [(bx, blk [.iface ti ui, .int .i64 nx, vs, (.map (some mb))] 100 (0, 0))] :: HM :: r) (0, [], .slice none 0 0, []) ?_ (SubR.cons rfl (SubR.cons rfl (SubR.cons rfl (SubR.nil _)))) sl ?_)))))))))))))))))))
  · dsimp only
    exact ⟨by omega, rfl, (by intro u hu; cases hu), Own.nil⟩
  rintro ⟨i, us, w, K⟩ hI
  dsimp only at hI
  obtain ⟨hi, him, hus, hw⟩ := hI
  show TT _ _ _ [(0, .pointer (some ⟨bx, 0, none⟩)), (3, w), (7, .int .i64 (i : Nat))] (K :: itChunk us :: [(bx, blk [.iface ti ui, .int .i64 nx, vs, (.map (some mb))] 100 (0, 0))] :: HM :: r)
  have hul : us.length ≤ i := by
    have h1 := congrArg List.length him
    rw [imgs_length, List.length_map] at h1
    rw [h1]; exact imgsOf_len c i
  refine TT.seq (.region (.pures hT 1 rfl (.nil (.seq (.seq (.cond rfl (fun c8 => ?_) (fun c8 => ?_)))))))
  ·
    have c8 := of_decide_eq_true c8
    refine TT.skip (.seq (.seq (.block (.seq (.region (.pures hT 2 rfl (.nil (.seq (.seq (.region (.pures hT 3 rfl (.load rfl rfl (Ld.one hT rfl hz rfl) rfl ?_))))))))))))
    refine OT.pures hT 1 rfl (.lookup_ok mapT rfl rfl rfl pl hM rfl ?_)
    refine OT.pures hT 5 rfl (.nil (.seq (.seq (.region (.pures hT 1 rfl (.nil (.seq (.cond rfl (fun c19 => ?_) (fun c19 => ?_)))))))))
    ·
      rw [hc.is] at c19
      obtain ⟨bs, hci⟩ := Option.isSome_iff_exists.1 c19
      obtain ⟨v, hmi, hrow⟩ := hc.some _ _ hci
      have hbl := hlen _ _ hci
      have hgd : (m (i : Nat)).getD (.slice none 0 0) = v := by rw [hmi]; rfl
      refine TT.reg 5 rfl hgd (.region (.pures hT 3 rfl (.call Try.call69 rfl rfl rfl rfl (sl_CloneB ((hrow.there).there.there.there) hbl) ?_)))
      rintro v_23 hs_23 ⟨K23, rfl, ho23⟩
      obtain ⟨a23, c23, hv23⟩ := (ho23.row (hs := [])).len
      subst hv23
      refine OT.build (cs := [.int .i64 (i : Nat), .slice a23 bs.length c23]) hT rfl Try.zeroValue66 rfl rfl rfl rfl ?_
      refine OT.buildSlice (enc := encIm) (xs := [(⟨(i : Int), .slice a23 bs.length c23, bs⟩ : Im)]) (xos := [.tmp 24]) el37 rfl rfl rfl rfl rfl (by simp [Value.cells]) (fun _ _ => rfl) rfl (by decide) rfl (fun v_25 H_25 ho_25 => ?_)
      refine OT.append hT el37 rfl rfl rfl rfl pl hw ho_25.row rfl (by simp only [List.length_append, List.length_cons, List.length_nil, List.length_map]; omega) rfl (fun v_26 H_26 ho_26 => ?_)
      refine OT.pures hT 1 rfl (.nil (.blk (.seq (.region (.pures hT 2 rfl (.nil (.loop (i + 1, us ++ [(⟨(i : Int), .slice a23 bs.length c23, bs⟩, K23)], v_26, H_26) ?_ ?_ (SubR.cons rfl (SubR.cons rfl (SubR.cons' rfl (by (try dsimp only); exact (int_eq (by rw [wrap_i64 (by omega) (by omega)]; omega))) (SubR.nil _)))) (by rw [itChunk_snoc]; exact sl))))))))
      · dsimp only
        refine ⟨by omega, ?_, ?_, by rw [List.map_append]; exact ho_26⟩
        · rw [imgsOf_succ, List.map_append, imgs_append, him, hci]; rfl
        · intro u hu
          rcases List.mem_append.1 hu with hu | hu
          · exact hus u hu
          · rw [List.mem_singleton] at hu; subst hu; exact ho23
      · dsimp only
        omega
    ·
      refine TT.skip (.blk (.seq (.region (.pures hT 2 rfl (.nil (.loop (i + 1, us, w, K) ?_ ?_ (SubR.cons rfl (SubR.cons rfl (SubR.cons' rfl (by (try dsimp only); exact (int_eq (by rw [wrap_i64 (by omega) (by omega)]; omega))) (SubR.nil _)))) sl))))))
      · dsimp only
        refine ⟨by omega, ?_, hus, hw⟩
        rw [imgsOf_succ, him]
        rw [hc.is] at c19
        cases hci : c (i : Nat) with
        | none => rw [List.append_nil]
        | some b => rw [hci] at c19; cases c19
      · dsimp only
        omega
  ·
    have c8 := of_decide_eq_false c8
    obtain rfl : i = 96 := by omega
    refine TT.exit (.seq (.loop (.here (.seq (.seq (.region (.pures hT 2 rfl (.nil (.seq (.ret (.of (rs := [.tmp 2]) [_] ((K ++ itChunk us) :: [(bx, blk [.iface ti ui, .int .i64 nx, vs, (.map (some mb))] 100 (0, 0))] :: HM :: r) rfl (.tmp rfl .nil) sl ?_)))))))))))
    dsimp only [one]
    exact ⟨us.map Prod.fst, _, rfl, (⟨us, K, rfl, hus, hw, rfl⟩ : OwnIms _ _ w _ _), him⟩

set_option maxHeartbeats 4000000 in
set_option maxRecDepth 100000 in
theorem cow_Expand1 {bp bl bo : Nat} {vl : Value} {ti : Nat} {ui : Value} {I : Chunk → Prop} {E : Int → Chunk → Prop} {Q : Pages} {H : Chunk} {r : List Chunk} (hP : Pgs Try.prog 5 (.iface ti ui) I E (pgOf Q)) (hI : I H) (hQ : ∀ no, mayPage no → (Q no).length = 256) {n : Int} {xs : List Snap} (hdec : decodeS (Q 0) = ((n, xs), 0)) (hgc : GoodC n xs) {ts : List Im} (hi : ImsAt r vl ts) (hm : MayImgs (imgs ts)) {A : Chunk} : FunP Try.prog 42 [.pointer (some ⟨bp, 0, none⟩), .pointer (some ⟨bl, 0, none⟩), .pointer (some ⟨bo, 0, none⟩)] (A :: [(bp, blk [.iface ti ui] 94 (0, 0))] :: [(bl, blk [vl] 37 (0, 0))] :: [(bo, blk [.slice none 0 0] 37 (0, 0))] :: H :: r) (fun v' hs' => ∃ hs1, hs' = A :: hs1 ∧ ∃ v ts' HI H', hs1 = [(bp, blk [.iface ti ui] 94 (0, 0))] :: [(bl, blk [vl] 37 (0, 0))] :: [(bo, blk [v] 37 (0, 0))] :: HI :: H' :: r ∧ OwnIms 66 5 v ts' HI ∧ imgs ts' = expandC Q n xs (imgs ts) ∧ I H') (fun v' hs' => ∃ e hs1, hs' = A :: hs1 ∧ v' = flt e ∧ e ≠ 0 ∧ ∃ H', E e H' ∧ hs1 = [(bp, blk [.iface ti ui] 94 (0, 0))] :: [(bl, blk [vl] 37 (0, 0))] :: [(bo, blk [.slice none 0 0] 37 (0, 0))] :: H' :: r) := by
  refine FunP.enter 31 Try.func42 rfl Try.ntmps42 rfl ?_
  have h35 := decode_35 hdec
  have h32 : ∀ s ∈ xs, s.map.length = 32 := fun s hs => map32 (h35 s hs)
  obtain ⟨al, cl, hvl⟩ := hi.row.len
  subst hvl
  have hfew := hm.few
  rw [imgs_length] at hfew
  refine TT.cut (ι := Nat × Nat × Chunk × Value × Chunk × Chunk) (fun j => I (j.2.2.1) ∧ Own encSnap 35 45 (j.2.2.2.1) xs (j.2.2.2.2.1) ∧ IsMap (fun _ => none) (j.2.1) (j.2.2.2.2.2)) (fun j => [(0, .pointer (some ⟨bp, 0, none⟩)), (1, .pointer (some ⟨bl, 0, none⟩)), (2, .pointer (some ⟨bo, 0, none⟩)), (3, .pointer (some ⟨(j.1), 0, none⟩))]) (fun j => A :: [(bp, blk [.iface ti ui] 94 (0, 0))] :: [(bl, blk [.slice al ts.length cl] 37 (0, 0))] :: [(bo, blk [.slice none 0 0] 37 (0, 0))] :: [((j.1), blk [.iface ti ui, .int .i64 n, (j.2.2.2.1), (.map (some (j.2.1)))] 100 (0, 0))] :: (j.2.2.2.2.1) :: (j.2.2.2.2.2) :: (j.2.2.1) :: r) ?_ ?_
  ·
    refine TT.draw (([(bp, blk [.iface ti ui] 94 (0, 0))] :: [(bl, blk [.slice al ts.length cl] 37 (0, 0))] :: r)) mixed (.take (fuel := 6) hT 0 rfl rfl kr kr kr rfl (.load rfl (Ld.one hT rfl hz rfl)) rfl ?_)
    refine AT.take (fuel := 5) hT 1 rfl rfl kr kr kr rfl (.load rfl (Ld.one hT rfl hz rfl)) rfl ?_
    refine AT.all (fuel := 4) [2, 3] kr (by decide) sl ?_
    intro i hi
    simp only [List.mem_cons, List.not_mem_nil, or_false] at hi
    rcases hi with rfl | rfl
    ·
      refine ⟨_, rfl, ?_⟩
      refine OT.callP Try.call43 rfl rfl rfl rfl (FunP.pull pl (cow_read hP hI hdec (hQ 0 (by unfold mayPage; omega)))) (fun _ _ h => by
        obtain ⟨e, H', rfl, h1, h2, rfl⟩ := h
        exact PP.of ⟨e, _, rfl, rfl, h1, H', h2, rfl⟩ sl) ?_
      rintro v_8 hs_8 ⟨H1, v1, HS, rfl, rfl, hoS, hI1⟩
      obtain ⟨a1, c1, hv1⟩ := (hoS.row (hs := [])).len
      subst hv1
      refine OT.nil (.any (.op (fuel := 3) 3 kr rfl sl (.makeMap rfl rfl (fun b_9 H_9 ho_9 => ?_))))
      refine OT.nil (.any (.op (fuel := 2) 4 kr rfl sl (.build (cs := [.iface ti ui, .int .i64 n, .slice a1 xs.length c1, .map (some b_9)]) hT rfl Try.zeroValue100 rfl rfl rfl rfl (.nil (.any (.op (fuel := 1) 5 kr rfl sl (.box rfl rfl rfl (fun b_11 => ?_))))))))
      refine OT.nil (.any (.takes (fuel := 0) hT [6] kr kr rfl (.done kr sl (.cut (b_11, b_9, H1, _, HS, H_9) ?_ (SubR.cons rfl (SubR.cons rfl (SubR.cons rfl (SubR.cons rfl (SubR.nil _))))) sl))))
      · dsimp only
        exact ⟨hI1, hoS, ho_9⟩
    ·
      refine ⟨_, rfl, ?_⟩
      refine OT.makeMap rfl rfl (fun b_9 H_9 ho_9 => ?_)
      refine OT.nil (.any (.op (fuel := 3) 2 kr rfl sl ?_))
      refine OT.callP Try.call43 rfl rfl rfl rfl (FunP.pull pl (cow_read hP hI hdec (hQ 0 (by unfold mayPage; omega)))) (fun _ _ h => by
        obtain ⟨e, H', rfl, h1, h2, rfl⟩ := h
        exact PP.of ⟨e, _, rfl, rfl, h1, H', h2, rfl⟩ sl) ?_
      rintro v_8 hs_8 ⟨H1, v1, HS, rfl, rfl, hoS, hI1⟩
      obtain ⟨a1, c1, hv1⟩ := (hoS.row (hs := [])).len
      subst hv1
      refine OT.nil (.any (.op (fuel := 2) 4 kr rfl sl (.build (cs := [.iface ti ui, .int .i64 n, .slice a1 xs.length c1, .map (some b_9)]) hT rfl Try.zeroValue100 rfl rfl rfl rfl (.nil (.any (.op (fuel := 1) 5 kr rfl sl (.box rfl rfl rfl (fun b_11 => ?_))))))))
      refine OT.nil (.any (.takes (fuel := 0) hT [6] kr kr rfl (.done kr sl (.cut (b_11, b_9, H1, _, HS, H_9) ?_ (SubR.cons rfl (SubR.cons rfl (SubR.cons rfl (SubR.cons rfl (SubR.nil _))))) sl))))
      · dsimp only
        exact ⟨hI1, hoS, ho_9⟩
  ·
    rintro ⟨bx, mb, H1, v1, HS, HM⟩ hI
    dsimp only at hI
    obtain ⟨hI1, hoS, hM⟩ := hI
    show TT _ _ _ [(0, .pointer (some ⟨bp, 0, none⟩)), (1, .pointer (some ⟨bl, 0, none⟩)), (2, .pointer (some ⟨bo, 0, none⟩)), (3, .pointer (some ⟨bx, 0, none⟩))] (A :: [(bp, blk [.iface ti ui] 94 (0, 0))] :: [(bl, blk [.slice al ts.length cl] 37 (0, 0))] :: [(bo, blk [.slice none 0 0] 37 (0, 0))] :: [(bx, blk [.iface ti ui, .int .i64 n, v1, (.map (some mb))] 100 (0, 0))] :: HS :: HM :: H1 :: r)
    refine TT.seq (.seq (.region (.load rfl rfl (Ld.slc hT rfl hz rfl) rfl ?_)))
    refine OT.pures hT 2 rfl (.nil (.seq (.block (.loop (ι := Nat × (Int → Option Value) × Chunk) (fun j => (j.1) ≤ ts.length ∧ IsMap (j.2.1) mb (j.2.2) ∧ MapRow r (j.2.1) (chgOf ((imgs ts).take (j.1)))) (fun j => ts.length - (j.1)) (fun j => [(2, .pointer (some ⟨bo, 0, none⟩)), (3, .pointer (some ⟨bx, 0, none⟩)), (12, .slice al ts.length cl), (13, .int .i64 ts.length), (14, .int .i64 ((j.1) : Nat))]) (fun j => (j.2.2) :: A :: [(bp, blk [.iface ti ui] 94 (0, 0))] :: [(bl, blk [.slice al ts.length cl] 37 (0, 0))] :: [(bo, blk [.slice none 0 0] 37 (0, 0))] :: [(bx, blk [.iface ti ui, .int .i64 n, v1, (.map (some mb))] 100 (0, 0))] :: HS :: H1 :: r) (0, (fun _ => none), HM) ?_ (SubR.cons rfl (SubR.cons rfl (SubR.cons rfl (SubR.cons rfl (SubR.cons rfl (SubR.nil _)))))) sl ?_))))
    · dsimp only
      exact ⟨by omega, hM, MapRow.empty _⟩
    rintro ⟨i, m, HM1⟩ hI
    dsimp only at hI
    obtain ⟨hii, hM1, hc1⟩ := hI
    show TT _ _ _ [(2, .pointer (some ⟨bo, 0, none⟩)), (3, .pointer (some ⟨bx, 0, none⟩)), (12, .slice al ts.length cl), (13, .int .i64 ts.length), (14, .int .i64 (i : Nat))] (HM1 :: A :: [(bp, blk [.iface ti ui] 94 (0, 0))] :: [(bl, blk [.slice al ts.length cl] 37 (0, 0))] :: [(bo, blk [.slice none 0 0] 37 (0, 0))] :: [(bx, blk [.iface ti ui, .int .i64 n, v1, (.map (some mb))] 100 (0, 0))] :: HS :: H1 :: r)
    refine TT.seq (.region (.pures hT 1 rfl (.nil (.seq (.seq (.cond rfl (fun c15 => ?_) (fun c15 => ?_)))))))
    ·
      have c15 := of_decide_eq_true c15
      obtain ⟨t, ht⟩ := nth (l := ts) (i := i) (by omega)
      refine TT.skip (.seq (.seq (.block (.seq (.region (.index hT rfl rfl rfl rfl (hi.row.mono fun b o hb => Has.sel sl hb) (by omega) ht rfl (fun ad_16 hel_16 => ?_)))))))
      refine OT.load rfl rfl (hel_16.ld_struct hT rfl) rfl (.alloc Try.zeroValue66 rfl rfl (fun b_5 => ?_))
      refine OT.store_all hT rfl rfl rfl rfl pl rfl rfl (ones_im (oneC_slice (hi.each t (List.mem_of_getElem? ht)))) (.inl (Nat.le_refl _)) ?_
      refine OT.nil (.seq (.draw (([(bx, blk [.iface ti ui, .int .i64 n, v1, (.map (some mb))] 100 (0, 0))] :: [(b_5, blk (encIm t) 66 (0, 0))] :: r)) mixed (.takes (fuel := 4) hT [0, 1, 2, 4, 6] kr kr rfl (.take (fuel := 3) hT 3 rfl rfl kr kr kr rfl (.load rfl (Ld.one hT rfl hz rfl)) rfl ?_))))
      refine AT.take (fuel := 2) hT 5 rfl rfl kr kr kr rfl (.load rfl (Ld.one hT rfl hz rfl)) rfl ?_
      refine AT.take (fuel := 1) hT 7 rfl rfl kr kr kr rfl (.load rfl (Ld.slc hT rfl hz rfl)) rfl ?_
      refine AT.op (fuel := 0) 8 kr rfl sl (.mapUpdate mapT rfl rfl rfl rfl pl hM1 (fun H_u ho_u => ?_))
      refine OT.nil (.any (.done kr sl (.blk (.seq (.region (.pures hT 2 rfl (.nil (.loop (i + 1, (fun z => if z = t.no then some t.v else m z), H_u) ?_ ?_ (SubR.cons rfl (SubR.cons rfl (SubR.cons rfl (SubR.cons rfl (SubR.cons' rfl (by (try dsimp only); exact (int_eq (by rw [wrap_i64 (by omega) (by omega)]; omega))) (SubR.nil _)))))) sl))))))))
      · dsimp only
        refine ⟨by omega, ho_u, ?_⟩
        have e : chgOf ((imgs ts).take (i + 1)) = updO (chgOf ((imgs ts).take i)) t.no t.b := by rw [take_succ (imgs_at ht)]; unfold chgOf; rw [List.foldl_append]; rfl
        rw [e]
        exact hc1.put (hi.each t (List.mem_of_getElem? ht))
      · dsimp only
        omega
    ·
      have c15 := of_decide_eq_false c15
      obtain rfl : i = ts.length := by omega
      rw [List.take_of_length_le (by rw [imgs_length]; omega)] at hc1
      refine TT.exit (.seq (.loop (.here (.seq (.seq (.region (.pures hT 1 rfl ?_)))))))
      refine OT.callP Try.call44 rfl rfl rfl rfl (FunP.weaken (sl (hs' := [(bx, blk [.iface ti ui, .int .i64 n, v1, (.map (some mb))] 100 (0, 0))] :: HS :: HM1 :: [] :: H1 :: A :: [(bp, blk [.iface ti ui] 94 (0, 0))] :: [(bl, blk [.slice al ts.length cl] 37 (0, 0))] :: [(bo, blk [.slice none 0 0] 37 (0, 0))] :: r)) (cow_expand (but := 0) (r := A :: [(bp, blk [.iface ti ui] 94 (0, 0))] :: [(bl, blk [.slice al ts.length cl] 37 (0, 0))] :: [(bo, blk [.slice none 0 0] 37 (0, 0))] :: r) hP hI1 hQ hdec (Nat.le_trans hgc.few (by decide)) hoS (Nat.le_trans hgc.few (by decide)) hgc.sides hM1 (hc1.mono fun b o hb => Has.sel sl hb) (expandS_found hgc h32 (nosOf_nodup _) (fun s hs => hs)) (may_iff.2 (expandS_good hgc h32 (nosOf_nodup _)).1))) (fun _ _ h => by
        obtain ⟨e, H', rfl, h1, h2, rfl⟩ := h
        exact PP.of ⟨e, _, rfl, rfl, h1, H', h2, rfl⟩ sl) ?_
      rintro v_28 hs_28 ⟨v2, HS2, m2, HM2, G2, H2, rfl, rfl, hM2, hc2, hI2⟩
      refine OT.nil (.seq (.region (.pures hT 1 rfl (.call Try.call45 rfl rfl rfl rfl (Fun.weaken (sl (hs' := [(bx, blk [.iface ti ui, .int .i64 n, v2, (.map (some mb))] 100 (0, 0))] :: HM2 :: G2 :: A :: [(bp, blk [.iface ti ui] 94 (0, 0))] :: [(bl, blk [.slice al ts.length cl] 37 (0, 0))] :: [(bo, blk [.slice none 0 0] 37 (0, 0))] :: HS2 :: H2 :: r)) (cow_images hM2 (hc2.mono fun b o hb => Has.sel sl hb) (fun no b e => by have hg := expandS_good (Q := Q) (but := 0) hgc h32 (nosOf_nodup (chgOf (imgs ts))); have := expandM_len (was := xs) hQ (fun s hs => len35.2 (hg.2.len32 h32 s hs)) (may_iff.2 hg.1) (chgOf_len hm) no b e; omega))) ?_))))
      rintro v_30 hs_30 ⟨ts2, HI, rfl, hoI, hti⟩
      obtain ⟨_, _, _, _, hoK, _⟩ := hoI.is
      obtain ⟨a30, c30, hv30⟩ := (hoK.row (hs := [])).len
      subst hv30
      refine OT.store hT rfl rfl rfl rfl pl rfl (Nat.le_of_ble_eq_true rfl) rfl (.inl (Nat.le_refl _)) rfl ?_
      refine OT.nil (.ofP (rs := []) [] (A :: [(bp, blk [.iface ti ui] 94 (0, 0))] :: [(bl, blk [.slice al ts.length cl] 37 (0, 0))] :: [(bo, blk [.slice a30 ts2.length c30] 37 (0, 0))] :: HI :: H2 :: r) rfl .nil sl ?_)
      try dsimp only [one]
      exact ⟨_, rfl, _, ts2, HI, H2, rfl, hoI, hti, hI2⟩

end Go.Proofs.Ytnhkgchcdbideaa.Sx
end

section
namespace Go.Proofs.Ytnhkgchcdbideaa.Sx
open Go Go.Sx Go.Pl
variable [Outer]

set_option maxHeartbeats 4000000 in
set_option maxRecDepth 100000 in
theorem cow_Expand {vl : Value} {ti : Nat} {ui : Value} {I : Chunk → Prop} {E : Int → Chunk → Prop} {Q : Pages} {H : Chunk} {r : List Chunk} (hP : Pgs Try.prog 5 (.iface ti ui) I E (pgOf Q)) (hI : I H) (hQ : ∀ no, mayPage no → (Q no).length = 256) {n : Int} {xs : List Snap} (hdec : decodeS (Q 0) = ((n, xs), 0)) (hgc : GoodC n xs) {ts : List Im} (hi : ImsAt r vl ts) (hm : DataImgs (imgs ts)) : Fun Try.prog 14 [(.iface ti ui), vl] (H :: r) (fun v' hs' => (∃ v ts' HI H', v' = .tuple ⟨[v, .int .i64 0]⟩ ∧ hs' = H' :: HI :: r ∧ OwnIms 66 5 v ts' HI ∧ imgs ts' = expandC Q n xs (imgs ts) ∧ I H') ∨ ∃ e H', v' = .tuple ⟨[.slice none 0 0, .int .i64 e]⟩ ∧ e ≠ 0 ∧ E e H' ∧ hs' = H' :: r) := by
  refine Fun.enter 30 Try.func14 rfl Try.ntmps14 rfl ?_
  obtain ⟨al, cl, hvl⟩ := hi.row.len
  subst hvl
  have hpos := hm.1.pos
  rw [imgs_length] at hpos
  obtain ⟨t0, ht0⟩ := nth (l := ts) (i := 0) hpos
  obtain ⟨t1, ht1⟩ := nth (l := ts) (i := ts.length - 1) (by omega)
  have hr0 := hm.2 _ (List.mem_of_getElem? (imgs_at ht0))
  have hr1 := hm.2 _ (List.mem_of_getElem? (imgs_at ht1))
  have hfew := hm.1.few
  rw [imgs_length] at hfew
  unfold Im.img at hr0 hr1
  dsimp only at hr0 hr1
  refine TT.seq (.region (.box rfl rfl rfl (fun b_2 => ?_)))
  refine OT.box rfl rfl rfl (fun b_3 => ?_)
  refine OT.alloc Try.zeroValue37 rfl rfl (fun b_4 => ?_)
  refine OT.pures hT 1 rfl (.nil (.seq (.seq (.seq (.region (.load rfl rfl (Ld.slc hT rfl hz rfl) rfl ?_))))))
  refine OT.call Try.call40 rfl rfl rfl rfl (chg_May (hi.mono fun b o hb => Has.sel sl hb)) ?_
  rintro v_7 hs_7 ⟨rfl, rfl⟩
  rw [decide_eq_true hm.1]
  refine OT.pures hT 2 rfl (.load rfl rfl (Ld.slc hT rfl hz rfl) rfl ?_)
  refine OT.index hT rfl rfl rfl rfl (hi.row.mono fun b o hb => Has.sel sl hb) (by decide) (by exact ht0) rfl (fun ad_11 hel_11 => ?_)
  obtain ⟨eb_11, eo_11, rfl, hfld_11⟩ := hel_11.at (P := Try.prog)
  refine OT.pures hT 1 rfl (.load rfl rfl (hfld_11 hT rfl rfl) rfl (.pures hT 3 rfl (.split 16 rfl (fun g16 => ?_) (fun g16 => ?_))))
  ·
    exact absurd (of_decide_eq_true g16) (by omega)
  ·
    refine OT.load rfl rfl (Ld.slc hT rfl hz rfl) rfl ?_
    refine OT.load rfl rfl (Ld.slc hT rfl hz rfl) rfl ?_
    refine OT.pures hT 2 rfl (.reg 20 rfl (v := .int .i64 ((ts.length - 1 : Nat) : Int)) (int_eq (by rw [wrap_i64 (by omega) (by omega)]; omega)) (.index hT rfl rfl rfl rfl (hi.row.mono fun b o hb => Has.sel sl hb) (by omega) (by rw [Int.toNat_natCast]; exact ht1) rfl (fun ad_21 hel_21 => ?_)))
    obtain ⟨eb_21, eo_21, rfl, hfld_21⟩ := hel_21.at (P := Try.prog)
    refine OT.pures hT 1 rfl (.load rfl rfl (hfld_21 hT rfl rfl) rfl (.pures hT 2 rfl (.nil (.seq (.cond rfl (fun c25 => ?_) (fun c25 => ?_))))))
    ·
      exact absurd (of_decide_eq_true c25) (by omega)
    ·
      refine TT.skip (.seq (.seq (.region (.pures hT 1 rfl (.call Try.call41 rfl rfl rfl rfl (Fun.weaken (sl (hs' := [(b_2, blk [.iface ti ui] 94 (0, 0))] :: [(b_3, blk [.slice al ts.length cl] 37 (0, 0))] :: [(b_4, blk [.slice none 0 0] 37 (0, 0))] :: H :: r)) (guard_Try (N := (fun _ hs1 => ∃ v ts' HI H', hs1 = [(b_2, blk [.iface ti ui] 94 (0, 0))] :: [(b_3, blk [.slice al ts.length cl] 37 (0, 0))] :: [(b_4, blk [v] 37 (0, 0))] :: HI :: H' :: r ∧ OwnIms 66 5 v ts' HI ∧ imgs ts' = expandC Q n xs (imgs ts) ∧ I H')) (E := (fun e hs1 => e ≠ 0 ∧ ∃ H', E e H' ∧ hs1 = [(b_2, blk [.iface ti ui] 94 (0, 0))] :: [(b_3, blk [.slice al ts.length cl] 37 (0, 0))] :: [(b_4, blk [.slice none 0 0] 37 (0, 0))] :: H' :: r)) (g := 42) Try.call42 (fun A => (cow_Expand1 hP hI hQ hdec hgc hi hm.1).mono (fun v hs' h => by obtain ⟨hs1, e, h⟩ := h; exact ⟨hs1, e, h⟩) fun v hs' h => by obtain ⟨e, hs1, h1, h2, h3, h4⟩ := h; exact ⟨e, hs1, h1, h2, h3, h4⟩))) ?_)))))
      rintro v_27 hs_27 (⟨rfl, v, v2, ts2, HI, H2, rfl, hoI, hti, hI2⟩ | ⟨e, rfl, he, H2, hE2, rfl⟩)
      ·
        obtain ⟨_, _, _, _, hoK, _⟩ := hoI.is
        obtain ⟨a30, c30, hv30⟩ := (hoK.row (hs := [])).len
        subst hv30
        refine OT.pures hT 1 rfl (.nil (.seq (.seq (.region (.load rfl rfl (Ld.slc hT rfl hz rfl) rfl ?_)))))
        refine OT.pures hT 1 rfl (.store_all hT rfl rfl rfl rfl pl rfl rfl rfl (.inl (Nat.le_refl _)) ?_)
        refine OT.pures hT 1 rfl (.nil (.seq (.ret (.of (rs := [.cell 4 37, .tmp 5]) [_, _] (H2 :: HI :: r) rfl (.cell rfl (Ld.slc hT rfl hz rfl) (.tmp rfl .nil)) sl ?_))))
        dsimp only [one]
        exact .inl ⟨_, ts2, HI, H2, rfl, rfl, hoI, hti, hI2⟩
      ·
        refine OT.pures hT 1 rfl (.nil (.seq (.seq (.region (.load rfl rfl (Ld.slc hT rfl hz rfl) rfl ?_)))))
        refine OT.pures hT 1 rfl (.store_all hT rfl rfl rfl rfl pl rfl rfl rfl (.inl (Nat.le_refl _)) ?_)
        refine OT.pures hT 1 rfl (.nil (.seq (.ret (.of (rs := [.cell 4 37, .tmp 5]) [_, _] (H2 :: r) rfl (.cell rfl (Ld.slc hT rfl hz rfl) (.tmp rfl .nil)) sl ?_))))
        dsimp only [one]
        exact .inr ⟨e, H2, rfl, he, hE2, rfl⟩

end Go.Proofs.Ytnhkgchcdbideaa.Sx
end

section
namespace Go.Proofs.Ytnhkgchcdbideaa.Sx
open Go Go.Sx Go.Pl
variable [Outer]

set_option maxHeartbeats 1000000 in
set_option maxRecDepth 100000 in
theorem law21_lay {b : Nat} {Q : Pages} {n : Int} {xs : List Snap} {H : Chunk} {r : List Chunk} (hB : BkAt 28 b Q H) (hst : CowSt Q n xs) {no : Int} (h1 : 1 ≤ no) (h2 : no < 32) {x : UInt8} : Fun Try.prog 20 [.pointer (some ⟨b, 0, none⟩), .int .i64 no, .int .u8 x.toNat] (H :: r) (fun v' hs' => ∃ H', hs' = H' :: r ∧ v' = .bool true ∧ BkAt 28 b (lay Q (expandC Q n xs [(no, pageOf [x])])) H' ∧ CowSt (lay Q (expandC Q n xs [(no, pageOf [x])])) n (expandS Q 0 (nosOf (chgOf [(no, pageOf [x])])) xs)) := by
  refine Fun.enter 26 Try.func20 rfl Try.ntmps20 rfl ?_
  have hpl : (pageOf [x]).length = 256 := pageOf_length (by simp)
  have hd := one_data h1 h2 hpl
  refine TT.seq (.region (.pures hT 1 rfl (.nil (.seq (.seq (.region (.pures hT 1 rfl (.mkiface Try.underlying25 rfl rfl rfl rfl (.pures hT 2 rfl ?_)))))))))
  refine OT.buildSlice (enc := Go.Sx.encB) (xs := [x]) (xos := [.tmp 13]) el22 rfl rfl rfl rfl rfl (by simp [Value.cells]) (fun _ _ => rfl) rfl (by decide) rfl (fun v_14 H_14 ho_14 => ?_)
  refine OT.call Try.call21 rfl rfl rfl rfl (law9_Of ro (by simp)) ?_
  rintro v_15 hs_15 ⟨K15, rfl, ho15⟩
  obtain ⟨a15, c15, hv15⟩ := (ho15.row (hs := [])).len
  subst hv15
  refine OT.build (cs := [.int .i64 no, .slice a15 (pageOf [x]).length c15]) hT rfl Try.zeroValue66 rfl rfl rfl rfl ?_
  refine OT.buildSlice (enc := encIm) (xs := [(⟨no, .slice a15 (pageOf [x]).length c15, pageOf [x]⟩ : Im)]) (xos := [.tmp 16]) el37 rfl rfl rfl rfl rfl (by simp [Value.cells]) (fun _ _ => rfl) rfl (by decide) rfl (fun v_17 H_17 ho_17 => ?_)
  refine OT.call Try.call14 rfl rfl rfl rfl (Fun.pull pl (cow_Expand book_Pgs hB hst.long hst.cat hst.good (⟨ro, fun t ht => by rw [List.mem_singleton] at ht; subst ht; exact ro, (by show 1 ≤ 9223372036854775807; omega), fun t ht => by rw [List.mem_singleton] at ht; subst ht; exact Nat.le_trans (Nat.le_of_eq hpl) (by decide)⟩ : ImsAt _ _ [⟨no, .slice a15 (pageOf [x]).length c15, pageOf [x]⟩]) hd)) ?_
  rintro v_18 hs_18 (⟨v, ts2, HI, H2, rfl, rfl, hoI, hti, hI2⟩ | ⟨_, _, _, _, hE, _⟩)
  ·
    have hti : imgs ts2 = expandC Q n xs [(no, pageOf [x])] := hti
    have hmx := expandC_may hst hd
    refine OT.pures hT 5 rfl (.nil (.seq (.seq (.seq (.region (.pures hT 2 rfl (.nil (.seq (.cond_false rfl (.skip (.seq (.seq (.region (.pures hT 2 rfl (.call Try.call15 rfl rfl rfl rfl (book_Lay hI2 (own_at hoI hti hmx (expandC_len ..)) (by rw [hti]; exact hmx)) ?_)))))))))))))))
    rintro v_25 hs_25 ⟨H3, rfl, rfl, hB3⟩
    refine OT.nil (.seq (.seq (.region (.pures hT 1 rfl (.nil (.seq (.ret (.of (rs := [.tmp 6]) [_] (H3 :: r) rfl (.tmp rfl .nil) sl ?_))))))))
    dsimp only [one]
    exact ⟨H3, rfl, rfl, by rw [hti] at hB3; exact hB3, expandC_st hst hd⟩
  ·
    exact hE.elim

set_option maxHeartbeats 1000000 in
set_option maxRecDepth 100000 in
theorem law21_snap {b : Nat} {Q : Pages} {n : Int} {xs : List Snap} {H : Chunk} {r : List Chunk} (hB : BkAt 28 b Q H) (hst : CowSt Q n xs) {nm : ByteArray} {n2 : Int} {xs2 : List Snap} (hadd : addC n xs nm = ((n2, xs2), 0)) (hmay : mayB n2 xs2 = true) : Fun Try.prog 19 [.pointer (some ⟨b, 0, none⟩), .string nm] (H :: r) (fun v' hs' => ∃ H', hs' = H' :: r ∧ v' = .bool true ∧ BkAt 28 b (upd Q 0 (encode n2 xs2).1) H') := by
  refine Fun.enter 49 Try.func19 rfl Try.ntmps19 rfl ?_
  have hgc := hst.good
  have hfew := hgc.few
  have hn0 := hgc.n0
  have hee : (encode n2 xs2).2 = 0 := by unfold encode; rw [if_pos hmay]
  refine TT.seq (.region (.pures hT 1 rfl (.nil (.seq (.seq (.region (.pures hT 1 rfl (.call Try.call23 rfl rfl rfl rfl (book_Page hB) ?_))))))))
  rintro v_15 hs_15 ⟨K1, w1, rfl, rfl, ho1⟩
  rw [pg0 (by unfold mayPage; omega)] at ho1 ⊢
  dsimp only at ho1
  refine OT.pures hT 5 rfl (.nil (.seq (.seq (.region (.pures hT 1 rfl (.call Try.call24 rfl rfl rfl rfl (cat_Decode ro (by rw [hst.long 0 (by unfold mayPage; omega)]; omega)) ?_))))))
  rintro v_20 hs_20 ⟨w2, HS, rfl, rfl, hoS⟩
  rw [hst.cat] at hoS ⊢
  dsimp only at hoS
  obtain ⟨a2, c2, hw2⟩ := (hoS.row (hs := [])).len
  subst hw2
  refine OT.pures hT 3 rfl (.alloc Try.zeroValue31 rfl rfl (fun b_7 => ?_))
  refine OT.store_all hT rfl rfl rfl rfl pl rfl rfl rfl (.inl (Nat.le_refl _)) ?_
  refine OT.pures hT 1 rfl (.nil (.seq (.seq (.region (.load rfl rfl (Ld.struct_all hT rfl hz rfl) rfl ?_)))))
  refine OT.pures hT 1 rfl (.call Try.call11 rfl rfl rfl rfl (cat_Add (next := n) (xs := xs) ro (by omega) (by omega)) ?_)
  rintro v_26 hs_26 ⟨w3, HS3, rfl, rfl, hoS3⟩
  rw [hadd] at hoS3 ⊢
  dsimp only at hoS3
  obtain ⟨a3, c3, hw3⟩ := (hoS3.row (hs := [])).len
  subst hw3
  refine OT.pures hT 3 rfl (.alloc Try.zeroValue31 rfl rfl (fun b_9 => ?_))
  refine OT.store_all hT rfl rfl rfl rfl pl rfl rfl rfl (.inl (Nat.le_refl _)) ?_
  refine OT.pures hT 1 rfl (.nil (.seq (.seq (.region (.load rfl rfl (Ld.struct_all hT rfl hz rfl) rfl ?_)))))
  refine OT.call Try.call12 rfl rfl rfl rfl (cat_Encode ro (by have := (may_iff.1 hmay).few; omega)) ?_
  rintro v_31 hs_31 ⟨w4, HE, rfl, rfl, hoE⟩
  rw [hee]
  refine OT.pures hT 5 rfl (.nil (.seq (.seq (.region (.pures hT 4 rfl (.index_at hT rfl rfl rfl rfl (by omega) (by decide) rfl (.bk_store (no := 0) hT rfl rfl rfl rfl pl hB pl hoE (encode_256 (fun s hs => hoS3.enc_len s hs) hmay) rfl (by decide) (fun H_y hb_y ht_y => ?_))))))))
  refine OT.nil (.seq (.seq (.region (.pures hT 3 rfl (.pures hT 4 rfl (.pures hT 4 rfl (.nil (.seq (.ret (.of (rs := [.tmp 4]) [_] (H_y :: r) rfl (.tmp rfl .nil) sl ?_))))))))))
  dsimp only [one]
  exact ⟨H_y, rfl, rfl, hb_y⟩

end Go.Proofs.Ytnhkgchcdbideaa.Sx
end

section
namespace Go.Proofs.Ytnhkgchcdbideaa.Sx
open Go Go.Sx Go.Pl
variable [Outer]

set_option maxHeartbeats 8000000 in
set_option maxRecDepth 100000 in
theorem law_CowFree {no : Int} (hr : -9223372036854775808 ≤ no ∧ no ≤ 9223372036854775807) {used : Bool} {hs : List Chunk} (hbegun : ∀ hs, Fun Try.prog 10 [] hs fun v' hs' => v' = .bool true ∧ hs = hs') : Fun Try.prog 7 [.int .i64 no, .bool used] hs (fun v' hs' => v' = .bool true ∧ hs = hs') := by
  refine Fun.enter 75 Try.func7 rfl Try.ntmps7 rfl ?_
  refine TT.seq (.region (.pures hT 1 rfl (.nil (.seq (.seq (.region (.call Try.call10 rfl rfl rfl rfl (hbegun _) ?_)))))))
  rintro v_12 hs_12 ⟨rfl, rfl⟩
  refine OT.pures hT 1 rfl (.nil (.seq (.seq (.seq (.region (.pures hT 2 rfl (.nil (.seq (.cond_false rfl (.skip (.seq (.seq (.seq (.region (.pures hT 3 rfl (.split 17 rfl (fun g17 => ?_) (fun g17 => ?_)))))))))))))))))
  ·
    have g17 := of_decide_eq_true g17
    refine OT.pures hT 3 rfl (.nil (.seq (.cond_true rfl (.seq (.region (.pures hT 1 rfl (.nil (.seq (.ret (.of (rs := [.tmp 4]) [_] hs rfl (.tmp rfl .nil) sl ?_))))))))))
    dsimp only [one]
    exact ⟨rfl, rfl⟩
  ·
    have g17 := of_decide_eq_false g17
    refine OT.pures hT 3 rfl (.nil (.seq (.cond rfl (fun c20 => ?_) (fun c20 => ?_))))
    ·
      have c20 := of_decide_eq_true c20
      refine TT.seq (.region (.pures hT 1 rfl (.nil (.seq (.ret (.of (rs := [.tmp 4]) [_] hs rfl (.tmp rfl .nil) sl ?_))))))
      dsimp only [one]
      exact ⟨rfl, rfl⟩
    ·
      have c20 := of_decide_eq_false c20
      obtain ⟨n, rfl⟩ : ∃ n : Nat, no = n := ⟨no.toNat, by omega⟩
      refine TT.skip (.seq (.seq (.region (.build (cs := bkCells (List.replicate 96 (.slice none 0 0))) hT rfl Try.zeroValue28 rfl rfl kr rfl (.box rfl rfl rfl (fun b_22 => ?_))))))
      refine OT.pures hT 1 rfl (.nil (.seq (.seq (.draw (hs) mixed (.takes (fuel := 3) hT [0, 2, 3] kr kr rfl (.op (fuel := 2) 1 kr rfl sl ?_))))))
      refine OT.make (enc := Go.Sx.encB) (z0 := (0 : UInt8)) (n := 256) el22 Try.zeroValue5 rfl rfl rfl rfl rfl (by omega) rfl (fun v_24 H_24 ho_24 => ?_)
      obtain ⟨B1, O1, C1, _, _, hv24, _⟩ := ho_24.over (by rw [List.length_replicate]; decide)
      rw [List.length_replicate] at hv24
      subst hv24
      refine OT.nil (.any (.index_at (fuel := 1) hT 4 rfl kr kr kr rfl rfl rfl rfl (by omega) (by decide) rfl (.op (fuel := 0) 5 kr rfl sl (.store hT rfl rfl rfl rfl pl rfl (Nat.le_of_ble_eq_true rfl) rfl (.inl (Nat.le_refl _)) (bk_set (k := 1) (List.length_replicate) (by decide) _ rfl) ?_))))
      refine OT.nil (.any (.done kr sl (.seq (.cut (ι := Pages × Chunk) (fun j => BkAt 28 b_22 (j.1) (j.2) ∧ hasB ((j.1) 1) (n : Nat) = used) (fun j => [(0, .int .i64 (n : Nat)), (1, .bool used), (6, .pointer (some ⟨b_22, 0, none⟩))]) (fun j => (j.2) :: hs) ?_ ?_))))
      ·
        refine TT.seq (.region (.pures hT 1 rfl (.nil (.seq (.cond rfl (fun c28 => ?_) (fun c28 => ?_))))))
        ·
          refine TT.region (.pures hT 3 rfl (.index_at hT rfl rfl rfl rfl (by omega) (by decide) rfl (.load rfl rfl (Ld.slc hT rfl hz (bk_at (by rw [List.length_set, List.length_replicate]) (List.getElem?_set_self (by rw [List.length_replicate]; decide)) rfl)) rfl ?_)))
          refine OT.pures hT 5 rfl (.reg 35 rfl (v := .int .i64 ((n / 8 : Nat) : Int)) (int_eq (by rw [Int.tdiv_eq_ediv_of_nonneg (by omega), wrap_i64 (by omega) (by omega)]; omega)) (.reg 38 rfl (v := .int .u64 ((n % 8 : Nat) : Int)) (int_eq (by rw [Int.tmod_eq_emod_of_nonneg (by omega), wrap_u64 (by omega) (by omega)]; omega)) (.shl hT rfl rfl rfl (by omega) rfl (.reg 39 rfl (v := .int .u8 ((UInt8.ofNat (2 ^ (n % 8))).toNat : Int)) (int_eq (bit_byte ⟨n % 8, Nat.mod_lt _ (by decide)⟩)) (.index_raw hT rfl rfl rfl rfl (by omega) (by omega) rfl (.store_el (n / 8) 0 hT rfl rfl rfl rfl pl ho_24 (List.getElem?_replicate.trans (if_pos (by omega))) (by omega) rfl (by decide) rfl rfl (fun H_x ho_x => ?_)))))))
          refine OT.nil (.cut (upd (fun _ => noughts 256) (1 : Nat) (bitAt n), [(b_22, blk (bkCells ((List.replicate 96 (.slice none 0 0) : List Value).set 1 (.slice (some ⟨B1, O1, none⟩) 256 C1))) 28 (0, 0))] ++ ([] ++ H_x)) ?_ (SubR.cons rfl (SubR.cons rfl (SubR.cons rfl (SubR.nil _)))) sl)
          · dsimp only
            refine ⟨BkAt.one ((Slots.zero [[]]).grow (by decide) ho_x (bitAt_len n)), ?_⟩
            rw [c28, show upd (fun _ => noughts 256) ((1 : Nat) : Int) (bitAt n) 1 = bitAt n from if_pos rfl]; exact bit_has ⟨n, by omega⟩ (by show 2 ≤ n; omega)
        ·
          refine TT.skip (.cut (upd (fun _ => noughts 256) (1 : Nat) (List.replicate 256 0), [(b_22, blk (bkCells ((List.replicate 96 (.slice none 0 0) : List Value).set 1 (.slice (some ⟨B1, O1, none⟩) 256 C1))) 28 (0, 0))] ++ ([] ++ H_24)) ?_ (SubR.cons rfl (SubR.cons rfl (SubR.cons rfl (SubR.nil _)))) sl)
          · dsimp only
            refine ⟨BkAt.one ((Slots.zero [[]]).grow (by decide) ho_24 List.length_replicate), ?_⟩
            rw [c28, show upd (fun _ => noughts 256) ((1 : Nat) : Int) (List.replicate 256 0) 1 = List.replicate 256 0 from if_pos rfl]; exact nought_has _
      ·
        rintro ⟨Q1, H1⟩ hI
        dsimp only at hI
        obtain ⟨hB1, hus⟩ := hI
        show TT _ _ _ [(0, .int .i64 (n : Nat)), (1, .bool used), (6, .pointer (some ⟨b_22, 0, none⟩))] (H1 :: hs)
        have hst := st_one hB1.long
        have hpl : (pageOf [1]).length = 256 := pageOf_length (by simp)
        have hd := one_data (show 1 ≤ (n : Int) by omega) (show (n : Int) < 32 by omega) hpl
        have hq1 : (upd Q1 0 (encode 1 [(newSnap nmS 1)]).1) 1 = Q1 1 := by unfold upd; rw [if_neg (by decide)]
        refine TT.seq (.region (.build (cs := [.int .i64 0, .slice none 0 0]) hT rfl Try.zeroValue31 rfl rfl rfl rfl (.call Try.call11 rfl rfl rfl rfl (cat_Add (next := 0) (xs := []) Row.nil (by simp) (by decide)) ?_)))
        rintro v_43 hs_43 ⟨wS, HS, rfl, rfl, hoS⟩
        rw [show addC 0 [] ⟨#[115]⟩ = _ from addS] at hoS ⊢
        dsimp only at hoS
        obtain ⟨aS, cS, hwS⟩ := (hoS.row (hs := [])).len
        subst hwS
        refine OT.pures hT 3 rfl (.alloc Try.zeroValue31 rfl rfl (fun b_7 => ?_))
        refine OT.store_all hT rfl rfl rfl rfl pl rfl rfl rfl (.inl (Nat.le_refl _)) ?_
        refine OT.pures hT 1 rfl (.nil (.seq (.seq (.draw (([(b_7, blk [.int .i64 1, .slice aS [(newSnap nmS 1)].length cS] 31 (0, 0))] :: HS :: hs)) mixed (.takes (fuel := 7) hT [0, 6, 7] kr kr rfl (.take (fuel := 6) hT 1 rfl rfl kr kr kr rfl (.load rfl (Ld.struct_all hT rfl hz rfl)) rfl ?_))))))
        refine AT.op (fuel := 5) 2 kr rfl sl (.call Try.call12 rfl rfl rfl rfl (cat_Encode ro (by simp)) ?_)
        rintro v_49 hs_49 ⟨wE, HE, rfl, rfl, hoE⟩
        refine OT.nil (.any (.takes (fuel := 2) hT [3, 4, 5] kr kr rfl (.index_at (fuel := 1) hT 8 rfl kr kr kr rfl rfl rfl rfl (by omega) (by decide) rfl (.op (fuel := 0) 9 kr rfl sl (.bk_store (no := 0) hT rfl rfl rfl rfl pl hB1 pl hoE encS_len rfl (by decide) (fun H_y hb_y ht_y => ?_))))))
        refine OT.nil (.any (.done kr sl (.seq (.seq (.region (.pures hT 1 rfl (.mkiface Try.underlying25 rfl rfl rfl rfl (.pures hT 1 rfl ?_))))))))
        refine OT.buildSlice (enc := Go.Sx.encB) (xs := [(1 : UInt8)]) (xos := [.const (.int .u8 (1))]) el22 rfl rfl rfl rfl rfl (by simp [Value.cells]) (fun _ _ => rfl) rfl (by decide) rfl (fun v_59 H_59 ho_59 => ?_)
        refine OT.call Try.call21 rfl rfl rfl rfl (law9_Of ro (by simp)) ?_
        rintro v_60 hs_60 ⟨K60, rfl, ho60⟩
        obtain ⟨a60, c60, hv60⟩ := (ho60.row (hs := [])).len
        subst hv60
        refine OT.build (cs := [.int .i64 (n : Nat), .slice a60 (pageOf [1]).length c60]) hT rfl Try.zeroValue66 rfl rfl rfl rfl ?_
        refine OT.buildSlice (enc := encIm) (xs := [(⟨(n : Int), .slice a60 (pageOf [1]).length c60, pageOf [1]⟩ : Im)]) (xos := [.tmp 61]) el37 rfl rfl rfl rfl rfl (by simp [Value.cells]) (fun _ _ => rfl) rfl (by decide) rfl (fun v_62 H_62 ho_62 => ?_)
        refine OT.call Try.call14 rfl rfl rfl rfl (Fun.pull pl (cow_Expand book_Pgs hb_y hst.long hst.cat hst.good (⟨ro, fun t ht => by rw [List.mem_singleton] at ht; subst ht; exact ro, (by show 1 ≤ 9223372036854775807; omega), fun t ht => by rw [List.mem_singleton] at ht; subst ht; exact Nat.le_trans (Nat.le_of_eq hpl) (by decide)⟩ : ImsAt _ _ [⟨(n : Int), .slice a60 (pageOf [1]).length c60, pageOf [1]⟩]) hd)) ?_
        rintro v_63 hs_63 (⟨v, ts2, HI, H2, rfl, rfl, hoI, hti, hI2⟩ | ⟨_, _, _, _, hE, _⟩)
        ·
          have hti : imgs ts2 = expandC (upd Q1 0 (encode 1 [(newSnap nmS 1)]).1) 1 [(newSnap nmS 1)] [((n : Int), pageOf [1])] := hti
          obtain ⟨_, _, _, _, hoK, _⟩ := hoI.is
          obtain ⟨a30, c30, hv30⟩ := (hoK.row (hs := [])).len
          subst hv30
          have hneed : needsB (upd Q1 0 (encode 1 [(newSnap nmS 1)]).1) (newSnap nmS 1) (n : Nat) = used := by
            unfold needsB
            rw [if_neg (fun h => h.elim (fun h => by cases h) (fun h => h (newSnap_at ..))), if_neg (by omega), newSnap_view, hq1]; exact hus
          have hlen : (ts2.length : Int) = if used = true then 3 else 1 := by
            rw [← imgs_length, hti]
            rcases single hst (show 1 ≤ (n : Int) by omega) (show (n : Int) < 32 by omega) (b := pageOf [1]) with ⟨e1, _, e3⟩ | ⟨e1, _, _, _, _, e3⟩
            · rw [e3, ← hneed, e1]; rfl
            · rw [e3, ← hneed, e1]; rfl
          refine OT.pures hT 5 rfl (.nil (.seq (.seq (.region (.pures hT 1 rfl (.nil (.seq (.seq (.seq (.region (.pures hT 1 rfl (.nil (.seq (.cond rfl (fun c66 => ?_) (fun c66 => ?_)))))))))))))))
          ·
            refine TT.region (.pures hT 1 rfl (.nil (.seq (.seq (.region (.pures hT 3 rfl (.pures hT 6 rfl (.nil (.seq (.ret (.of (rs := [.tmp 4]) [_] hs rfl (.tmp rfl .nil) sl ?_)))))))))))
            dsimp only [one]
            rw [if_pos c66] at hlen
            exact ⟨congrArg Value.bool (beq_iff_eq.2 hlen), rfl⟩
          ·
            refine TT.skip (.seq (.seq (.region (.pures hT 3 rfl (.pures hT 6 rfl (.nil (.seq (.ret (.of (rs := [.tmp 4]) [_] hs rfl (.tmp rfl .nil) sl ?_)))))))))
            dsimp only [one]
            rw [if_neg (by rw [c66]; simp)] at hlen
            exact ⟨congrArg Value.bool (beq_iff_eq.2 hlen), rfl⟩
        ·
          exact hE.elim

set_option maxHeartbeats 8000000 in
set_option maxRecDepth 100000 in
theorem law_CowOnce {no times : Int} (hr : -9223372036854775808 ≤ no ∧ no ≤ 9223372036854775807) (hr2 : -9223372036854775808 ≤ times ∧ times ≤ 9223372036854775807) {old : UInt8} {hs : List Chunk} (hbegun : ∀ hs, Fun Try.prog 10 [] hs fun v' hs' => v' = .bool true ∧ hs = hs') : Fun Try.prog 6 [.int .i64 no, .int .i64 times, .int .u8 old.toNat] hs (fun v' hs' => v' = .bool true ∧ hs = hs') := by
  refine Fun.enter 142 Try.func6 rfl Try.ntmps6 rfl ?_
  refine TT.seq (.region (.pures hT 1 rfl (.nil (.seq (.seq (.region (.call Try.call10 rfl rfl rfl rfl (hbegun _) ?_)))))))
  rintro v_18 hs_18 ⟨rfl, rfl⟩
  refine OT.pures hT 1 rfl (.nil (.seq (.seq (.seq (.region (.pures hT 2 rfl (.nil (.seq (.cond_false rfl (.skip (.seq (.seq (.seq (.region (.pures hT 3 rfl (.split 23 rfl (fun g23 => ?_) (fun g23 => ?_)))))))))))))))))
  ·
    have g23 := of_decide_eq_true g23
    refine OT.pures hT 11 rfl (.nil (.seq (.cond_true rfl (.seq (.region (.pures hT 1 rfl (.nil (.seq (.ret (.of (rs := [.tmp 6]) [_] hs rfl (.tmp rfl .nil) sl ?_))))))))))
    dsimp only [one]
    exact ⟨rfl, rfl⟩
  ·
    have g23 := of_decide_eq_false g23
    refine OT.pures hT 4 rfl (.split 27 rfl (fun g27 => ?_) (fun g27 => ?_))
    ·
      have g27 := of_decide_eq_true g27
      refine OT.pures hT 7 rfl (.nil (.seq (.cond_true rfl (.seq (.region (.pures hT 1 rfl (.nil (.seq (.ret (.of (rs := [.tmp 6]) [_] hs rfl (.tmp rfl .nil) sl ?_))))))))))
      dsimp only [one]
      exact ⟨rfl, rfl⟩
    ·
      have g27 := of_decide_eq_false g27
      refine OT.pures hT 4 rfl (.split 31 rfl (fun g31 => ?_) (fun g31 => ?_))
      ·
        have g31 := of_decide_eq_true g31
        refine OT.pures hT 3 rfl (.nil (.seq (.cond_true rfl (.seq (.region (.pures hT 1 rfl (.nil (.seq (.ret (.of (rs := [.tmp 6]) [_] hs rfl (.tmp rfl .nil) sl ?_))))))))))
        dsimp only [one]
        exact ⟨rfl, rfl⟩
      ·
        have g31 := of_decide_eq_false g31
        refine OT.pures hT 3 rfl (.nil (.seq (.cond rfl (fun c34 => ?_) (fun c34 => ?_))))
        ·
          have c34 := of_decide_eq_true c34
          refine TT.seq (.region (.pures hT 1 rfl (.nil (.seq (.ret (.of (rs := [.tmp 6]) [_] hs rfl (.tmp rfl .nil) sl ?_))))))
          dsimp only [one]
          exact ⟨rfl, rfl⟩
        ·
          have c34 := of_decide_eq_false c34
          obtain ⟨n, rfl⟩ : ∃ n : Nat, no = n := ⟨no.toNat, by omega⟩
          have hpo : (pageOf [old]).length = 256 := pageOf_length (by simp)
          refine TT.skip (.seq (.seq (.region (.build (cs := bkCells (List.replicate 96 (.slice none 0 0))) hT rfl Try.zeroValue28 rfl rfl kr rfl (.box rfl rfl rfl (fun b_36 => ?_))))))
          refine OT.pures hT 1 rfl (.nil (.seq (.seq (.draw (hs) mixed (.takes (fuel := 3) hT [0, 2, 3] kr kr rfl (.op (fuel := 2) 1 kr rfl sl ?_))))))
          refine OT.make (enc := Go.Sx.encB) (z0 := (0 : UInt8)) (n := 256) el22 Try.zeroValue5 rfl rfl rfl rfl rfl (by omega) rfl (fun v_38 H_38 ho_38 => ?_)
          obtain ⟨B1, O1, C1, _, _, hv38, _⟩ := ho_38.over (by rw [List.length_replicate]; decide)
          rw [List.length_replicate] at hv38
          subst hv38
          refine OT.nil (.any (.index_at (fuel := 1) hT 4 rfl kr kr kr rfl rfl rfl rfl (by omega) (by decide) rfl (.op (fuel := 0) 5 kr rfl sl (.store hT rfl rfl rfl rfl pl rfl (Nat.le_of_ble_eq_true rfl) rfl (.inl (Nat.le_refl _)) (bk_set (k := 1) (List.length_replicate) (by decide) _ rfl) ?_))))
          refine OT.nil (.any (.done kr sl (.seq (.seq (.region (.pures hT 3 rfl (.index_at hT rfl rfl rfl rfl (by omega) (by decide) rfl (.load rfl rfl (Ld.slc hT rfl hz (bk_at (by rw [List.length_set, List.length_replicate]) (List.getElem?_set_self (by rw [List.length_replicate]; decide)) rfl)) rfl ?_))))))))
          refine OT.pures hT 5 rfl (.reg 48 rfl (v := .int .i64 ((n / 8 : Nat) : Int)) (int_eq (by rw [Int.tdiv_eq_ediv_of_nonneg (by omega), wrap_i64 (by omega) (by omega)]; omega)) (.reg 51 rfl (v := .int .u64 ((n % 8 : Nat) : Int)) (int_eq (by rw [Int.tmod_eq_emod_of_nonneg (by omega), wrap_u64 (by omega) (by omega)]; omega)) (.shl hT rfl rfl rfl (by omega) rfl (.reg 52 rfl (v := .int .u8 ((UInt8.ofNat (2 ^ (n % 8))).toNat : Int)) (int_eq (bit_byte ⟨n % 8, Nat.mod_lt _ (by decide)⟩)) (.index_raw hT rfl rfl rfl rfl (by omega) (by omega) rfl (.store_el (n / 8) 0 hT rfl rfl rfl rfl pl ho_38 (List.getElem?_replicate.trans (if_pos (by omega))) (by omega) rfl (by decide) rfl rfl (fun H_x ho_x => ?_)))))))
          refine OT.nil (.seq (.seq (.draw (hs) mixed (.takes (fuel := 4) hT [0, 1, 2, 5, 6] kr kr rfl (.op (fuel := 3) 3 kr rfl sl (.weaken (SubR.refl _) (sl (hs' := ([(b_36, blk (bkCells ((List.replicate 96 (.slice none 0 0) : List Value).set 1 (.slice (some ⟨B1, O1, none⟩) 256 C1))) 28 (0, 0))] ++ ([] ++ H_x)) :: hs)) ?_))))))
          have hB1 : BkAt 28 b_36 (upd (fun _ => noughts 256) ((1 : Nat) : Int) (bitAt n)) ([(b_36, blk (bkCells ((List.replicate 96 (.slice none 0 0) : List Value).set 1 (.slice (some ⟨B1, O1, none⟩) 256 C1))) 28 (0, 0))] ++ ([] ++ H_x)) := BkAt.one ((Slots.zero [[]]).grow (by decide) ho_x (bitAt_len n))
          generalize ([(b_36, blk (bkCells ((List.replicate 96 (.slice none 0 0) : List Value).set 1 (.slice (some ⟨B1, O1, none⟩) 256 C1))) 28 (0, 0))] ++ ([] ++ H_x)) = HB at hB1 ⊢
          refine OT.buildSlice (enc := Go.Sx.encB) (xs := [old]) (xos := [.tmp 56]) el22 rfl rfl rfl rfl rfl (by simp [Value.cells]) (fun _ _ => rfl) rfl (by decide) rfl (fun v_57 H_57 ho_57 => ?_)
          refine OT.nil (.any (.op (fuel := 2) 4 kr rfl sl (.call Try.call21 rfl rfl rfl rfl (law9_Of ro (by simp)) ?_)))
          rintro v_58 hs_58 ⟨K58, rfl, ho58⟩
          refine OT.nil (.any (.index_at (fuel := 1) hT 7 rfl kr kr kr rfl rfl rfl rfl (by omega) (by omega) rfl (.op (fuel := 0) 8 kr rfl sl (.bk_store (no := n) hT rfl rfl rfl rfl pl hB1 pl ho58 hpo (by omega) (by omega) (fun H_y hb_y ht_y => ?_)))))
          refine OT.nil (.any (.done kr sl (.seq (.seq (.region (.build (cs := [.int .i64 0, .slice none 0 0]) hT rfl Try.zeroValue31 rfl rfl rfl rfl (.call Try.call11 rfl rfl rfl rfl (cat_Add (next := 0) (xs := []) Row.nil (by simp) (by decide)) ?_)))))))
          rintro v_64 hs_64 ⟨wS, HS, rfl, rfl, hoS⟩
          rw [show addC 0 [] ⟨#[115]⟩ = _ from addS] at hoS ⊢
          dsimp only at hoS
          obtain ⟨aS, cS, hwS⟩ := (hoS.row (hs := [])).len
          subst hwS
          refine OT.pures hT 3 rfl (.alloc Try.zeroValue31 rfl rfl (fun b_9 => ?_))
          refine OT.store_all hT rfl rfl rfl rfl pl rfl rfl rfl (.inl (Nat.le_refl _)) ?_
          refine OT.pures hT 1 rfl (.nil (.seq (.seq (.draw (([(b_9, blk [.int .i64 1, .slice aS [(newSnap nmS 1)].length cS] 31 (0, 0))] :: HS :: hs)) mixed (.takes (fuel := 7) hT [0, 6, 7] kr kr rfl (.take (fuel := 6) hT 1 rfl rfl kr kr kr rfl (.load rfl (Ld.struct_all hT rfl hz rfl)) rfl ?_))))))
          refine AT.op (fuel := 5) 2 kr rfl sl (.call Try.call12 rfl rfl rfl rfl (cat_Encode ro (by simp)) ?_)
          rintro v_70 hs_70 ⟨wE, HE, rfl, rfl, hoE⟩
          refine OT.nil (.any (.takes (fuel := 2) hT [3, 4, 5] kr kr rfl (.index_at (fuel := 1) hT 8 rfl kr kr kr rfl rfl rfl rfl (by omega) (by decide) rfl (.op (fuel := 0) 9 kr rfl sl (.bk_store (no := 0) hT rfl rfl rfl rfl pl hb_y pl hoE encS_len rfl (by decide) (fun H_z hb_z ht_z => ?_))))))
          refine OT.nil (.any (.done kr sl (.seq (.seq (.seq (.region (.pures hT 1 rfl (.nil (.seq (.block ?_))))))))))
          have hone : One (upd (upd (upd (fun _ => noughts 256) ((1 : Nat) : Int) (bitAt n)) ((n : Nat) : Int) (pageOf [old])) 0 (encode 1 [(newSnap nmS 1)]).1) (newSnap nmS 1) (n : Nat) (pageOf [old]) := ⟨st_one hb_y.long, rfl, by rw [newSnap_view]; unfold upd; rw [if_neg (by omega), if_pos rfl], by rw [newSnap_view]; unfold upd; rw [if_neg (by decide), if_neg (by omega), if_pos (by decide)]; exact bit_has ⟨n, by omega⟩ (by show 2 ≤ n; omega), newSnap_only nmS 1 _⟩
          refine TT.loop (ι := Nat × Pages × Snap × Chunk) (fun j => ((j.1) : Int) ≤ times ∧ BkAt 28 b_36 (j.2.1) (j.2.2.2) ∧ One (j.2.1) (j.2.2.1) (n : Nat) (pageOf [old]) ∧ (j.2.2.1).name = nmS ∧ ((j.1) = 0 ↔ (j.2.2.1).at (n : Nat) = 0)) (fun j => times.toNat - (j.1)) (fun j => [(0, .int .i64 (n : Nat)), (1, .int .i64 times), (2, .int .u8 old.toNat), (8, .pointer (some ⟨b_36, 0, none⟩)), (11, .int .i64 ((j.1) : Nat))]) (fun j => (j.2.2.2) :: hs) (0, (upd (upd (upd (fun _ => noughts 256) ((1 : Nat) : Int) (bitAt n)) ((n : Nat) : Int) (pageOf [old])) 0 (encode 1 [(newSnap nmS 1)]).1), (newSnap nmS 1), H_z) ?_ (SubR.cons rfl (SubR.cons rfl (SubR.cons rfl (SubR.cons rfl (SubR.cons rfl (SubR.nil _)))))) sl ?_
          · dsimp only
            exact ⟨by omega, hb_z, hone, rfl, fun _ => newSnap_at .., fun _ => rfl⟩
          rintro ⟨i, Q, s, H1⟩ hI
          dsimp only at hI
          obtain ⟨hi, hB, ho, hnm, hat⟩ := hI
          show TT _ _ _ [(0, .int .i64 (n : Nat)), (1, .int .i64 times), (2, .int .u8 old.toNat), (8, .pointer (some ⟨b_36, 0, none⟩)), (11, .int .i64 (i : Nat))] (H1 :: hs)
          refine TT.seq (.seq (.region (.pures hT 3 rfl (.nil (.seq (.cond rfl (fun c78 => ?_) (fun c78 => ?_)))))))
          ·
            have c78 := of_decide_eq_true c78
            refine TT.skip (.seq (.seq (.block (.seq (.region (.pures hT 1 rfl (.mkiface Try.underlying25 rfl rfl rfl rfl (.pures hT 6 rfl ?_))))))))
            obtain ⟨x, hx⟩ := u8_is (IntKind.u8.wrap ((old.toNat : Int) + IntKind.u8.wrap ((i : Nat) : Int)) + 1)
            refine OT.reg 89 rfl (v := .int .u8 (x.toNat : Int)) (int_eq hx) ?_
            refine OT.buildSlice (enc := Go.Sx.encB) (xs := [x]) (xos := [.tmp 89]) el22 rfl rfl rfl rfl rfl (by simp [Value.cells]) (fun _ _ => rfl) rfl (by decide) rfl (fun v_90 H_90 ho_90 => ?_)
            refine OT.call Try.call21 rfl rfl rfl rfl (law9_Of ro (by simp)) ?_
            rintro v_91 hs_91 ⟨K60, rfl, ho60⟩
            have hpl : (pageOf [x]).length = 256 := pageOf_length (by simp)
            have hd := one_data (show 1 ≤ (n : Int) by omega) (show (n : Int) < 32 by omega) hpl
            obtain ⟨a60, c60, hv60⟩ := (ho60.row (hs := [])).len
            subst hv60
            refine OT.build (cs := [.int .i64 (n : Nat), .slice a60 (pageOf [x]).length c60]) hT rfl Try.zeroValue66 rfl rfl rfl rfl ?_
            refine OT.buildSlice (enc := encIm) (xs := [(⟨(n : Int), .slice a60 (pageOf [x]).length c60, pageOf [x]⟩ : Im)]) (xos := [.tmp 92]) el37 rfl rfl rfl rfl rfl (by simp [Value.cells]) (fun _ _ => rfl) rfl (by decide) rfl (fun v_93 H_93 ho_93 => ?_)
            refine OT.call Try.call14 rfl rfl rfl rfl (Fun.pull pl (cow_Expand book_Pgs hB ho.st.long ho.st.cat ho.st.good (⟨ro, fun t ht => by rw [List.mem_singleton] at ht; subst ht; exact ro, (by show 1 ≤ 9223372036854775807; omega), fun t ht => by rw [List.mem_singleton] at ht; subst ht; exact Nat.le_trans (Nat.le_of_eq hpl) (by decide)⟩ : ImsAt _ _ [⟨(n : Int), .slice a60 (pageOf [x]).length c60, pageOf [x]⟩]) hd)) ?_
            rintro v_94 hs_94 (⟨v, ts2, HI, H2, rfl, rfl, hoI, hti, hI2⟩ | ⟨_, _, _, _, hE, _⟩)
            ·
              have hti : imgs ts2 = expandC Q 1 [s] [((n : Int), pageOf [x])] := hti
              obtain ⟨hlen, t, ht1, ht2, ht3⟩ := ho.step (by omega) (by omega) hpl
              rw [← hti, imgs_length] at hlen
              have hmx := expandC_may ho.st hd
              obtain ⟨_, _, _, _, hoK, _⟩ := hoI.is
              obtain ⟨a30, c30, hv30⟩ := (hoK.row (hs := [])).len
              subst hv30
              refine OT.pures hT 5 rfl (.nil (.seq (.seq (.seq (.region (.pures hT 3 rfl (.pures hT 3 rfl (.split 102 rfl (fun g102 => ?_) (fun g102 => ?_)))))))))
              ·
                have g102 := beq_iff_eq.1 g102
                rw [if_pos (hat.1 (by omega))] at hlen
                refine OT.pures hT 6 rfl (.split 108 rfl (fun g108 => ?_) (fun g108 => ?_))
                ·
                  exact absurd hlen (by have := bne_iff_ne.1 g108; omega)
                ·
                  refine OT.pures hT 3 rfl (.split 111 rfl (fun g111 => ?_) (fun g111 => ?_))
                  ·
                    exact absurd (of_decide_eq_true g111) (by omega)
                  ·
                    refine OT.pures hT 5 rfl (.nil (.seq (.cond_false rfl (.skip (.seq (.region (.pures hT 2 rfl (.call Try.call15 rfl rfl rfl rfl (book_Lay hI2 (own_at hoI hti hmx (expandC_len ..)) (by rw [hti]; exact hmx)) ?_))))))))
                    rintro v_119 hs_119 ⟨H3, rfl, rfl, hB3⟩
                    rw [hti] at hB3
                    refine OT.nil (.blk (.seq (.region (.pures hT 3 rfl (.nil (.loop (i + 1, lay Q (expandC Q 1 [s] [((n : Int), pageOf [x])]), t, H3) ?_ ?_ (SubR.cons rfl (SubR.cons rfl (SubR.cons rfl (SubR.cons rfl (SubR.cons' rfl (by (try dsimp only); exact (int_eq (by rw [wrap_i64 (by omega) (by omega)]; omega))) (SubR.nil _)))))) sl))))))
                    · dsimp only
                      exact ⟨by omega, hB3, ht3, ht1.trans hnm, fun h => absurd h (by omega), fun h => absurd h ht2⟩
                    · dsimp only
                      omega
              ·
                have g102 := beq_eq_false_iff_ne.1 g102
                rw [if_neg (fun h => g102 (by have := hat.2 h; omega))] at hlen
                refine OT.pures hT 9 rfl (.split 111 rfl (fun g111 => ?_) (fun g111 => ?_))
                ·
                  refine OT.pures hT 5 rfl (.nil (.seq (.cond rfl (fun c116 => ?_) (fun c116 => ?_))))
                  ·
                    exact absurd hlen (by have := bne_iff_ne.1 c116; omega)
                  ·
                    refine TT.skip (.seq (.region (.pures hT 2 rfl (.call Try.call15 rfl rfl rfl rfl (book_Lay hI2 (own_at hoI hti hmx (expandC_len ..)) (by rw [hti]; exact hmx)) ?_))))
                    rintro v_119 hs_119 ⟨H3, rfl, rfl, hB3⟩
                    rw [hti] at hB3
                    refine OT.nil (.blk (.seq (.region (.pures hT 3 rfl (.nil (.loop (i + 1, lay Q (expandC Q 1 [s] [((n : Int), pageOf [x])]), t, H3) ?_ ?_ (SubR.cons rfl (SubR.cons rfl (SubR.cons rfl (SubR.cons rfl (SubR.cons' rfl (by (try dsimp only); exact (int_eq (by rw [wrap_i64 (by omega) (by omega)]; omega))) (SubR.nil _)))))) sl))))))
                    · dsimp only
                      exact ⟨by omega, hB3, ht3, ht1.trans hnm, fun h => absurd h (by omega), fun h => absurd h ht2⟩
                    · dsimp only
                      omega
                ·
                  exact absurd (of_decide_eq_false g111) (by omega)
            ·
              exact hE.elim
          ·
            have c78 := of_decide_eq_false c78
            have hsh : shownOf [s] ⟨#[115]⟩ = some s := by
              have := shown_at ho.st.good (k := 0) (s := s) rfl
              rw [hnm, ho.inv, if_neg (by simp)] at this; exact this
            have h35 := ho.st.h35 s (by simp)
            have hsd := ho.st.good.sides s (by simp)
            refine TT.exit (.seq (.loop (.here (.seq (.seq (.region (.pures hT 1 rfl (.call Try.call16 rfl rfl rfl rfl (Fun.pull pl (law21_show hB ho.st)) ?_))))))))
            rintro v_122 hs_122 ⟨rfl, cs, rfl, hcl, hco, hcs⟩
            obtain rfl := hcs _ hsh
            rw [hsh]
            refine OT.pures hT 3 rfl (.alloc Try.zeroValue47 rfl rfl (fun b_14 => ?_))
            refine OT.store_all hT rfl rfl rfl rfl pl (by exact hcl) rfl hco (.inl (Nat.le_refl _)) ?_
            refine OT.pures hT 1 rfl (.nil (.seq (.seq (.seq (.region (.pures hT 2 rfl (.nil (.seq (.cond_false rfl (.skip (.seq (.seq (.region (.load rfl rfl (Ld.struct_all hT rfl hz (by exact hcl)) rfl ?_))))))))))))))
            refine OT.pures hT 1 rfl (.call Try.call18 rfl rfl rfl rfl (Fun.pull pl (shown_Page hB h35 hsd)) ?_)
            rintro v_130 hs_130 ⟨KP, wP, rfl, rfl, hoP⟩
            rw [viewPg_ok hsd (by omega) (by omega), ho.shows] at hoP ⊢
            dsimp only at hoP
            refine OT.pures hT 5 rfl (.nil (.seq (.seq (.region (.pures hT 3 rfl (.pures hT 1 rfl (.index hT rfl rfl rfl rfl ro (by decide) (show (pageOf [old])[0]? = some old from rfl) rfl (fun ad_137 hel_137 => ?_))))))))
            refine OT.load rfl rfl (hel_137.ld_one hT rfl rfl) rfl (.pures hT 4 rfl (.nil (.seq (.ret (.of (rs := [.tmp 6]) [_] hs rfl (.tmp rfl .nil) sl ?_)))))
            dsimp only [one]
            exact ⟨congrArg Value.bool (by simp), rfl⟩

end Go.Proofs.Ytnhkgchcdbideaa.Sx
end

section
namespace Go.Proofs.Ytnhkgchcdbideaa.Sx
open Go Go.Sx Go.Pl
variable [Outer]

set_option maxHeartbeats 4000000 in
set_option maxRecDepth 100000 in
theorem cow_Revert1 {bp bn bo : Nat} {nm : ByteArray} {ti : Nat} {ui : Value} {I : Chunk → Prop} {E : Int → Chunk → Prop} {Q : Pages} {H : Chunk} {r : List Chunk} (hP : Pgs Try.prog 5 (.iface ti ui) I E (pgOf Q)) (hI : I H) (hQ : ∀ no, mayPage no → (Q no).length = 256) {n : Int} {xs : List Snap} (hdec : decodeS (Q 0) = ((n, xs), 0)) (hgc : GoodC n xs) {A : Chunk} : FunP Try.prog 48 [.pointer (some ⟨bp, 0, none⟩), .pointer (some ⟨bn, 0, none⟩), .pointer (some ⟨bo, 0, none⟩)] (A :: [(bp, blk [.iface ti ui] 94 (0, 0))] :: [(bn, blk [.string nm] 9 (0, 0))] :: [(bo, blk [.slice none 0 0] 37 (0, 0))] :: H :: r) (fun v' hs' => ∃ hs1, hs' = A :: hs1 ∧ ∃ v ts' HI H', hs1 = [(bp, blk [.iface ti ui] 94 (0, 0))] :: [(bn, blk [.string nm] 9 (0, 0))] :: [(bo, blk [v] 37 (0, 0))] :: HI :: H' :: r ∧ OwnIms 66 5 v ts' HI ∧ I H' ∧ ∃ (i : Nat) (s : Snap), findAt (named nm) 0 xs = (i : Int) ∧ xs[i]? = some s ∧ s.inv = false ∧ imgs ts' = revertC Q n xs i s) (fun v' hs' => ∃ e hs1, hs' = A :: hs1 ∧ v' = flt e ∧ e ≠ 0 ∧ ∃ H', (E e H' ∨ e = 6 ∧ findAt (named nm) 0 xs < 0 ∧ I H' ∨ e = 12 ∧ I H' ∧ ∃ (i : Nat) (s : Snap), findAt (named nm) 0 xs = (i : Int) ∧ xs[i]? = some s ∧ s.inv = true) ∧ hs1 = [(bp, blk [.iface ti ui] 94 (0, 0))] :: [(bn, blk [.string nm] 9 (0, 0))] :: [(bo, blk [.slice none 0 0] 37 (0, 0))] :: H' :: r) := by
  refine FunP.enter 81 Try.func48 rfl Try.ntmps48 rfl ?_
  have h35 := decode_35 hdec
  have h32 : ∀ s ∈ xs, s.map.length = 32 := fun s hs => map32 (h35 s hs)
  refine TT.cut (ι := Nat × Nat × Chunk × Value × Chunk × Chunk) (fun j => I (j.2.2.1) ∧ Own encSnap 35 45 (j.2.2.2.1) xs (j.2.2.2.2.1) ∧ IsMap (fun _ => none) (j.2.1) (j.2.2.2.2.2)) (fun j => [(0, .pointer (some ⟨bp, 0, none⟩)), (1, .pointer (some ⟨bn, 0, none⟩)), (2, .pointer (some ⟨bo, 0, none⟩)), (3, .pointer (some ⟨(j.1), 0, none⟩))]) (fun j => A :: [(bp, blk [.iface ti ui] 94 (0, 0))] :: [(bn, blk [.string nm] 9 (0, 0))] :: [(bo, blk [.slice none 0 0] 37 (0, 0))] :: [((j.1), blk [.iface ti ui, .int .i64 n, ((j.2.2.2.1)), (.map (some (j.2.1)))] 100 (0, 0))] :: (j.2.2.2.2.1) :: (j.2.2.2.2.2) :: (j.2.2.1) :: r) ?_ ?_
  ·
    refine TT.draw (([(bp, blk [.iface ti ui] 94 (0, 0))] :: r)) mixed (.take (fuel := 6) hT 0 rfl rfl kr kr kr rfl (.load rfl (Ld.one hT rfl hz rfl)) rfl ?_)
    refine AT.take (fuel := 5) hT 1 rfl rfl kr kr kr rfl (.load rfl (Ld.one hT rfl hz rfl)) rfl ?_
    refine AT.all (fuel := 4) [2, 3] kr (by decide) sl ?_
    intro i hi
    simp only [List.mem_cons, List.not_mem_nil, or_false] at hi
    rcases hi with rfl | rfl
    ·
      refine ⟨_, rfl, ?_⟩
      refine OT.callP Try.call43 rfl rfl rfl rfl (FunP.pull pl (cow_read hP hI hdec (hQ 0 (by unfold mayPage; omega)))) (fun _ _ h => by
        obtain ⟨e, H', rfl, h1, h2, rfl⟩ := h
        exact PP.of ⟨e, _, rfl, rfl, h1, H', .inl h2, rfl⟩ sl) ?_
      rintro v_10 hs_10 ⟨H1, v1, HS, rfl, rfl, hoS, hI1⟩
      obtain ⟨a1, c1, hv1⟩ := (hoS.row (hs := [])).len
      subst hv1
      refine OT.nil (.any (.op (fuel := 3) 3 kr rfl sl (.makeMap rfl rfl (fun b_11 H_11 ho_11 => ?_))))
      refine OT.nil (.any (.op (fuel := 2) 4 kr rfl sl (.build (cs := [.iface ti ui, .int .i64 n, .slice a1 xs.length c1, .map (some b_11)]) hT rfl Try.zeroValue100 rfl rfl rfl rfl (.nil (.any (.op (fuel := 1) 5 kr rfl sl (.box rfl rfl rfl (fun b_13 => ?_))))))))
      refine OT.nil (.any (.takes (fuel := 0) hT [6] kr kr rfl (.done kr sl (.cut (b_13, b_11, H1, _, HS, H_11) ?_ (SubR.cons rfl (SubR.cons rfl (SubR.cons rfl (SubR.cons rfl (SubR.nil _))))) sl))))
      · dsimp only
        exact ⟨hI1, hoS, ho_11⟩
    ·
      refine ⟨_, rfl, ?_⟩
      refine OT.makeMap rfl rfl (fun b_11 H_11 ho_11 => ?_)
      refine OT.nil (.any (.op (fuel := 3) 2 kr rfl sl ?_))
      refine OT.callP Try.call43 rfl rfl rfl rfl (FunP.pull pl (cow_read hP hI hdec (hQ 0 (by unfold mayPage; omega)))) (fun _ _ h => by
        obtain ⟨e, H', rfl, h1, h2, rfl⟩ := h
        exact PP.of ⟨e, _, rfl, rfl, h1, H', .inl h2, rfl⟩ sl) ?_
      rintro v_10 hs_10 ⟨H1, v1, HS, rfl, rfl, hoS, hI1⟩
      obtain ⟨a1, c1, hv1⟩ := (hoS.row (hs := [])).len
      subst hv1
      refine OT.nil (.any (.op (fuel := 2) 4 kr rfl sl (.build (cs := [.iface ti ui, .int .i64 n, .slice a1 xs.length c1, .map (some b_11)]) hT rfl Try.zeroValue100 rfl rfl rfl rfl (.nil (.any (.op (fuel := 1) 5 kr rfl sl (.box rfl rfl rfl (fun b_13 => ?_))))))))
      refine OT.nil (.any (.takes (fuel := 0) hT [6] kr kr rfl (.done kr sl (.cut (b_13, b_11, H1, _, HS, H_11) ?_ (SubR.cons rfl (SubR.cons rfl (SubR.cons rfl (SubR.cons rfl (SubR.nil _))))) sl))))
      · dsimp only
        exact ⟨hI1, hoS, ho_11⟩
  ·
    rintro ⟨bx, mb, H1, v1, HS, HM⟩ hI
    dsimp only at hI
    obtain ⟨hI1, hoS, hM⟩ := hI
    show TT _ _ _ [(0, .pointer (some ⟨bp, 0, none⟩)), (1, .pointer (some ⟨bn, 0, none⟩)), (2, .pointer (some ⟨bo, 0, none⟩)), (3, .pointer (some ⟨bx, 0, none⟩))] (A :: [(bp, blk [.iface ti ui] 94 (0, 0))] :: [(bn, blk [.string nm] 9 (0, 0))] :: [(bo, blk [.slice none 0 0] 37 (0, 0))] :: [(bx, blk [.iface ti ui, .int .i64 n, (v1), (.map (some mb))] 100 (0, 0))] :: HS :: HM :: H1 :: r)
    obtain ⟨a1, c1, hv1⟩ := (hoS.row (hs := [])).len
    subst hv1
    refine TT.seq (.draw (([(bx, blk [.iface ti ui, .int .i64 n, (.slice a1 xs.length c1), (.map (some mb))] 100 (0, 0))] :: [(bn, blk [.string nm] 9 (0, 0))] :: HS :: r)) mixed (.takes (fuel := 4) hT [0, 1, 2] kr kr rfl (.take (fuel := 3) hT 3 rfl rfl kr kr kr rfl (.load rfl (Ld.struct hT rfl hz rfl rfl)) rfl ?_)))
    refine AT.take (fuel := 2) hT 4 rfl rfl kr kr kr rfl (.load rfl (Ld.one hT rfl hz rfl)) rfl ?_
    refine AT.op (fuel := 1) 5 kr rfl sl (.call Try.call31 rfl rfl rfl rfl (cat_Find (next := n) ro (Nat.le_trans hgc.few (by decide))) ?_)
    rintro v_19 hs_19 ⟨rfl, rfl⟩
    refine OT.nil (.any (.takes (fuel := 0) hT [6] kr kr rfl (.done kr sl (.seq (.seq (.region (.pures hT 2 rfl ?_)))))))
    refine OT.callP Try.call49 rfl rfl rfl rfl (guard_CheckB) (fun _ _ h => by
      obtain ⟨hb, rfl, rfl⟩ := h
      have hb := of_decide_eq_false hb
      exact PP.of ⟨6, _, rfl, by rw [brk_same (by decide)], by decide, H1, .inr (.inl ⟨rfl, by omega, hI1⟩), rfl⟩ sl) ?_
    rintro v_22 hs_22 ⟨hb, rfl, rfl⟩
    have hb : 0 ≤ findAt (named nm) 0 xs := of_decide_eq_true hb
    obtain ⟨i, hfi⟩ : ∃ i : Nat, findAt (named nm) 0 xs = i := ⟨(findAt (named nm) 0 xs).toNat, by omega⟩
    have hfl := (findAt_lt (named nm) xs 0).1
    obtain ⟨s, hs⟩ := nth (l := xs) (i := i) (by omega)
    have h35s := h35 s (List.mem_of_getElem? hs)
    have h32s := map32 h35s
    have hss := hgc.sides s (List.mem_of_getElem? hs)
    have hil : i < xs.length := (List.getElem?_eq_some_iff.1 hs).1
    have hxl := hgc.few
    refine OT.reg 4 rfl (int_eq hfi) (.nil (.seq (.seq (.region (.pures hT 4 rfl (.load rfl rfl (Ld.slc hT rfl hz rfl) rfl ?_))))))
    refine OT.pures hT 1 rfl (.index hT rfl rfl rfl rfl ro (by omega) (by rw [Int.toNat_natCast]; exact hs) rfl (fun ad_29 hel_29 => ?_))
    refine OT.load rfl rfl (hel_29.ld_struct hT rfl) rfl (.alloc Try.zeroValue45 rfl rfl (fun b_5 => ?_))
    refine OT.store_all hT rfl rfl rfl rfl pl (by exact h35s) rfl (ones_snap s) (.inl (Nat.le_refl _)) ?_
    refine OT.nil (.seq (.seq (.region (.pures hT 1 rfl (.load rfl rfl (Ld.one hT rfl hz rfl) rfl ?_)))))
    refine OT.pures hT 1 rfl ?_
    refine OT.callP Try.call49 rfl rfl rfl rfl (guard_CheckB) (fun _ _ h => by
      obtain ⟨hb2, rfl, rfl⟩ := h
      exact PP.of ⟨12, _, rfl, by rw [brk_same (by decide)], by decide, H1, .inr (.inr ⟨rfl, hI1, i, s, hfi, hs, by simpa using hb2⟩), rfl⟩ sl) ?_
    rintro v_34 hs_34 ⟨hb2, rfl, rfl⟩
    have hinv : s.inv = false := by simpa using hb2
    refine OT.nil (.seq (.seq (.region (.pures hT 5 rfl (.load rfl rfl (Ld.slc hT rfl hz rfl) rfl ?_)))))
    refine OT.pures hT 2 rfl (.reg 42 rfl (v := .int .i64 ((i + 1 : Nat) : Int)) (int_eq (by rw [wrap_i64 (by omega) (by omega)]; omega)) (.slice_to (i + 1) hT rfl rfl rfl rfl hoS (by omega) rfl (fun ho_43 => ?_)))
    refine OT.pures hT 3 rfl (.store hT rfl rfl rfl rfl pl rfl (Nat.le_of_ble_eq_true rfl) rfl (.inl (Nat.le_refl _)) rfl ?_)
    refine OT.nil (.seq (.seq (.seq (.region (.pures hT 1 rfl (.nil (.seq (.block (.loop (ι := Nat × (Int → Option Value) × Chunk × Chunk × Chunk) (fun j => 1 ≤ (j.1) ∧ (j.1) ≤ 32 ∧ IsMap (j.2.1) mb (j.2.2.1) ∧ MapRow ((j.2.2.2.1) :: A :: [(bp, blk [.iface ti ui] 94 (0, 0))] :: [(bn, blk [.string nm] 9 (0, 0))] :: [(bo, blk [.slice none 0 0] 37 (0, 0))] :: r) (j.2.1) (backTo Q s (j.1)) ∧ I (j.2.2.2.2)) (fun j => 32 - (j.1)) (fun j => [(0, .pointer (some ⟨bp, 0, none⟩)), (2, .pointer (some ⟨bo, 0, none⟩)), (3, .pointer (some ⟨bx, 0, none⟩)), (5, .pointer (some ⟨b_5, 0, none⟩)), (6, .int .i64 ((j.1) : Nat))]) (fun j => [(bx, blk [.iface ti ui, .int .i64 n, (.slice a1 (i + 1) c1), (.map (some mb))] 100 (0, 0))] :: HS :: (j.2.2.1) :: (j.2.2.2.1) :: (j.2.2.2.2) :: [(b_5, blk (encSnap s) 45 (0, 0))] :: A :: [(bp, blk [.iface ti ui] 94 (0, 0))] :: [(bn, blk [.string nm] 9 (0, 0))] :: [(bo, blk [.slice none 0 0] 37 (0, 0))] :: r) (1, (fun _ => none), HM, [], H1) ?_ (SubR.cons rfl (SubR.cons rfl (SubR.cons rfl (SubR.cons rfl (SubR.cons rfl (SubR.nil _)))))) sl ?_)))))))))
    · dsimp only
      exact ⟨by omega, by omega, hM, (MapRow.empty _), hI1⟩
    rintro ⟨no, m, HM1, G1, H2⟩ hI
    dsimp only at hI
    obtain ⟨hno, hno2, hM1, hc1, hI2⟩ := hI
    show TT _ _ _ [(0, .pointer (some ⟨bp, 0, none⟩)), (2, .pointer (some ⟨bo, 0, none⟩)), (3, .pointer (some ⟨bx, 0, none⟩)), (5, .pointer (some ⟨b_5, 0, none⟩)), (6, .int .i64 (no : Nat))] ([(bx, blk [.iface ti ui, .int .i64 n, (.slice a1 (i + 1) c1), (.map (some mb))] 100 (0, 0))] :: HS :: HM1 :: G1 :: H2 :: [(b_5, blk (encSnap s) 45 (0, 0))] :: A :: [(bp, blk [.iface ti ui] 94 (0, 0))] :: [(bn, blk [.string nm] 9 (0, 0))] :: [(bo, blk [.slice none 0 0] 37 (0, 0))] :: r)
    refine TT.seq (.seq (.region (.pures hT 2 rfl (.nil (.seq (.cond rfl (fun c48 => ?_) (fun c48 => ?_)))))))
    ·
      have c48 := of_decide_eq_true c48
      obtain ⟨x, hx⟩ := nth (l := s.map) (i := no) (by omega)
      have hxs := hss x (List.mem_of_getElem? hx)
      refine TT.skip (.seq (.seq (.block (.seq (.seq (.region (.pures hT 2 rfl (.index_at hT rfl rfl rfl rfl (by omega) (by omega) rfl (.load rfl rfl (Ld.one hT rfl hz (snap_at hx)) rfl ?_)))))))))
      refine OT.pures hT 1 rfl (.nil (.seq (.cond rfl (fun c55 => ?_) (fun c55 => ?_))))
      ·
        have c55 := beq_iff_eq.1 c55
        refine TT.exit (.seq (.here (.seq (.region (.pures hT 3 rfl (.nil (.loop (no + 1, m, HM1, G1, H2) ?_ ?_ (SubR.cons rfl (SubR.cons rfl (SubR.cons rfl (SubR.cons rfl (SubR.cons' rfl (by (try dsimp only); exact (int_eq (by rw [wrap_i64 (by omega) (by omega)]; omega))) (SubR.nil _)))))) sl)))))))
        · dsimp only
          refine ⟨by omega, by omega, hM1, ?_, hI2⟩
          rw [backTo_succ, Snap.at_some hx, if_pos (.inr (.inl c55))]
          exact hc1
        · dsimp only
          omega
      ·
        have c55 := beq_eq_false_iff_ne.1 c55
        refine TT.skip (.seq (.seq (.draw (([(b_5, blk (encSnap s) 45 (0, 0))] :: [(bp, blk [.iface ti ui] 94 (0, 0))] :: r)) mixed (.takes (fuel := 5) hT [1, 2] kr kr rfl (.take (fuel := 4) hT 0 rfl rfl kr kr kr rfl (.load rfl (Ld.one hT rfl hz rfl)) rfl ?_)))))
        refine AT.index_at (fuel := 3) hT 3 rfl kr kr kr rfl rfl rfl rfl (by omega) (by omega) rfl (.take (fuel := 2) hT 4 rfl rfl kr kr kr rfl (.load rfl (Ld.one hT rfl hz (snap_at hx))) rfl ?_)
        refine AT.op (fuel := 1) 5 kr rfl sl ?_
        refine OT.callP Try.call50 rfl rfl rfl rfl (FunP.pull pl (cow_page hP hI2 (no := x) (by unfold mayPage; omega))) (fun _ _ h => by
          obtain ⟨e, H', rfl, h1, h2, rfl⟩ := h
          exact PP.of ⟨e, _, rfl, rfl, h1, H', .inl h2, rfl⟩ sl) ?_
        rintro v_61 hs_61 ⟨H5, K5, rfl, ho5, hI5⟩
        refine OT.nil (.any (.takes (fuel := 0) hT [6] kr kr rfl (.done kr sl (.seq (.seq (.draw ((K5 :: [(bp, blk [.iface ti ui] 94 (0, 0))] :: r)) mixed (.takes (fuel := 5) hT [0, 3] kr kr rfl (.take (fuel := 4) hT 2 rfl rfl kr kr kr rfl (.load rfl (Ld.one hT rfl hz rfl)) rfl ?_))))))))
        refine AT.conv (fuel := 3) 1 rfl kr kr kr hT rfl rfl rfl rfl rfl ho5.row rfl (.op (fuel := 2) 4 kr rfl sl ?_)
        refine OT.callP Try.call50 rfl rfl rfl rfl (FunP.pull pl (cow_page hP hI5 (no := (no : Nat)) (by unfold mayPage; omega))) (fun _ _ h => by
          obtain ⟨e, H', rfl, h1, h2, rfl⟩ := h
          exact PP.of ⟨e, _, rfl, rfl, h1, H', .inl h2, rfl⟩ sl) ?_
        rintro v_66 hs_66 ⟨H6, K6, rfl, ho6, hI6⟩
        refine OT.nil (.any (.op (fuel := 1) 5 kr rfl sl (.conv_bs (fun _ => rfl) hT rfl rfl rfl rfl rfl ro rfl ?_)))
        refine OT.nil (.any (.takes (fuel := 0) hT [6] kr kr rfl (.done kr sl (.seq (.cond rfl (fun c68 => ?_) (fun c68 => ?_))))))
        ·
          have c68 : ¬ Q x = Q (no : Nat) := fun e => by rw [e] at c68; simp at c68
          refine TT.region (.pures hT 3 rfl (.load rfl rfl (Ld.one hT rfl hz rfl) rfl ?_))
          refine OT.pures hT 2 rfl (.mapUpdate mapT rfl rfl rfl rfl pl hM1 (fun H_u ho_u => ?_))
          refine OT.nil (.blk (.seq (.region (.pures hT 3 rfl (.nil (.loop (no + 1, (fun z => if z = (no : Int) then some v_61 else m z), H_u, G1 ++ K5, H6) ?_ ?_ (SubR.cons rfl (SubR.cons rfl (SubR.cons rfl (SubR.cons rfl (SubR.cons' rfl (by (try dsimp only); exact (int_eq (by rw [wrap_i64 (by omega) (by omega)]; omega))) (SubR.nil _)))))) sl))))))
          · dsimp only
            refine ⟨by omega, by omega, ho_u, ?_, hI6⟩
            rw [backTo_succ, Snap.at_some hx, if_neg (fun h => by rcases h with h | h | h; omega; exact c55 h; exact c68 h)]
            exact hc1.grow.put (Row.last ho5.row)
          · dsimp only
            omega
        ·
          have c68 : Q x = Q (no : Nat) := by simpa using c68
          refine TT.skip (.blk (.seq (.region (.pures hT 3 rfl (.nil (.loop (no + 1, m, HM1, G1, H6) ?_ ?_ (SubR.cons rfl (SubR.cons rfl (SubR.cons rfl (SubR.cons rfl (SubR.cons' rfl (by (try dsimp only); exact (int_eq (by rw [wrap_i64 (by omega) (by omega)]; omega))) (SubR.nil _)))))) sl))))))
          · dsimp only
            refine ⟨by omega, by omega, hM1, ?_, hI6⟩
            rw [backTo_succ, Snap.at_some hx, if_pos (.inr (.inr c68))]
            exact hc1
          · dsimp only
            omega
    ·
      have c48 := of_decide_eq_false c48
      obtain rfl : no = 32 := by omega
      refine TT.exit (.seq (.loop (.here (.seq (.seq (.region (.pures hT 2 rfl (.load rfl rfl (Ld.one hT rfl hz rfl) rfl ?_))))))))
      refine OT.callP Try.call44 rfl rfl rfl rfl (FunP.weaken (sl (hs' := [(bx, blk [.iface ti ui, .int .i64 n, (.slice a1 (i + 1) c1), (.map (some mb))] 100 (0, 0))] :: HS :: HM1 :: G1 :: H2 :: A :: [(bp, blk [.iface ti ui] 94 (0, 0))] :: [(bn, blk [.string nm] 9 (0, 0))] :: [(bo, blk [.slice none 0 0] 37 (0, 0))] :: r)) (cow_expand (but := s.id) (r := A :: [(bp, blk [.iface ti ui] 94 (0, 0))] :: [(bn, blk [.string nm] 9 (0, 0))] :: [(bo, blk [.slice none 0 0] 37 (0, 0))] :: r) hP hI2 hQ hdec (Nat.le_trans hgc.few (by decide)) ho_43 (by rw [List.length_take]; omega) (hgc.take (i + 1)).sides hM1 hc1 (expandS_found (hgc.take (i + 1)) (fun s hs => h32 s (List.mem_of_mem_take hs)) (nosOf_nodup _) (fun s hs => List.mem_of_mem_take hs)) (may_iff.2 (expandS_good (hgc.take (i + 1)) (fun s hs => h32 s (List.mem_of_mem_take hs)) (nosOf_nodup _)).1))) (fun _ _ h => by
        obtain ⟨e, H', rfl, h1, h2, rfl⟩ := h
        exact PP.of ⟨e, _, rfl, rfl, h1, H', .inl h2, rfl⟩ sl) ?_
      rintro v_78 hs_78 ⟨v2, HS2, m2, HM2, G2, H7, rfl, rfl, hM2, hc2, hI7⟩
      refine OT.nil (.seq (.region (.pures hT 1 rfl (.call Try.call45 rfl rfl rfl rfl (Fun.weaken (sl (hs' := [(bx, blk [.iface ti ui, .int .i64 n, (v2), (.map (some mb))] 100 (0, 0))] :: HM2 :: G2 :: A :: [(bp, blk [.iface ti ui] 94 (0, 0))] :: [(bn, blk [.string nm] 9 (0, 0))] :: [(bo, blk [.slice none 0 0] 37 (0, 0))] :: HS2 :: H7 :: r)) (cow_images hM2 (hc2.mono fun b o hb => Has.sel sl hb) (fun no b e => by have hg := expandS_good (Q := Q) (but := s.id) (hgc.take (i + 1)) (fun s hs => h32 s (List.mem_of_mem_take hs)) (nosOf_nodup (backTo Q s 32)); have := expandM_len (was := xs) hQ (fun t ht => len35.2 (hg.2.len32 (fun s hs => h32 s (List.mem_of_mem_take hs)) t ht)) (may_iff.2 hg.1) (backTo_len hQ hss 32) no b e; omega))) ?_))))
      rintro v_80 hs_80 ⟨ts2, HI, rfl, hoI, hti⟩
      obtain ⟨_, _, _, _, hoK, _⟩ := hoI.is
      obtain ⟨a30, c30, hv30⟩ := (hoK.row (hs := [])).len
      subst hv30
      refine OT.store hT rfl rfl rfl rfl pl rfl (Nat.le_of_ble_eq_true rfl) rfl (.inl (Nat.le_refl _)) rfl ?_
      refine OT.nil (.ofP (rs := []) [] (A :: [(bp, blk [.iface ti ui] 94 (0, 0))] :: [(bn, blk [.string nm] 9 (0, 0))] :: [(bo, blk [.slice a30 ts2.length c30] 37 (0, 0))] :: HI :: H7 :: r) rfl .nil sl ?_)
      try dsimp only [one]
      exact ⟨_, rfl, _, ts2, HI, H7, rfl, hoI, hI7, i, s, hfi, hs, hinv, hti⟩

set_option maxHeartbeats 1000000 in
set_option maxRecDepth 100000 in
theorem cow_Revert {nm : ByteArray} {ti : Nat} {ui : Value} {I : Chunk → Prop} {E : Int → Chunk → Prop} {Q : Pages} {H : Chunk} {r : List Chunk} (hP : Pgs Try.prog 5 (.iface ti ui) I E (pgOf Q)) (hI : I H) (hQ : ∀ no, mayPage no → (Q no).length = 256) {n : Int} {xs : List Snap} (hdec : decodeS (Q 0) = ((n, xs), 0)) (hgc : GoodC n xs) : Fun Try.prog 22 [(.iface ti ui), .string nm] (H :: r) (fun v' hs' => (∃ v ts' HI H', v' = .tuple ⟨[v, .int .i64 0]⟩ ∧ hs' = H' :: HI :: r ∧ OwnIms 66 5 v ts' HI ∧ I H' ∧ ∃ (i : Nat) (s : Snap), findAt (named nm) 0 xs = (i : Int) ∧ xs[i]? = some s ∧ s.inv = false ∧ imgs ts' = revertC Q n xs i s) ∨ ∃ e H', v' = .tuple ⟨[.slice none 0 0, .int .i64 e]⟩ ∧ e ≠ 0 ∧ (E e H' ∨ e = 6 ∧ findAt (named nm) 0 xs < 0 ∧ I H' ∨ e = 12 ∧ I H' ∧ ∃ (i : Nat) (s : Snap), findAt (named nm) 0 xs = (i : Int) ∧ xs[i]? = some s ∧ s.inv = true) ∧ hs' = H' :: r) := by
  refine Fun.enter 10 Try.func22 rfl Try.ntmps22 rfl ?_
  refine TT.seq (.region (.box rfl rfl rfl (fun b_2 => ?_)))
  refine OT.box rfl rfl rfl (fun b_3 => ?_)
  refine OT.alloc Try.zeroValue37 rfl rfl (fun b_4 => ?_)
  refine OT.pures hT 1 rfl (.nil (.seq (.seq (.region (.pures hT 1 rfl (.call Try.call41 rfl rfl rfl rfl (Fun.weaken (sl (hs' := [(b_2, blk [.iface ti ui] 94 (0, 0))] :: [(b_3, blk [.string nm] 9 (0, 0))] :: [(b_4, blk [.slice none 0 0] 37 (0, 0))] :: H :: r)) (guard_Try (N := (fun _ hs1 => ∃ v ts' HI H', hs1 = [(b_2, blk [.iface ti ui] 94 (0, 0))] :: [(b_3, blk [.string nm] 9 (0, 0))] :: [(b_4, blk [v] 37 (0, 0))] :: HI :: H' :: r ∧ OwnIms 66 5 v ts' HI ∧ I H' ∧ ∃ (i : Nat) (s : Snap), findAt (named nm) 0 xs = (i : Int) ∧ xs[i]? = some s ∧ s.inv = false ∧ imgs ts' = revertC Q n xs i s)) (E := (fun e hs1 => e ≠ 0 ∧ ∃ H', (E e H' ∨ e = 6 ∧ findAt (named nm) 0 xs < 0 ∧ I H' ∨ e = 12 ∧ I H' ∧ ∃ (i : Nat) (s : Snap), findAt (named nm) 0 xs = (i : Int) ∧ xs[i]? = some s ∧ s.inv = true) ∧ hs1 = [(b_2, blk [.iface ti ui] 94 (0, 0))] :: [(b_3, blk [.string nm] 9 (0, 0))] :: [(b_4, blk [.slice none 0 0] 37 (0, 0))] :: H' :: r)) (g := 48) Try.call48 (fun A => (cow_Revert1 hP hI hQ hdec hgc).mono (fun v hs' h => by obtain ⟨hs1, e, h⟩ := h; exact ⟨hs1, e, h⟩) fun v hs' h => by obtain ⟨e, hs1, h1, h2, h3, h4⟩ := h; exact ⟨e, hs1, h1, h2, h3, h4⟩))) ?_))))))
  rintro v_7 hs_7 (⟨rfl, v, v2, ts2, HI, H2, rfl, hoI, hI2, hres⟩ | ⟨e, rfl, he, H2, hE2, rfl⟩)
  ·
    obtain ⟨_, _, _, _, hoK, _⟩ := hoI.is
    obtain ⟨a30, c30, hv30⟩ := (hoK.row (hs := [])).len
    subst hv30
    refine OT.pures hT 1 rfl (.nil (.seq (.seq (.region (.load rfl rfl (Ld.slc hT rfl hz rfl) rfl ?_)))))
    refine OT.pures hT 1 rfl (.store_all hT rfl rfl rfl rfl pl rfl rfl rfl (.inl (Nat.le_refl _)) ?_)
    refine OT.pures hT 1 rfl (.nil (.seq (.ret (.of (rs := [.cell 4 37, .tmp 5]) [_, _] (H2 :: HI :: r) rfl (.cell rfl (Ld.slc hT rfl hz rfl) (.tmp rfl .nil)) sl ?_))))
    dsimp only [one]
    exact .inl ⟨_, ts2, HI, H2, rfl, rfl, hoI, hI2, hres⟩
  ·
    refine OT.pures hT 1 rfl (.nil (.seq (.seq (.region (.load rfl rfl (Ld.slc hT rfl hz rfl) rfl ?_)))))
    refine OT.pures hT 1 rfl (.store_all hT rfl rfl rfl rfl pl rfl rfl rfl (.inl (Nat.le_refl _)) ?_)
    refine OT.pures hT 1 rfl (.nil (.seq (.ret (.of (rs := [.cell 4 37, .tmp 5]) [_, _] (H2 :: r) rfl (.cell rfl (Ld.slc hT rfl hz rfl) (.tmp rfl .nil)) sl ?_))))
    dsimp only [one]
    exact .inr ⟨e, H2, rfl, he, hE2, rfl⟩

end Go.Proofs.Ytnhkgchcdbideaa.Sx
end

section
namespace Go.Proofs.Ytnhkgchcdbideaa.Sx
open Go Go.Sx Go.Pl
variable [Outer]

omit [Outer] in
theorem old_new : pageOf [111, 108, 100] ≠ pageOf [110, 101, 119] := by decide +kernel
omit [Outer] in
theorem bit4 : hasB (pageOf [4]) 2 = true := by decide +kernel

set_option maxHeartbeats 8000000 in
set_option maxRecDepth 100000 in
theorem law21_begun {hs : List Chunk} : Fun Try.prog 10 [] hs (fun v' hs' => v' = .bool true ∧ hs = hs') := by
  refine Fun.enter 134 Try.func10 rfl Try.ntmps10 rfl ?_
  have hp4 : (pageOf [4]).length = 256 := pageOf_length (by simp)
  have hpo : (pageOf [111, 108, 100]).length = 256 := pageOf_length (by simp)
  have hpn : (pageOf [110, 101, 119]).length = 256 := pageOf_length (by simp)
  refine TT.seq (.region (.pures hT 1 rfl (.nil (.seq (.seq (.region (.build (cs := bkCells (List.replicate 96 (.slice none 0 0))) hT rfl Try.zeroValue28 rfl rfl kr rfl (.box rfl rfl rfl (fun b_17 => ?_)))))))))
  refine OT.pures hT 1 rfl (.nil (.seq (.seq (.draw (hs) mixed (.takes (fuel := 4) hT [0, 3, 4] kr kr rfl (.op (fuel := 3) 1 kr rfl sl ?_))))))
  have hB0 : BkAt 28 b_17 (fun _ => noughts 256) [(b_17, blk (bkCells (List.replicate 96 (.slice none 0 0))) 28 (0, 0))] := BkAt.one (Slots.zero [[]])
  show OT _ _ _ _ _ ([(b_17, blk (bkCells (List.replicate 96 (.slice none 0 0))) 28 (0, 0))] :: hs)
  generalize ([(b_17, blk (bkCells (List.replicate 96 (.slice none 0 0))) 28 (0, 0))] : Chunk) = HB at hB0 ⊢
  refine OT.buildSlice (enc := Go.Sx.encB) (xs := [(4 : UInt8)]) (xos := [.const (.int .u8 (4))]) el22 rfl rfl rfl rfl rfl (by simp [Value.cells]) (fun _ _ => rfl) rfl (by decide) rfl (fun v_19 H_19 ho_19 => ?_)
  refine OT.nil (.any (.op (fuel := 2) 2 kr rfl sl (.call Try.call21 rfl rfl rfl rfl (law9_Of ro (by simp)) ?_)))
  rintro v_20 hs_20 ⟨K20, rfl, ho20⟩
  refine OT.nil (.any (.index_at (fuel := 1) hT 5 rfl kr kr kr rfl rfl rfl rfl (by omega) (by decide) rfl (.op (fuel := 0) 6 kr rfl sl (.bk_store (no := 1) hT rfl rfl rfl rfl pl hB0 pl ho20 hp4 rfl (by decide) (fun H_x hb_x ht_x => ?_)))))
  refine OT.nil (.any (.done kr sl (.seq (.seq (.draw (hs) mixed (.takes (fuel := 5) hT [0, 4, 5] kr kr rfl (.op (fuel := 4) 1 kr rfl sl (.buildSlice_raw (enc := Go.Sx.encB) (xs := ([111, 108, 100] : List UInt8)) (xos := [.const (.int .u8 (111)), .const (.int .u8 (108)), .const (.int .u8 (100))]) el22 rfl rfl rfl rfl rfl (by simp [Value.cells]) (fun _ _ => rfl) rfl (by decide) rfl (fun b_25 => ?_)))))))))
  refine OT.nil (.any (.op (fuel := 3) 2 kr rfl sl (.conv_same hT rfl rfl rfl rfl pl rfl ?_)))
  have ho_25 : Own Go.Sx.encB 1 5 (.slice (some ⟨b_25, 0, none⟩) 3 3) [111, 108, 100] [(b_25, blk (([111, 108, 100] : List UInt8).flatMap Go.Sx.encB) 5 ((([111, 108, 100] : List UInt8).flatMap Go.Sx.encB).length, (([111, 108, 100] : List UInt8).flatMap Go.Sx.encB).length + 1))] := Own.marked (e := 5) (fun _ _ => rfl) rfl
  refine OT.nil (.any (.op (fuel := 2) 3 kr rfl sl (.call Try.call21 rfl rfl rfl rfl (law9_Of ro (by simp)) ?_)))
  rintro v_27 hs_27 ⟨K27, rfl, ho27⟩
  refine OT.nil (.any (.index_at (fuel := 1) hT 6 rfl kr kr kr rfl rfl rfl rfl (by omega) (by decide) rfl (.op (fuel := 0) 7 kr rfl sl (.bk_store (no := 2) hT rfl rfl rfl rfl pl hb_x pl ho27 hpo rfl (by decide) (fun H_y hb_y ht_y => ?_)))))
  refine OT.nil (.any (.done kr sl (.seq (.seq (.region (.build (cs := [.int .i64 0, .slice none 0 0]) hT rfl Try.zeroValue31 rfl rfl rfl rfl (.call Try.call11 rfl rfl rfl rfl (cat_Add (next := 0) (xs := []) Row.nil (by simp) (by decide)) ?_)))))))
  rintro v_33 hs_33 ⟨wS, HS, rfl, rfl, hoS⟩
  rw [show addC 0 [] ⟨#[115]⟩ = _ from addS] at hoS ⊢
  dsimp only at hoS
  obtain ⟨aS, cS, hvS⟩ := (hoS.row (hs := [])).len
  subst hvS
  refine OT.pures hT 3 rfl (.alloc Try.zeroValue31 rfl rfl (fun b_2 => ?_))
  refine OT.store_all hT rfl rfl rfl rfl pl rfl rfl rfl (.inl (Nat.le_refl _)) ?_
  refine OT.pures hT 1 rfl (.nil (.seq (.seq (.draw (([(b_2, blk [.int .i64 1, .slice aS [(newSnap nmS 1)].length cS] 31 (0, 0))] :: HS :: hs)) mixed (.takes (fuel := 7) hT [0, 6, 7] kr kr rfl (.take (fuel := 6) hT 1 rfl rfl kr kr kr rfl (.load rfl (Ld.struct_all hT rfl hz rfl)) rfl ?_))))))
  refine AT.op (fuel := 5) 2 kr rfl sl (.call Try.call12 rfl rfl rfl rfl (cat_Encode ro (by simp)) ?_)
  rintro v_39 hs_39 ⟨wE, HE, rfl, rfl, hoE⟩
  refine OT.nil (.any (.takes (fuel := 2) hT [3, 4, 5] kr kr rfl (.index_at (fuel := 1) hT 8 rfl kr kr kr rfl rfl rfl rfl (by omega) (by decide) rfl (.op (fuel := 0) 9 kr rfl sl (.bk_store (no := 0) hT rfl rfl rfl rfl pl hb_y pl hoE encS_len rfl (by decide) (fun H_z hb_z ht_z => ?_))))))
  refine OT.nil (.any (.done kr sl (.seq (.seq (.region (.pures hT 1 rfl (.mkiface Try.underlying25 rfl rfl rfl rfl ?_)))))))
  have hone : One (upd (upd (upd (fun _ => noughts 256) ((1 : Nat) : Int) (pageOf [4])) ((2 : Nat) : Int) (pageOf [111, 108, 100])) ((0 : Nat) : Int) (encode 1 [(newSnap nmS 1)]).1) (newSnap nmS 1) 2 (pageOf [111, 108, 100]) := ⟨st_one hb_y.long, rfl, by rw [newSnap_view]; unfold upd; rw [if_neg (by decide), if_pos (by decide)], by rw [newSnap_view]; unfold upd; rw [if_neg (by decide), if_neg (by decide), if_pos (by decide)]; exact bit4, newSnap_only nmS 1 _⟩
  have hd := one_data (show (1 : Int) ≤ 2 by decide) (show (2 : Int) < 32 by decide) hpn
  refine OT.buildSlice_raw (enc := Go.Sx.encB) (xs := ([110, 101, 119] : List UInt8)) (xos := [.const (.int .u8 (110)), .const (.int .u8 (101)), .const (.int .u8 (119))]) el22 rfl rfl rfl rfl rfl (by simp [Value.cells]) (fun _ _ => rfl) rfl (by decide) rfl (fun b_48 => ?_)
  refine OT.conv_same hT rfl rfl rfl rfl pl rfl ?_
  have ho_48 : Own Go.Sx.encB 1 5 (.slice (some ⟨b_48, 0, none⟩) 3 3) [110, 101, 119] [(b_48, blk (([110, 101, 119] : List UInt8).flatMap Go.Sx.encB) 5 ((([110, 101, 119] : List UInt8).flatMap Go.Sx.encB).length, (([110, 101, 119] : List UInt8).flatMap Go.Sx.encB).length + 1))] := Own.marked (e := 5) (fun _ _ => rfl) rfl
  refine OT.call Try.call21 rfl rfl rfl rfl (law9_Of ro (by simp)) ?_
  rintro v_50 hs_50 ⟨K50, rfl, ho50⟩
  obtain ⟨a50, c50, hv50⟩ := (ho50.row (hs := [])).len
  subst hv50
  refine OT.build (cs := [.int .i64 2, .slice a50 (pageOf [110, 101, 119]).length c50]) hT rfl Try.zeroValue66 rfl rfl rfl rfl ?_
  refine OT.buildSlice (enc := encIm) (xs := [(⟨2, .slice a50 (pageOf [110, 101, 119]).length c50, pageOf [110, 101, 119]⟩ : Im)]) (xos := [.tmp 51]) el37 rfl rfl rfl rfl rfl (by simp [Value.cells]) (fun _ _ => rfl) rfl (by decide) rfl (fun v_52 H_52 ho_52 => ?_)
  refine OT.call Try.call14 rfl rfl rfl rfl (Fun.pull pl (cow_Expand book_Pgs hb_z hone.st.long hone.st.cat hone.st.good (⟨ro, fun t ht => by rw [List.mem_singleton] at ht; subst ht; exact ro, (by show 1 ≤ 9223372036854775807; omega), fun t ht => by rw [List.mem_singleton] at ht; subst ht; exact Nat.le_trans (Nat.le_of_eq hpn) (by decide)⟩ : ImsAt _ _ [⟨2, .slice a50 (pageOf [110, 101, 119]).length c50, pageOf [110, 101, 119]⟩]) hd)) ?_
  rintro v_53 hs_53 (⟨v, ts2, HI, H2, rfl, rfl, hoI, hti, hI2⟩ | ⟨_, _, _, _, hE, _⟩)
  ·
    have hti : imgs ts2 = expandC (upd (upd (upd (fun _ => noughts 256) ((1 : Nat) : Int) (pageOf [4])) ((2 : Nat) : Int) (pageOf [111, 108, 100])) ((0 : Nat) : Int) (encode 1 [(newSnap nmS 1)]).1) 1 [(newSnap nmS 1)] [((2 : Int), pageOf [110, 101, 119])] := hti
    obtain ⟨hlen, t, ht1, ht2, ht3⟩ := hone.step (by decide) (by decide) hpn
    rw [← hti, imgs_length, if_pos (newSnap_at ..)] at hlen
    have hmx := expandC_may hone.st hd
    obtain ⟨_, _, _, _, hoK, _⟩ := hoI.is
    obtain ⟨a30, c30, hv30⟩ := (hoK.row (hs := [])).len
    subst hv30
    refine OT.pures hT 5 rfl (.nil (.seq (.seq (.seq (.region (.pures hT 3 rfl (.pures hT 4 rfl (.nil (.seq (.cond rfl (fun c62 => ?_) (fun c62 => ?_)))))))))))
    ·
      exact absurd hlen (by have := bne_iff_ne.1 c62; omega)
    ·
      refine TT.skip (.seq (.seq (.region (.pures hT 2 rfl (.call Try.call15 rfl rfl rfl rfl (book_Lay hI2 (own_at hoI hti hmx (expandC_len ..)) (by rw [hti]; exact hmx)) ?_)))))
      rintro v_65 hs_65 ⟨H3, rfl, rfl, hB3⟩
      rw [hti] at hB3
      have hnew : (lay (upd (upd (upd (fun _ => noughts 256) ((1 : Nat) : Int) (pageOf [4])) ((2 : Nat) : Int) (pageOf [111, 108, 100])) ((0 : Nat) : Int) (encode 1 [(newSnap nmS 1)]).1) (expandC (upd (upd (upd (fun _ => noughts 256) ((1 : Nat) : Int) (pageOf [4])) ((2 : Nat) : Int) (pageOf [111, 108, 100])) ((0 : Nat) : Int) (encode 1 [(newSnap nmS 1)]).1) 1 [(newSnap nmS 1)] [((2 : Int), pageOf [110, 101, 119])])) 2 = pageOf [110, 101, 119] := (expandC_data hone.st _ (by decide) (by decide)).trans (show upd (upd (upd (upd (fun _ => noughts 256) ((1 : Nat) : Int) (pageOf [4])) ((2 : Nat) : Int) (pageOf [111, 108, 100])) ((0 : Nat) : Int) (encode 1 [(newSnap nmS 1)]).1) 2 (pageOf [110, 101, 119]) 2 = pageOf [110, 101, 119] from if_pos rfl)
      generalize (lay (upd (upd (upd (fun _ => noughts 256) ((1 : Nat) : Int) (pageOf [4])) ((2 : Nat) : Int) (pageOf [111, 108, 100])) ((0 : Nat) : Int) (encode 1 [(newSnap nmS 1)]).1) (expandC (upd (upd (upd (fun _ => noughts 256) ((1 : Nat) : Int) (pageOf [4])) ((2 : Nat) : Int) (pageOf [111, 108, 100])) ((0 : Nat) : Int) (encode 1 [(newSnap nmS 1)]).1) 1 [(newSnap nmS 1)] [((2 : Int), pageOf [110, 101, 119])])) = Q at hB3 ht3 hnew
      have hsh : shownOf [t] ⟨#[115]⟩ = some t := by
        have := shown_at ht3.st.good (k := 0) (s := t) rfl
        rw [ht1, ht3.inv, if_neg (by simp)] at this; exact this
      have hfs : findAt (named ⟨#[115]⟩) 0 [t] = 0 := by
        have := find_self ht3.st.good (k := 0) (s := t) rfl
        rw [ht1] at this; exact this
      have hft : findAt (named ⟨#[116]⟩) 0 [t] < 0 := by
        unfold findAt named findAt
        rw [if_neg (by rw [ht1]; decide)]; decide
      have h35 := ht3.st.h35 t (by simp)
      have hsd := ht3.st.good.sides t (by simp)
      refine OT.nil (.seq (.seq (.region (.pures hT 1 rfl (.call Try.call16 rfl rfl rfl rfl (Fun.pull pl (law21_show hB3 ht3.st)) ?_)))))
      rintro v_68 hs_68 ⟨rfl, cs, rfl, hcl, hco, hcs⟩
      obtain rfl := hcs _ hsh
      rw [hsh]
      refine OT.pures hT 3 rfl (.alloc Try.zeroValue47 rfl rfl (fun b_6 => ?_))
      refine OT.store_all hT rfl rfl rfl rfl pl (by exact hcl) rfl hco (.inl (Nat.le_refl _)) ?_
      refine OT.pures hT 1 rfl (.nil (.seq (.seq (.seq (.region (.pures hT 2 rfl (.nil (.seq (.cond_false rfl (.skip (.seq (.seq (.region (.load rfl rfl (Ld.struct_all hT rfl hz (by exact hcl)) rfl ?_))))))))))))))
      refine OT.call Try.call18 rfl rfl rfl rfl (Fun.pull pl (shown_Page hB3 h35 hsd)) ?_
      rintro v_75 hs_75 ⟨KP, wP, rfl, rfl, hoP⟩
      rw [viewPg_ok hsd (by decide) (by decide), ht3.shows] at hoP ⊢
      dsimp only at hoP
      refine OT.pures hT 5 rfl (.nil (.seq (.seq (.region (.pures hT 1 rfl (.call Try.call23 rfl rfl rfl rfl (Fun.pull pl (book_Page hB3)) ?_))))))
      rintro v_80 hs_80 ⟨KY, wY, rfl, rfl, hoY⟩
      rw [pg0 (by unfold mayPage; omega), hnew] at hoY ⊢
      dsimp only at hoY
      refine OT.pures hT 5 rfl (.nil (.seq (.seq (.region (.pures hT 1 rfl (.mkiface Try.underlying25 rfl rfl rfl rfl (.call Try.call22 rfl rfl rfl rfl (Fun.pull pl (cow_Revert book_Pgs hB3 ht3.st.long ht3.st.cat ht3.st.good)) ?_)))))))
      rintro v_86 hs_86 (⟨v7, ts7, HI7, HR7, rfl, rfl, hoI7, hIR7, i7, s7, hf7, hs7, hi7, hr7⟩ | ⟨e7, HR7, rfl, he7, hE7, rfl⟩)
      ·
        obtain rfl : i7 = 0 := by omega
        cases hs7
        rw [one_back ht3 (by decide) (by decide) ht2 (by rw [hnew]; exact old_new)] at hr7
        obtain ⟨u, rfl, hu⟩ : ∃ u, ts7 = [u] ∧ u.img = (2, pageOf [111, 108, 100]) := by
          cases ts7 with
          | nil => exact absurd (congrArg List.length hr7) (by simp [imgs])
          | cons u l => cases l with
            | nil => exact ⟨u, rfl, by injection hr7⟩
            | cons w l => exact absurd (congrArg List.length hr7) (by simp [imgs])
        obtain ⟨u1, rfl⟩ : ∃ v, u = ⟨2, v, pageOf [111, 108, 100]⟩ := ⟨u.v, by obtain ⟨a, b, c⟩ := u; injection hu with h1 h2; dsimp only at h1 h2; rw [h1, h2]⟩
        have hat7 := own_at (hs := hs) hoI7 hr7 (fun x hx => by rw [List.mem_singleton] at hx; subst hx; exact ⟨by decide, hpo⟩) (by simp)
        obtain ⟨_, _, _, _, hoK7, _⟩ := hoI7.is
        obtain ⟨a7, c7, hv7⟩ := (hoK7.row (hs := [])).len
        subst hv7
        obtain ⟨a8, c8, hv8⟩ := (hat7.each _ (List.mem_singleton.2 rfl)).len
        replace hv8 : u1 = .slice a8 (pageOf [111, 108, 100]).length c8 := hv8
        subst hv8
        refine OT.pures hT 5 rfl (.nil (.seq (.seq (.region (.pures hT 1 rfl (.mkiface Try.underlying25 rfl rfl rfl rfl (.call Try.call22 rfl rfl rfl rfl (Fun.pull pl (cow_Revert book_Pgs hIR7 ht3.st.long ht3.st.cat ht3.st.good)) ?_)))))))
        rintro v_92 hs_92 (⟨v8, ts8, HI8, HR8, rfl, rfl, hoI8, hIR8, i8, s8, hf8, hs8, hi8, hr8⟩ | ⟨e8, HR8, rfl, he8, hE8, rfl⟩)
        ·
          omega
        ·
          have he8 : e8 = 6 := by
            rcases hE8 with h | ⟨h, _⟩ | ⟨_, _, i, s, h1, _⟩
            · exact h.elim
            · exact h
            · omega
          subst he8
          refine OT.pures hT 5 rfl (.nil (.seq (.seq (.region (.pures hT 1 rfl (.index hT rfl rfl rfl rfl ro (by decide) (show (pageOf [111, 108, 100])[0]? = some 111 from rfl) rfl (fun ad_96 hel_96 => ?_)))))))
          refine OT.load rfl rfl (hel_96.ld_one hT rfl rfl) rfl (.pures hT 2 rfl (.split 99 rfl (fun g99 => ?_) (fun g99 => ?_)))
          ·
            refine OT.pures hT 1 rfl (.index hT rfl rfl rfl rfl ro (by decide) (show (pageOf [110, 101, 119])[0]? = some 110 from rfl) rfl (fun ad_101 hel_101 => ?_))
            refine OT.load rfl rfl (hel_101.ld_one hT rfl rfl) rfl (.pures hT 3 rfl (.split 105 rfl (fun g105 => ?_) (fun g105 => ?_)))
            ·
              refine OT.pures hT 4 rfl (.split 109 rfl (fun g109 => ?_) (fun g109 => ?_))
              ·
                refine OT.pures hT 5 rfl (.split 114 rfl (fun g114 => ?_) (fun g114 => ?_))
                ·
                  refine OT.pures hT 1 rfl (.index hT rfl rfl rfl rfl (hat7.row.mono fun b o hb => Has.sel sl hb) (by decide) rfl rfl (fun ad_116 hel_116 => ?_))
                  obtain ⟨eb_116, eo_116, rfl, hfld_116, hfls_116⟩ := Go.Pl.El.at2 (P := Try.prog) hel_116
                  refine OT.pures hT 1 rfl (.load rfl rfl (hfld_116 hT rfl rfl) rfl (.pures hT 3 rfl (.split 121 rfl (fun g121 => ?_) (fun g121 => ?_))))
                  ·
                    refine OT.pures hT 1 rfl (.index hT rfl rfl rfl rfl (hat7.row.mono fun b o hb => Has.sel sl hb) (by decide) rfl rfl (fun ad_123 hel_123 => ?_))
                    obtain ⟨eb_123, eo_123, rfl, hfld_123, hfls_123⟩ := Go.Pl.El.at2 (P := Try.prog) hel_123
                    refine OT.pures hT 1 rfl (.load rfl rfl (hfls_123 hT rfl rfl) rfl (.index hT rfl rfl rfl rfl ((hat7.each _ (List.mem_singleton.2 rfl)).mono fun b o hb => Has.sel sl hb) (by decide) (by show (pageOf [111, 108, 100])[0]? = some 111; rfl) rfl (fun ad_126 hel_126 => ?_)))
                    refine OT.load rfl rfl (hel_126.ld_one hT rfl rfl) rfl (.pures hT 3 rfl (.split 130 rfl (fun g130 => ?_) (fun g130 => ?_)))
                    ·
                      refine OT.pures hT 4 rfl (.nil (.seq (.ret (.of (rs := [.tmp 0]) [_] hs rfl (.tmp rfl .nil) sl ?_))))
                      dsimp only [one]
                      exact ⟨rfl, rfl⟩
                    ·
                      exact absurd g130 (by decide)
                  ·
                    exact absurd g121 (by simp)
                ·
                  exact absurd g114 (by simp)
              ·
                exact absurd g109 (by decide)
            ·
              exact absurd g105 (by decide)
          ·
            exact absurd g99 (by decide)
      ·
        rcases hE7 with h | ⟨_, h, _⟩ | ⟨_, _, i, s, h1, h2, h3⟩
        · exact h.elim
        · omega
        · obtain rfl : i = 0 := by omega
          cases h2; rw [ht3.inv] at h3; cases h3
  ·
    exact hE.elim

end Go.Proofs.Ytnhkgchcdbideaa.Sx
end
