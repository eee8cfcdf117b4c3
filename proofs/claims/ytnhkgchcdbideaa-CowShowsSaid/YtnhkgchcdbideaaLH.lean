/- Several texts in one. slices.Sort of whole numbers, in the words of the small logic: the shelf's contract is turned. Side pages: what Copies and Take compute, the program's and the document's. Printed by a program of ours off the loaded program and our notes; Lean checks it. The document's book: its pages, what a snapshot needs, its copies. Printed by a program of ours off the loaded program and our notes; Lean checks it. The document's copies; its expand. Printed by a program of ours off the loaded program and our notes; Lean checks it. The document's book beside the program's. Printed by a program of ours off the loaded program and our notes; Lean checks it. A snapshot's copies. Printed by a program of ours off the loaded program and our notes; Lean checks it. All snapshots have what they need. Printed by a program of ours off the loaded program and our notes; Lean checks it. The change that is told. Printed by a program of ours off the loaded program and our notes; Lean checks it. -/
import Derived.Test.YtnhkgchcdbideaaLA
import Derived.Test.YtnhkgchcdbideaaShelf
import Derived.Sort.Grow
import Derived.Test.YtnhkgchcdbideaaLC
import Derived.Test.YtnhkgchcdbideaaLE
import Derived.Test.YtnhkgchcdbideaaLF
import Derived.Test.YtnhkgchcdbideaaLD
import Derived.Test.YtnhkgchcdbideaaLB
import Derived.Test.YtnhkgchcdbideaaLG

section
namespace Go.Sx
open Go Go.Sort
variable [Outer]

omit [Outer] in
theorem putCells_row (pre sp : List Value) (xs ys : List Int) (h : ys.length = xs.length) :
    putCells (Value.int .i64) pre.length ys.toArray ⟨pre ++ xs.map (Value.int .i64) ++ sp⟩ = ⟨pre ++ ys.map (Value.int .i64) ++ sp⟩ := by
  apply Array.ext_getElem?
  intro k
  unfold putCells
  rw [Array.getElem?_mapIdx]
  rw [List.getElem?_toArray, List.getElem?_toArray]
  rw [List.append_assoc, List.append_assoc]
  by_cases h1 : k < pre.length
  · rw [List.getElem?_append_left h1, List.getElem?_append_left h1]
    cases pre[k]? with
    | none => rfl
    | some v => rw [Option.map_some, if_neg (by omega)]
  · have key : ∀ zs : List Int, (pre ++ (zs.map (Value.int .i64) ++ sp))[k]? = if k < pre.length + zs.length then (zs[k - pre.length]?).map (Value.int .i64) else sp[k - pre.length - zs.length]? := by
      intro zs
      rw [List.getElem?_append_right (by omega)]
      by_cases h2 : k < pre.length + zs.length
      · rw [if_pos h2, List.getElem?_append_left (by rw [List.length_map]; omega), List.getElem?_map]
      · rw [if_neg h2, List.getElem?_append_right (by rw [List.length_map]; omega), List.length_map]
    rw [key xs, key ys, h]
    by_cases h2 : k < pre.length + xs.length
    · rw [if_pos h2, if_pos h2, List.getElem?_eq_getElem (by omega : k - pre.length < xs.length), List.getElem?_eq_getElem (by omega : k - pre.length < ys.length)]
      rw [Option.map_some, Option.map_some, Option.map_some, if_pos ⟨by omega, by rw [List.size_toArray]; omega⟩]
      rw [getElem!_pos ys.toArray (k - pre.length) (by rw [List.size_toArray]; omega)]
      rfl
    · rw [if_neg h2, if_neg h2]
      cases sp[k - pre.length - xs.length]? with
      | none => rfl
      | some v => rw [Option.map_some, if_neg (by rw [List.size_toArray]; omega)]

theorem Mem.putRow {w w' : World} {b : Nat} {pre sp : List Value} {xs ys : List Int} {e : Nat} {fr : Nat × Nat} {r : List Chunk} {n : Nat} {os : Array Obj}
    (hm : Mem ([(b, blk (pre ++ xs.map (Value.int .i64) ++ sp) e fr)] :: r) w) (hl : ys.length = xs.length)
    (hw : w' = grow (Go.Sort.putRow (Value.int .i64) (Go.Sort.ahead w n) b pre.length ys.toArray) os) : Mem ([(b, blk (pre ++ ys.map (Value.int .i64) ++ sp) e fr)] :: r) w' := by
  have hb := hm.heap (b := b) Has.one
  have hn := hm.nodup
  simp only [List.flatten_cons, List.singleton_append, List.map_cons, List.nodup_cons] at hn
  have hsz : (Go.Sort.putRow (Value.int .i64) (Go.Sort.ahead w n) b pre.length ys.toArray).heap.size = w.heap.size := by
    unfold Go.Sort.putRow mapBlock Go.Sort.ahead
    simp
  refine ⟨?_, ?_, by rw [hw]; exact hm.outer⟩
  · simp only [List.flatten_cons, List.singleton_append, List.map_cons, List.nodup_cons]
    exact hn
  · intro c oc hc
    simp only [List.flatten_cons, List.singleton_append, List.mem_cons, Prod.mk.injEq] at hc
    have hold : w.heap[c]? ≠ none → w'.heap[c]? = (if b = c then w.heap[c]?.map (onCells (putCells (Value.int .i64) pre.length ys.toArray)) else w.heap[c]?) := by
      intro h
      have hlt : c < w.heap.size := by
        rw [Ne, Array.getElem?_eq_none_iff] at h; omega
      rw [hw, heap_grow_old _ _ (by rw [hsz]; exact hlt)]
      unfold Go.Sort.putRow mapBlock Go.Sort.ahead
      exact Array.getElem?_modify ..
    rcases hc with ⟨rfl, rfl⟩ | hc
    · rw [hold (by rw [hb]; intro h; cases h), if_pos rfl, hb, Option.map_some]
      unfold onCells blk
      simp only [putCells_row pre sp xs ys hl]
    · have hne : b ≠ c := by
        intro e
        subst e
        exact hn.1 (List.mem_map.2 ⟨(b, oc), hc, rfl⟩)
      have ho := hm.has c oc (by simp [hc])
      rw [hold (by rw [ho]; intro h; cases h), if_neg hne, ho]

theorem Mem.holds {w : World} {b : Nat} {pre sp : List Value} {xs : List Int} {e : Nat} {fr : Nat × Nat} {r : List Chunk}
    (hm : Mem ([(b, blk (pre ++ xs.map (Value.int .i64) ++ sp) e fr)] :: r) w) (ht : thawed (pre ++ xs.map (Value.int .i64) ++ sp) fr) : Holds (Value.int .i64) w b pre.length xs.toArray := by
  intro j hj
  rw [List.size_toArray] at hj
  have hb := hm.heap (b := b) Has.one
  constructor
  · rw [hm.cell (b := b) Has.one (pre.length + j)]
    rw [List.append_assoc, List.getElem?_append_right (by omega), List.getElem?_append_left (by rw [List.length_map]; omega), List.getElem?_map]
    rw [show pre.length + j - pre.length = j by omega, List.getElem?_eq_getElem hj, Option.map_some, getElem!_pos xs.toArray j (by rw [List.size_toArray]; omega)]
    rfl
  · simp only [World.frozen?, hb]
    rcases ht with ht | ht
    · simp; omega
    · simp only [List.length_append, List.length_map] at ht
      simp; omega

theorem sorted_of {P : Program} {f : Nat} {v : Value} {xs : List Int} {H : Chunk} {r : List Chunk} {e : Nat} (ho : Own encI 1 e v xs H) (hl : xs.length ≤ 1073741824)
    (h0 : ∀ (p : Option Addr) (cap : Nat) (w : World), Calls P f #[.slice p 0 cap] w fun e w' => e = .returned (.tuple #[]) ∧ w' = w)
    (h1 : ∀ (b off cap : Nat) (zs : List Int) (w : World), Holds (Value.int .i64) w b off zs.toArray → b < w.heap.size → zs.length < 4611686018427387904 →
      Calls P f #[.slice (some ⟨b, off, none⟩) zs.length cap] w fun e w' => e = .returned (.tuple #[]) ∧ ∃ n os, w' = grow (Go.Sort.putRow (Value.int .i64) (Go.Sort.ahead w n) b off (zs.mergeSort fun x y => decide (x ≤ y)).toArray) os) :
    Fun P f [v] (H :: r) fun v' hs' => v' = .tuple #[] ∧ ∃ H', hs' = H' :: r ∧ Own encI 1 e v (xs.mergeSort fun x y => decide (x ≤ y)) H' := by
  obtain ⟨h1x, ⟨rfl, rfl, rfl⟩ | ⟨b, cap, pre, sp, fr, rfl, rfl, hc, hs, ht⟩⟩ := ho
  · intro w hm
    refine (h0 none 0 w).mono ?_
    rintro e' w' ⟨rfl, rfl⟩
    exact ⟨_, _, rfl, ⟨rfl, [], rfl, by simp; exact Own.nil⟩, hm⟩
  · intro w hm
    have em : ∀ l : List Int, l.flatMap encI = l.map (Value.int .i64) := by
      intro l
      induction l with
      | nil => rfl
      | cons x l ih => simpa using ih
    rw [em] at hm ht
    have hb := hm.heap (b := b) Has.one
    have hlen : (xs.mergeSort fun x y => decide (x ≤ y)).length = xs.length := List.length_mergeSort _
    refine (h1 b pre.length cap xs w (hm.holds ht) (Array.getElem?_eq_some_iff.1 hb).1 (by omega)).mono ?_
    rintro e' w' ⟨rfl, n, os, hw⟩
    refine ⟨_, _, rfl, ⟨rfl, _, rfl, ?_⟩, hm.putRow hlen hw⟩
    refine ⟨fun _ _ => rfl, .inr ⟨b, cap, pre, sp, fr, by rw [hlen], by rw [em], by rw [hlen]; exact hc, by rw [hlen]; exact hs, ?_⟩⟩
    rw [em]
    unfold thawed at ht ⊢
    simp only [List.length_append, List.length_map] at ht ⊢
    rw [hlen]
    exact ht
end Go.Sx
end

section
namespace Go.Proofs.Ytnhkgchcdbideaa.Sx
open Go Go.Sx Go.Pl
variable [Outer]

theorem sl_Sort {v : Value} {xs : List Int} {H : Chunk} {r : List Chunk} (ho : Own Go.Sx.encI 1 3 v xs H) (hl : xs.length ≤ 1073741824) :
    Fun Try.prog 54 [v] (H :: r) (fun v' hs' => v' = .tuple #[] ∧ ∃ H', hs' = H' :: r ∧ Own Go.Sx.encI 1 3 v (xs.mergeSort fun x y => decide (x ≤ y)) H') :=
  sorted_of ho hl Try.slices_Sort_int_none (fun b off cap zs w h1 h2 h3 => Try.slices_Sort_int b off cap zs w h1 h2 h3)

set_option maxHeartbeats 1000000 in
set_option maxRecDepth 100000 in
theorem cat_Copies {next : Int} {v : Value} {xs : List Snap} {hs : List Chunk} (hr : Row encSnap 35 hs v xs) (hl : xs.length ≤ 64) : Fun Try.prog 25 [.agg ⟨[.int .i64 next, v]⟩] hs (fun v' hs' => ∃ H', hs' = H' :: hs ∧ Own Go.Sx.encI 1 3 v' (copiesP xs) H') := by
  refine Fun.enter 31 Try.func25 rfl Try.ntmps25 rfl ?_
  obtain ⟨a0, c0, hv⟩ := hr.len
  subst hv
  refine TT.seq ?_
  refine TT.region ?_
  refine OT.box rfl rfl rfl (fun b_1 => ?_)
  refine OT.pures hT 1 rfl ?_
  refine OT.nil ?_
  refine KT.seq ?_
  refine TT.seq ?_
  refine TT.region ?_
  refine OT.pures hT 1 rfl ?_
  refine OT.nil ?_
  refine KT.seq ?_
  refine TT.seq ?_
  refine TT.seq ?_
  refine TT.region ?_
  refine OT.pures hT 1 rfl ?_
  refine OT.load rfl rfl (Ld.slc hT rfl (by repeat (first | exact Has.one | apply Has.there)) rfl) rfl ?_
  refine OT.pures hT 2 rfl ?_
  refine OT.nil ?_
  refine KT.seq ?_
  refine TT.block ?_
  refine TT.chunk0 ?_
  refine TT.loop (ι := Nat × Value × Chunk) (fun j => (j.1) ≤ xs.length ∧ Own Go.Sx.encI 1 3 (j.2.1) (gather (xs.take (j.1))) (j.2.2)) (fun j => xs.length - (j.1)) (fun j => [(1, .pointer (some ⟨b_1, 0, none⟩)), (3, (j.2.1)), (9, .slice a0 xs.length c0), (10, .int .i64 xs.length), (11, .int .i64 ((j.1) : Nat))]) (fun j => [(b_1, blk [.int .i64 next, .slice a0 xs.length c0] 31 (0, 0))] :: (j.2.2) :: hs) (0, .slice none 0 0, []) ?_ (SubR.cons rfl (SubR.cons rfl (SubR.cons rfl (SubR.cons rfl (SubR.cons rfl (SubR.nil _)))))) (by repeat (first | exact Sel.refl _ | refine Sel.empty ?_ | refine Sel.pull (by repeat (first | exact Pull.head | apply Pull.tail)) ?_ | refine Sel.drop ?_)) ?_
  · dsimp only
    exact ⟨by omega, Own.nil⟩
  rintro ⟨i, w, K⟩ hI
  dsimp only at hI
  obtain ⟨hi, hO⟩ := hI
  show TT _ _ _ [(1, .pointer (some ⟨b_1, 0, none⟩)), (3, w), (9, .slice a0 xs.length c0), (10, .int .i64 xs.length), (11, .int .i64 (i : Nat))] ([(b_1, blk [.int .i64 next, .slice a0 xs.length c0] 31 (0, 0))] :: K :: hs)
  have hg := gather_length (xs := xs.take i) (fun s hs => hr.1 s (List.mem_of_mem_take hs))
  have hti := List.length_take_le' i xs
  refine TT.seq ?_
  refine TT.region ?_
  refine OT.pures hT 1 rfl ?_
  refine OT.nil ?_
  refine KT.seq ?_
  refine TT.seq ?_
  refine TT.cond rfl (fun c12 => ?_) (fun c12 => ?_)
  ·
    have c12 := of_decide_eq_true c12
    obtain ⟨s, hy⟩ := nth (l := xs) (i := i) (by omega)
    have h35 := hr.1 s (List.mem_of_getElem? hy)
    have h32 := map32 h35
    refine TT.skip ?_
    refine KT.seq ?_
    refine TT.seq ?_
    refine TT.block ?_
    refine TT.seq ?_
    refine TT.region ?_
    refine OT.index hT rfl rfl rfl rfl hr.there.there (by omega) hy rfl (fun ad_13 hel_13 => ?_)
    refine OT.load rfl rfl (hel_13.ld_struct hT rfl) rfl ?_
    refine OT.alloc Try.zeroValue45 rfl rfl (fun b_5 => ?_)
    refine OT.store_all hT rfl rfl rfl rfl (by repeat (first | exact Pull.head | apply Pull.tail)) (by exact h35) rfl (ones_snap s) (.inl (Nat.le_refl _)) ?_
    refine OT.nil ?_
    refine KT.seq ?_
    refine TT.seq ?_
    refine TT.region ?_
    refine OT.pures hT 1 rfl ?_
    refine OT.load rfl rfl (Ld.arr hT rfl Has.one (snap_map h35) (by simp [h32])) rfl ?_
    refine OT.pures hT 1 rfl ?_
    refine OT.nil ?_
    refine KT.seq ?_
    refine TT.block ?_
    refine TT.loop (ι := Nat × Value × Chunk) (fun j => (j.1) ≤ 32 ∧ Own Go.Sx.encI 1 3 (j.2.1) (gather (xs.take i) ++ not0 (s.map.take (j.1))) (j.2.2)) (fun j => 32 - (j.1)) (fun j => [(1, .pointer (some ⟨b_1, 0, none⟩)), (3, (j.2.1)), (5, .pointer (some ⟨b_5, 0, none⟩)), (9, .slice a0 xs.length c0), (10, .int .i64 xs.length), (11, .int .i64 (i : Nat)), (16, .agg ⟨s.map.map (Value.int .i64)⟩), (17, .int .i64 ((j.1) : Nat))]) (fun j => [(b_5, blk (encSnap s) 45 (0, 0))] :: [(b_1, blk [.int .i64 next, .slice a0 xs.length c0] 31 (0, 0))] :: (j.2.2) :: hs) (0, w, K) ?_ (SubR.cons rfl (SubR.cons rfl (SubR.cons rfl (SubR.cons rfl (SubR.cons rfl (SubR.cons rfl (SubR.cons rfl (SubR.cons rfl (SubR.nil _))))))))) (by repeat (first | exact Sel.refl _ | refine Sel.empty ?_ | refine Sel.pull (by repeat (first | exact Pull.head | apply Pull.tail)) ?_ | refine Sel.drop ?_)) ?_
    · dsimp only
      exact ⟨by omega, by unfold not0; simpa using hO⟩
    rintro ⟨no, w2, K2⟩ hI
    dsimp only at hI
    obtain ⟨hno, hO2⟩ := hI
    show TT _ _ _ [(1, .pointer (some ⟨b_1, 0, none⟩)), (3, w2), (5, .pointer (some ⟨b_5, 0, none⟩)), (9, .slice a0 xs.length c0), (10, .int .i64 xs.length), (11, .int .i64 (i : Nat)), (16, .agg ⟨s.map.map (Value.int .i64)⟩), (17, .int .i64 (no : Nat))] ([(b_5, blk (encSnap s) 45 (0, 0))] :: [(b_1, blk [.int .i64 next, .slice a0 xs.length c0] 31 (0, 0))] :: K2 :: hs)
    have hn0 := not0_length (s.map.take no)
    have hn1 := List.length_take_le no s.map
    refine TT.seq ?_
    refine TT.region ?_
    refine OT.pures hT 1 rfl ?_
    refine OT.nil ?_
    refine KT.seq ?_
    refine TT.seq ?_
    refine TT.cond rfl (fun c18 => ?_) (fun c18 => ?_)
    ·
      have c18 := of_decide_eq_true c18
      obtain ⟨at_, hat⟩ := nth (l := s.map) (i := no) (by omega)
      refine TT.skip ?_
      refine KT.seq ?_
      refine TT.seq ?_
      refine TT.block ?_
      refine TT.seq ?_
      refine TT.region ?_
      refine OT.index_arr hT rfl rfl rfl rfl rfl (by omega) (by simp [h32]) (by rw [Int.toNat_natCast, List.getElem?_map, hat]; rfl) rfl ?_
      refine OT.pures hT 1 rfl ?_
      refine OT.nil ?_
      refine KT.seq ?_
      refine TT.seq ?_
      refine TT.region ?_
      refine OT.pures hT 2 rfl ?_
      refine OT.nil ?_
      refine KT.seq ?_
      refine TT.cond rfl (fun c21 => ?_) (fun c21 => ?_)
      ·
        have c21 : ¬ at_ = 0 := by simpa using c21
        refine TT.region ?_
        refine OT.pures hT 2 rfl ?_
        refine OT.buildSlice (enc := Go.Sx.encI) (xs := [at_]) (xos := [.tmp 23]) el59 rfl rfl rfl rfl rfl (by simp [Value.cells]) (fun _ _ => rfl) rfl (by decide) rfl (fun v_24 H_24 ho_24 => ?_)
        refine OT.append hT el59 rfl rfl rfl rfl (by repeat (first | exact Pull.head | apply Pull.tail)) hO2 ho_24.row rfl (by simp only [List.length_append, List.length_cons, List.length_nil]; omega) rfl (fun v_25 H_25 ho_25 => ?_)
        refine OT.pures hT 1 rfl ?_
        refine OT.nil ?_
        refine KT.blk ?_
        refine KT.seq ?_
        refine TT.region ?_
        refine OT.pures hT 2 rfl ?_
        refine OT.nil ?_
        refine KT.loop (no + 1, v_25, H_25) ?_ ?_ (SubR.cons rfl (SubR.cons rfl (SubR.cons rfl (SubR.cons rfl (SubR.cons rfl (SubR.cons rfl (SubR.cons rfl (SubR.cons' rfl (by (try dsimp only); exact (int_eq (by rw [wrap_i64 (by omega) (by omega)]; omega))) (SubR.nil _))))))))) (by repeat (first | exact Sel.refl _ | refine Sel.empty ?_ | refine Sel.pull (by repeat (first | exact Pull.head | apply Pull.tail)) ?_ | refine Sel.drop ?_))
        · dsimp only
          refine ⟨by omega, ?_⟩
          unfold not0
          rw [filter_take_succ _ hat, if_pos (by simpa using c21), ← List.append_assoc]
          exact ho_25
        · dsimp only
          omega
      ·
        have c21 : at_ = 0 := by simpa using c21
        refine TT.skip ?_
        refine KT.blk ?_
        refine KT.seq ?_
        refine TT.region ?_
        refine OT.pures hT 2 rfl ?_
        refine OT.nil ?_
        refine KT.loop (no + 1, w2, K2) ?_ ?_ (SubR.cons rfl (SubR.cons rfl (SubR.cons rfl (SubR.cons rfl (SubR.cons rfl (SubR.cons rfl (SubR.cons rfl (SubR.cons' rfl (by (try dsimp only); exact (int_eq (by rw [wrap_i64 (by omega) (by omega)]; omega))) (SubR.nil _))))))))) (by repeat (first | exact Sel.refl _ | refine Sel.empty ?_ | refine Sel.pull (by repeat (first | exact Pull.head | apply Pull.tail)) ?_ | refine Sel.drop ?_))
        · dsimp only
          refine ⟨by omega, ?_⟩
          unfold not0
          rw [filter_take_succ _ hat, if_neg (by simpa using c21), List.append_nil]
          exact hO2
        · dsimp only
          omega
    ·
      have c18 := of_decide_eq_false c18
      refine TT.exit ?_
      refine XT.seq ?_
      refine XT.loop ?_
      refine XT.here ?_
      refine KT.blk ?_
      refine KT.seq ?_
      refine TT.region ?_
      refine OT.pures hT 2 rfl ?_
      refine OT.nil ?_
      refine KT.loop (i + 1, w2, K2) ?_ ?_ (SubR.cons rfl (SubR.cons rfl (SubR.cons rfl (SubR.cons rfl (SubR.cons' rfl (by (try dsimp only); exact (int_eq (by rw [wrap_i64 (by omega) (by omega)]; omega))) (SubR.nil _)))))) (by repeat (first | exact Sel.refl _ | refine Sel.empty ?_ | refine Sel.pull (by repeat (first | exact Pull.head | apply Pull.tail)) ?_ | refine Sel.drop ?_))
      · dsimp only
        refine ⟨by omega, ?_⟩
        unfold gather
        rw [flatMap_take_succ _ _ hy]
        rw [List.take_of_length_le (l := s.map) (by omega)] at hO2
        exact hO2
      · dsimp only
        omega
  ·
    have c12 := of_decide_eq_false c12
    rw [List.take_of_length_le (by omega)] at hO hg
    refine TT.exit ?_
    refine XT.seq ?_
    refine XT.loop ?_
    refine XT.here ?_
    refine KT.seq ?_
    refine TT.seq ?_
    refine TT.region ?_
    refine OT.pures hT 1 rfl ?_
    refine OT.call Try.call54 rfl rfl rfl rfl (Fun.pull (by repeat (first | exact Pull.head | apply Pull.tail)) (sl_Sort hO (by omega))) ?_
    rintro v_29 hs_29 ⟨rfl, H29, rfl, ho29⟩
    refine OT.nil ?_
    refine KT.seq ?_
    refine TT.seq ?_
    refine TT.region ?_
    refine OT.pures hT 2 rfl ?_
    refine OT.nil ?_
    refine KT.seq ?_
    refine TT.ret ?_
    refine RT.of (rs := [.tmp 2]) [_] (H29 :: hs) rfl (.tmp rfl .nil) (by repeat (first | exact Sel.refl _ | refine Sel.empty ?_ | refine Sel.pull (by repeat (first | exact Pull.head | apply Pull.tail)) ?_ | refine Sel.drop ?_)) ?_
    dsimp only [one]
    exact ⟨_, rfl, ho29⟩

set_option maxHeartbeats 1000000 in
set_option maxRecDepth 100000 in
theorem cat_Take {next : Int} {v : Value} {xs : List Snap} {hs : List Chunk} (hr : Row encSnap 35 hs v xs) (hl : xs.length ≤ 64) : Fun Try.prog 80 [.agg ⟨[.int .i64 next, v]⟩] hs (fun v' hs' => v' = .tuple ⟨[.int .i64 (takeP xs).1, .bool (takeP xs).2]⟩ ∧ hs = hs') := by
  refine Fun.enter 17 Try.func80 rfl Try.ntmps80 rfl ?_
  obtain ⟨a0, c0, hv⟩ := hr.len
  subst hv
  refine TT.seq ?_
  refine TT.region ?_
  refine OT.box rfl rfl rfl (fun b_1 => ?_)
  refine OT.pures hT 2 rfl ?_
  refine OT.nil ?_
  refine KT.seq ?_
  refine TT.seq ?_
  refine TT.region ?_
  refine OT.load rfl rfl (Ld.struct_all hT rfl (by repeat (first | exact Has.one | apply Has.there)) rfl) rfl ?_
  refine OT.call Try.call25 rfl rfl rfl rfl (cat_Copies hr.there hl) ?_
  rintro v_7 hs_7 ⟨H7, rfl, ho7⟩
  have hcl : (copiesP xs).length ≤ 1073741824 := by
    unfold copiesP
    rw [List.length_mergeSort]
    have := gather_length hr.1
    omega
  refine OT.pures hT 1 rfl ?_
  refine OT.nil ?_
  refine KT.seq ?_
  refine TT.seq ?_
  refine TT.seq ?_
  refine TT.region ?_
  refine OT.pures hT 1 rfl ?_
  refine OT.nil ?_
  refine KT.seq ?_
  refine TT.block ?_
  refine TT.loop (ι := Nat) (fun j => (j) ≤ 64 ∧ freeAt (64 - (j)) ((32 + (j) : Nat) : Int) (copiesP xs) = takeP xs) (fun j => 64 - (j)) (fun j => [(1, .pointer (some ⟨b_1, 0, none⟩)), (4, v_7), (5, .int .i64 ((32 + (j) : Nat) : Int))]) (fun j => H7 :: [(b_1, blk [.int .i64 next, .slice a0 xs.length c0] 31 (0, 0))] :: hs) (0) ?_ (SubR.cons rfl (SubR.cons rfl (SubR.cons rfl (SubR.nil _)))) (by repeat (first | exact Sel.refl _ | refine Sel.empty ?_ | refine Sel.pull (by repeat (first | exact Pull.head | apply Pull.tail)) ?_ | refine Sel.drop ?_)) ?_
  · exact ⟨by omega, rfl⟩
  rintro k ⟨hk, hp⟩
  show TT _ _ _ [(1, .pointer (some ⟨b_1, 0, none⟩)), (4, v_7), (5, .int .i64 ((32 + k : Nat) : Int))] (H7 :: [(b_1, blk [.int .i64 next, .slice a0 xs.length c0] 31 (0, 0))] :: hs)
  refine TT.seq ?_
  refine TT.seq ?_
  refine TT.region ?_
  refine OT.pures hT 2 rfl ?_
  refine OT.nil ?_
  refine KT.seq ?_
  refine TT.cond rfl (fun c9 => ?_) (fun c9 => ?_)
  ·
    have c9 := of_decide_eq_true c9
    rw [show 64 - k = (63 - k) + 1 by omega, freeAt] at hp
    refine TT.skip ?_
    refine KT.seq ?_
    refine TT.seq ?_
    refine TT.block ?_
    refine TT.seq ?_
    refine TT.region ?_
    refine OT.pures hT 2 rfl ?_
    refine OT.call Try.call65 rfl rfl rfl rfl (sl_Contains ho7.row hcl) ?_
    rintro v_14 hs_14 ⟨rfl, rfl⟩
    refine OT.pures hT 1 rfl ?_
    refine OT.nil ?_
    refine KT.seq ?_
    refine TT.cond rfl (fun c15 => ?_) (fun c15 => ?_)
    ·
      have c15 : ((32 + k : Nat) : Int) ∉ copiesP xs := fun h => by rw [decide_eq_true h] at c15; cases c15
      rw [if_neg c15] at hp
      refine TT.seq ?_
      refine TT.region ?_
      refine OT.pures hT 3 rfl ?_
      refine OT.nil ?_
      refine KT.seq ?_
      refine TT.ret ?_
      refine RT.of (rs := [.tmp 2, .tmp 3]) [_, _] hs rfl (.tmp rfl (.tmp rfl .nil)) (by repeat (first | exact Sel.refl _ | refine Sel.empty ?_ | refine Sel.pull (by repeat (first | exact Pull.head | apply Pull.tail)) ?_ | refine Sel.drop ?_)) ?_
      dsimp only [one]
      rw [← hp]
      exact ⟨rfl, rfl⟩
    ·
      have c15 : ((32 + k : Nat) : Int) ∈ copiesP xs := Decidable.byContradiction fun h => by rw [decide_eq_false h] at c15; cases c15
      rw [if_pos c15] at hp
      refine TT.skip ?_
      refine KT.blk ?_
      refine KT.seq ?_
      refine TT.region ?_
      refine OT.pures hT 3 rfl ?_
      refine OT.nil ?_
      refine KT.loop (k + 1) ?_ ?_ (SubR.cons rfl (SubR.cons rfl (SubR.cons' rfl (by (try dsimp only); exact (int_eq (by rw [wrap_i64 (by omega) (by omega)]; omega))) (SubR.nil _)))) (by repeat (first | exact Sel.refl _ | refine Sel.empty ?_ | refine Sel.pull (by repeat (first | exact Pull.head | apply Pull.tail)) ?_ | refine Sel.drop ?_))
      · refine ⟨by omega, ?_⟩
        rw [show 64 - (k + 1) = 63 - k by omega, show ((32 + (k + 1) : Nat) : Int) = ((32 + k : Nat) : Int) + 1 by omega]
        exact hp
      · omega
  ·
    have c9 := of_decide_eq_false c9
    rw [show 64 - k = 0 by omega, freeAt] at hp
    refine TT.exit ?_
    refine XT.seq ?_
    refine XT.loop ?_
    refine XT.here ?_
    refine KT.seq ?_
    refine TT.seq ?_
    refine TT.region ?_
    refine OT.pures hT 2 rfl ?_
    refine OT.nil ?_
    refine KT.seq ?_
    refine TT.ret ?_
    refine RT.of (rs := [.tmp 2, .tmp 3]) [_, _] hs rfl (.tmp rfl (.tmp rfl .nil)) (by repeat (first | exact Sel.refl _ | refine Sel.empty ?_ | refine Sel.pull (by repeat (first | exact Pull.head | apply Pull.tail)) ?_ | refine Sel.drop ?_)) ?_
    dsimp only [one]
    rw [← hp]
    exact ⟨rfl, rfl⟩

set_option maxHeartbeats 4000000 in
set_option maxRecDepth 100000 in
theorem ref_Copies {next : Int} {v : Value} {xs : List Snap} {hs : List Chunk} (hr : Row encSnap 35 hs v xs) (hl : xs.length ≤ 64) : Fun Try.prog 92 [.agg ⟨[.int .i64 next, v]⟩] hs (fun v' hs' => ∃ H', hs' = H' :: hs ∧ Own Go.Sx.encI 1 3 v' (copiesR xs) H') := by
  refine Fun.enter 37 Try.func92 rfl Try.ntmps92 rfl ?_
  obtain ⟨a0, c0, hv⟩ := hr.len
  subst hv
  refine TT.seq ?_
  refine TT.region ?_
  refine OT.box rfl rfl rfl (fun b_1 => ?_)
  refine OT.pures hT 1 rfl ?_
  refine OT.nil ?_
  refine KT.seq ?_
  refine TT.seq ?_
  refine TT.region ?_
  refine OT.pures hT 1 rfl ?_
  refine OT.nil ?_
  refine KT.seq ?_
  refine TT.seq ?_
  refine TT.seq ?_
  refine TT.region ?_
  refine OT.pures hT 1 rfl ?_
  refine OT.nil ?_
  refine KT.seq ?_
  refine TT.block ?_
  refine TT.chunk0 ?_
  refine TT.loop (ι := Nat × Value × Chunk) (fun j => (j.1) ≤ 255 ∧ Own Go.Sx.encI 1 3 (j.2.1) (copiesTo (j.1) xs) (j.2.2)) (fun j => 255 - (j.1)) (fun j => [(1, .pointer (some ⟨b_1, 0, none⟩)), (3, (j.2.1)), (4, .int .i64 (((j.1) : Int) + 1))]) (fun j => [(b_1, blk [.int .i64 next, .slice a0 xs.length c0] 74 (0, 0))] :: (j.2.2) :: hs) (0, .slice none 0 0, []) ?_ (SubR.cons rfl (SubR.cons rfl (SubR.cons rfl (SubR.nil _)))) (by repeat (first | exact Sel.refl _ | refine Sel.empty ?_ | refine Sel.pull (by repeat (first | exact Pull.head | apply Pull.tail)) ?_ | refine Sel.drop ?_)) ?_
  · dsimp only
    exact ⟨by omega, Own.nil⟩
  rintro ⟨k, w, K⟩ hI
  dsimp only at hI
  obtain ⟨hk, hO⟩ := hI
  show TT _ _ _ [(1, .pointer (some ⟨b_1, 0, none⟩)), (3, w), (4, .int .i64 ((k : Int) + 1))] ([(b_1, blk [.int .i64 next, .slice a0 xs.length c0] 74 (0, 0))] :: K :: hs)
  have hcl : (copiesTo k xs).length ≤ 255 * (64 * 32) := Nat.le_trans (copiesTo_length hr.1) (Nat.mul_le_mul hk (Nat.mul_le_mul hl (Nat.le_refl _)))
  refine TT.seq ?_
  refine TT.seq ?_
  refine TT.region ?_
  refine OT.pures hT 2 rfl ?_
  refine OT.nil ?_
  refine KT.seq ?_
  refine TT.cond rfl (fun c8 => ?_) (fun c8 => ?_)
  ·
    have c8 := of_decide_eq_true c8
    refine TT.skip ?_
    refine KT.seq ?_
    refine TT.seq ?_
    refine TT.block ?_
    refine TT.seq ?_
    refine TT.region ?_
    refine OT.pures hT 1 rfl ?_
    refine OT.nil ?_
    refine KT.seq ?_
    refine TT.block ?_
    refine TT.loop (ι := Nat × Value × Chunk) (fun j => (j.1) ≤ xs.length ∧ Own Go.Sx.encI 1 3 (j.2.1) (copiesTo k xs ++ sameIn ((k : Int) + 1) (xs.take (j.1))) (j.2.2)) (fun j => xs.length - (j.1)) (fun j => [(1, .pointer (some ⟨b_1, 0, none⟩)), (3, (j.2.1)), (4, .int .i64 ((k : Int) + 1)), (5, .int .i64 ((j.1) : Nat))]) (fun j => [(b_1, blk [.int .i64 next, .slice a0 xs.length c0] 74 (0, 0))] :: (j.2.2) :: hs) (0, w, K) ?_ (SubR.cons rfl (SubR.cons rfl (SubR.cons rfl (SubR.cons rfl (SubR.nil _))))) (by repeat (first | exact Sel.refl _ | refine Sel.empty ?_ | refine Sel.pull (by repeat (first | exact Pull.head | apply Pull.tail)) ?_ | refine Sel.drop ?_)) ?_
    · dsimp only
      exact ⟨by omega, by unfold sameIn; simpa using hO⟩
    rintro ⟨i, w2, K2⟩ hI
    dsimp only at hI
    obtain ⟨hi, hO2⟩ := hI
    show TT _ _ _ [(1, .pointer (some ⟨b_1, 0, none⟩)), (3, w2), (4, .int .i64 ((k : Int) + 1)), (5, .int .i64 (i : Nat))] ([(b_1, blk [.int .i64 next, .slice a0 xs.length c0] 74 (0, 0))] :: K2 :: hs)
    have hsl := sameIn_length (n := (k : Int) + 1) (xs := xs.take i) (fun s hs => hr.1 s (List.mem_of_mem_take hs))
    have hti := List.length_take_le' i xs
    refine TT.seq ?_
    refine TT.seq ?_
    refine TT.region ?_
    refine OT.pures hT 2 rfl ?_
    refine OT.load rfl rfl (Ld.slc hT rfl (by repeat (first | exact Has.one | apply Has.there)) rfl) rfl ?_
    refine OT.pures hT 2 rfl ?_
    refine OT.nil ?_
    refine KT.seq ?_
    refine TT.cond rfl (fun c15 => ?_) (fun c15 => ?_)
    ·
      have c15 := of_decide_eq_true c15
      obtain ⟨s, hy⟩ := nth (l := xs) (i := i) (by omega)
      have h35 := hr.1 s (List.mem_of_getElem? hy)
      have h32 := map32 h35
      refine TT.skip ?_
      refine KT.seq ?_
      refine TT.seq ?_
      refine TT.block ?_
      refine TT.seq ?_
      refine TT.region ?_
      refine OT.pures hT 1 rfl ?_
      refine OT.nil ?_
      refine KT.seq ?_
      refine TT.block ?_
      refine TT.loop (ι := Nat × Value × Chunk) (fun j => (j.1) ≤ 32 ∧ Own Go.Sx.encI 1 3 (j.2.1) (copiesTo k xs ++ sameIn ((k : Int) + 1) (xs.take i) ++ same ((k : Int) + 1) (s.map.take (j.1))) (j.2.2)) (fun j => 32 - (j.1)) (fun j => [(1, .pointer (some ⟨b_1, 0, none⟩)), (3, (j.2.1)), (4, .int .i64 ((k : Int) + 1)), (5, .int .i64 (i : Nat)), (6, .int .i64 ((j.1) : Nat))]) (fun j => [(b_1, blk [.int .i64 next, .slice a0 xs.length c0] 74 (0, 0))] :: (j.2.2) :: hs) (0, w2, K2) ?_ (SubR.cons rfl (SubR.cons rfl (SubR.cons rfl (SubR.cons rfl (SubR.cons rfl (SubR.nil _)))))) (by repeat (first | exact Sel.refl _ | refine Sel.empty ?_ | refine Sel.pull (by repeat (first | exact Pull.head | apply Pull.tail)) ?_ | refine Sel.drop ?_)) ?_
      · dsimp only
        exact ⟨by omega, by unfold same; simpa using hO2⟩
      rintro ⟨no, w3, K3⟩ hI
      dsimp only at hI
      obtain ⟨hno, hO3⟩ := hI
      show TT _ _ _ [(1, .pointer (some ⟨b_1, 0, none⟩)), (3, w3), (4, .int .i64 ((k : Int) + 1)), (5, .int .i64 (i : Nat)), (6, .int .i64 (no : Nat))] ([(b_1, blk [.int .i64 next, .slice a0 xs.length c0] 74 (0, 0))] :: K3 :: hs)
      have hn0 := same_length ((k : Int) + 1) (s.map.take no)
      have hn1 := List.length_take_le no s.map
      refine TT.seq ?_
      refine TT.seq ?_
      refine TT.region ?_
      refine OT.pures hT 2 rfl ?_
      refine OT.nil ?_
      refine KT.seq ?_
      refine TT.cond rfl (fun c19 => ?_) (fun c19 => ?_)
      ·
        have c19 := of_decide_eq_true c19
        obtain ⟨x, hn⟩ := nth (l := s.map) (i := no) (by omega)
        refine TT.skip ?_
        refine KT.seq ?_
        refine TT.seq ?_
        refine TT.block ?_
        refine TT.seq ?_
        refine TT.region ?_
        refine OT.pures hT 1 rfl ?_
        refine OT.load rfl rfl (Ld.slc hT rfl (by repeat (first | exact Has.one | apply Has.there)) rfl) rfl ?_
        refine OT.pures hT 2 rfl ?_
        refine OT.index hT rfl rfl rfl rfl hr.there.there (by omega) hy rfl (fun ad_26 hel_26 => ?_)
        obtain ⟨eb_26, eo_26, rfl, hfld_26⟩ := hel_26.at (P := Try.prog)
        refine OT.pures hT 1 rfl ?_
        refine OT.index_at hT rfl rfl rfl rfl (by omega) (by omega) rfl ?_
        refine OT.load rfl rfl (by rw [Nat.add_assoc]; exact hfld_26 hT rfl (snap_at hn)) rfl ?_
        refine OT.pures hT 2 rfl ?_
        refine OT.nil ?_
        refine KT.seq ?_
        refine TT.cond rfl (fun c31 => ?_) (fun c31 => ?_)
        ·
          have c31 : x = (k : Int) + 1 := by simpa using c31
          refine TT.region ?_
          refine OT.pures hT 2 rfl ?_
          refine OT.buildSlice (enc := Go.Sx.encI) (xs := [(k : Int) + 1]) (xos := [.tmp 33]) el59 rfl rfl rfl rfl rfl (by simp [Value.cells]) (fun _ _ => rfl) rfl (by decide) rfl (fun v_34 H_34 ho_34 => ?_)
          refine OT.append hT el59 rfl rfl rfl rfl (by repeat (first | exact Pull.head | apply Pull.tail)) hO3 ho_34.row rfl (by simp only [List.length_append, List.length_cons, List.length_nil]; omega) rfl (fun v_35 H_35 ho_35 => ?_)
          refine OT.pures hT 1 rfl ?_
          refine OT.nil ?_
          refine KT.blk ?_
          refine KT.seq ?_
          refine TT.region ?_
          refine OT.pures hT 3 rfl ?_
          refine OT.nil ?_
          refine KT.loop (no + 1, v_35, H_35) ?_ ?_ (SubR.cons rfl (SubR.cons rfl (SubR.cons rfl (SubR.cons rfl (SubR.cons' rfl (by (try dsimp only); exact (int_eq (by rw [wrap_i64 (by omega) (by omega)]; omega))) (SubR.nil _)))))) (by repeat (first | exact Sel.refl _ | refine Sel.empty ?_ | refine Sel.pull (by repeat (first | exact Pull.head | apply Pull.tail)) ?_ | refine Sel.drop ?_))
          · dsimp only
            refine ⟨by omega, ?_⟩
            unfold same
            rw [filter_take_succ _ hn, if_pos (by simpa using c31), ← List.append_assoc, c31]
            exact ho_35
          · dsimp only
            omega
        ·
          have c31 : ¬ x = (k : Int) + 1 := by simpa using c31
          refine TT.skip ?_
          refine KT.blk ?_
          refine KT.seq ?_
          refine TT.region ?_
          refine OT.pures hT 3 rfl ?_
          refine OT.nil ?_
          refine KT.loop (no + 1, w3, K3) ?_ ?_ (SubR.cons rfl (SubR.cons rfl (SubR.cons rfl (SubR.cons rfl (SubR.cons' rfl (by (try dsimp only); exact (int_eq (by rw [wrap_i64 (by omega) (by omega)]; omega))) (SubR.nil _)))))) (by repeat (first | exact Sel.refl _ | refine Sel.empty ?_ | refine Sel.pull (by repeat (first | exact Pull.head | apply Pull.tail)) ?_ | refine Sel.drop ?_))
          · dsimp only
            refine ⟨by omega, ?_⟩
            unfold same
            rw [filter_take_succ _ hn, if_neg (by simpa using c31), List.append_nil]
            exact hO3
          · dsimp only
            omega
      ·
        have c19 := of_decide_eq_false c19
        refine TT.exit ?_
        refine XT.seq ?_
        refine XT.loop ?_
        refine XT.here ?_
        refine KT.blk ?_
        refine KT.seq ?_
        refine TT.region ?_
        refine OT.pures hT 3 rfl ?_
        refine OT.nil ?_
        refine KT.loop (i + 1, w3, K3) ?_ ?_ (SubR.cons rfl (SubR.cons rfl (SubR.cons rfl (SubR.cons' rfl (by (try dsimp only); exact (int_eq (by rw [wrap_i64 (by omega) (by omega)]; omega))) (SubR.nil _))))) (by repeat (first | exact Sel.refl _ | refine Sel.empty ?_ | refine Sel.pull (by repeat (first | exact Pull.head | apply Pull.tail)) ?_ | refine Sel.drop ?_))
        · dsimp only
          refine ⟨by omega, ?_⟩
          unfold sameIn
          rw [flatMap_take_succ _ _ hy, ← List.append_assoc]
          rw [List.take_of_length_le (l := s.map) (by omega)] at hO3
          exact hO3
        · dsimp only
          omega
    ·
      have c15 := of_decide_eq_false c15
      refine TT.exit ?_
      refine XT.seq ?_
      refine XT.loop ?_
      refine XT.here ?_
      refine KT.blk ?_
      refine KT.seq ?_
      refine TT.region ?_
      refine OT.pures hT 3 rfl ?_
      refine OT.nil ?_
      refine KT.loop (k + 1, w2, K2) ?_ ?_ (SubR.cons rfl (SubR.cons rfl (SubR.cons' rfl (by (try dsimp only); exact (int_eq (by rw [wrap_i64 (by omega) (by omega)]; omega))) (SubR.nil _)))) (by repeat (first | exact Sel.refl _ | refine Sel.empty ?_ | refine Sel.pull (by repeat (first | exact Pull.head | apply Pull.tail)) ?_ | refine Sel.drop ?_))
      · dsimp only
        refine ⟨by omega, ?_⟩
        rw [copiesTo_succ]
        rw [List.take_of_length_le (by omega)] at hO2
        exact hO2
      · dsimp only
        omega
  ·
    have c8 := of_decide_eq_false c8
    obtain rfl : k = 255 := by omega
    refine TT.exit ?_
    refine XT.seq ?_
    refine XT.loop ?_
    refine XT.here ?_
    refine KT.seq ?_
    refine TT.seq ?_
    refine TT.region ?_
    refine OT.pures hT 2 rfl ?_
    refine OT.nil ?_
    refine KT.seq ?_
    refine TT.ret ?_
    refine RT.of (rs := [.tmp 2]) [_] (K :: hs) rfl (.tmp rfl .nil) (by repeat (first | exact Sel.refl _ | refine Sel.empty ?_ | refine Sel.pull (by repeat (first | exact Pull.head | apply Pull.tail)) ?_ | refine Sel.drop ?_)) ?_
    dsimp only [one]
    exact ⟨_, rfl, hO⟩

set_option maxHeartbeats 4000000 in
set_option maxRecDepth 100000 in
theorem ref_Take {next : Int} {v : Value} {xs : List Snap} {hs : List Chunk} (hr : Row encSnap 35 hs v xs) (hl : xs.length ≤ 64) : Fun Try.prog 77 [.agg ⟨[.int .i64 next, v]⟩] hs (fun v' hs' => v' = .tuple ⟨[.int .i64 (takeR xs).1, .bool (takeR xs).2]⟩ ∧ hs = hs') := by
  refine Fun.enter 31 Try.func77 rfl Try.ntmps77 rfl ?_
  obtain ⟨a0, c0, hv⟩ := hr.len
  subst hv
  refine TT.seq ?_
  refine TT.region ?_
  refine OT.box rfl rfl rfl (fun b_1 => ?_)
  refine OT.pures hT 2 rfl ?_
  refine OT.nil ?_
  refine KT.seq ?_
  refine TT.seq ?_
  refine TT.region ?_
  refine OT.load rfl rfl (Ld.struct_all hT rfl (by repeat (first | exact Has.one | apply Has.there)) rfl) rfl ?_
  refine OT.call Try.call92 rfl rfl rfl rfl (ref_Copies hr.there hl) ?_
  rintro v_9 hs_9 ⟨H9, rfl, ho9⟩
  obtain ⟨a9, c9, hv9⟩ := (ho9.row (hs := hs)).len
  subst hv9
  have hcl : (copiesR xs).length ≤ 255 * (64 * 32) := Nat.le_trans (copiesTo_length hr.1) (Nat.mul_le_mul (Nat.le_refl _) (Nat.mul_le_mul hl (Nat.le_refl _)))
  refine OT.pures hT 1 rfl ?_
  refine OT.nil ?_
  refine KT.seq ?_
  refine TT.seq ?_
  refine TT.seq ?_
  refine TT.region ?_
  refine OT.pures hT 1 rfl ?_
  refine OT.nil ?_
  refine KT.seq ?_
  refine TT.block ?_
  refine TT.loop (ι := Nat) (fun j => (j) ≤ 64 ∧ freeAt (64 - (j)) ((32 + (j) : Nat) : Int) (copiesR xs) = takeR xs) (fun j => 64 - (j)) (fun j => [(1, .pointer (some ⟨b_1, 0, none⟩)), (4, .slice a9 (copiesR xs).length c9), (5, .int .i64 ((32 + (j) : Nat) : Int))]) (fun j => H9 :: [(b_1, blk [.int .i64 next, .slice a0 xs.length c0] 74 (0, 0))] :: hs) (0) ?_ (SubR.cons rfl (SubR.cons rfl (SubR.cons rfl (SubR.nil _)))) (by repeat (first | exact Sel.refl _ | refine Sel.empty ?_ | refine Sel.pull (by repeat (first | exact Pull.head | apply Pull.tail)) ?_ | refine Sel.drop ?_)) ?_
  · exact ⟨by omega, rfl⟩
  rintro k ⟨hk, hp⟩
  show TT _ _ _ [(1, .pointer (some ⟨b_1, 0, none⟩)), (4, .slice a9 (copiesR xs).length c9), (5, .int .i64 ((32 + k : Nat) : Int))] (H9 :: [(b_1, blk [.int .i64 next, .slice a0 xs.length c0] 74 (0, 0))] :: hs)
  refine TT.seq ?_
  refine TT.seq ?_
  refine TT.region ?_
  refine OT.pures hT 2 rfl ?_
  refine OT.nil ?_
  refine KT.seq ?_
  refine TT.cond rfl (fun c11 => ?_) (fun c11 => ?_)
  ·
    have c11 := of_decide_eq_true c11
    rw [show 64 - k = (63 - k) + 1 by omega, freeAt] at hp
    refine TT.skip ?_
    refine KT.seq ?_
    refine TT.seq ?_
    refine TT.block ?_
    refine TT.seq ?_
    refine TT.region ?_
    refine OT.pures hT 1 rfl ?_
    refine OT.nil ?_
    refine KT.seq ?_
    refine TT.seq ?_
    refine TT.seq ?_
    refine TT.region ?_
    refine OT.pures hT 1 rfl ?_
    refine OT.nil ?_
    refine KT.seq ?_
    refine TT.block ?_
    refine TT.loop (ι := Nat × Bool) (fun j => (j.1) ≤ (copiesR xs).length ∧ ((j.2) = true ↔ ((32 + k : Nat) : Int) ∉ (copiesR xs).take (j.1))) (fun j => (copiesR xs).length - (j.1)) (fun j => [(1, .pointer (some ⟨b_1, 0, none⟩)), (4, .slice a9 (copiesR xs).length c9), (5, .int .i64 ((32 + k : Nat) : Int)), (6, .bool (j.2)), (7, .int .i64 ((j.1) : Nat))]) (fun j => H9 :: [(b_1, blk [.int .i64 next, .slice a0 xs.length c0] 74 (0, 0))] :: hs) (0, true) ?_ (SubR.cons rfl (SubR.cons rfl (SubR.cons rfl (SubR.cons rfl (SubR.cons rfl (SubR.nil _)))))) (by repeat (first | exact Sel.refl _ | refine Sel.empty ?_ | refine Sel.pull (by repeat (first | exact Pull.head | apply Pull.tail)) ?_ | refine Sel.drop ?_)) ?_
    · dsimp only
      exact ⟨by omega, by simp⟩
    rintro ⟨m, b⟩ hI
    dsimp only at hI
    obtain ⟨hm, hb⟩ := hI
    show TT _ _ _ [(1, .pointer (some ⟨b_1, 0, none⟩)), (4, .slice a9 (copiesR xs).length c9), (5, .int .i64 ((32 + k : Nat) : Int)), (6, .bool b), (7, .int .i64 (m : Nat))] (H9 :: [(b_1, blk [.int .i64 next, .slice a0 xs.length c0] 74 (0, 0))] :: hs)
    refine TT.seq ?_
    refine TT.seq ?_
    refine TT.region ?_
    refine OT.pures hT 4 rfl ?_
    refine OT.nil ?_
    refine KT.seq ?_
    refine TT.cond rfl (fun c17 => ?_) (fun c17 => ?_)
    ·
      have c17 := of_decide_eq_true c17
      obtain ⟨x, hx⟩ := nth (l := copiesR xs) (i := m) (by omega)
      refine TT.skip ?_
      refine KT.seq ?_
      refine TT.seq ?_
      refine TT.block ?_
      refine TT.region ?_
      refine OT.pures hT 2 rfl ?_
      refine OT.split 21 rfl (fun g21 => ?_) (fun g21 => ?_)
      ·
        refine OT.pures hT 2 rfl ?_
        refine OT.index hT rfl rfl rfl rfl ho9.row (by omega) hx rfl (fun ad_24 hel_24 => ?_)
        refine OT.load rfl rfl (hel_24.ld_one hT rfl rfl) rfl ?_
        refine OT.pures hT 4 rfl ?_
        refine OT.nil ?_
        refine KT.blk ?_
        refine KT.seq ?_
        refine TT.region ?_
        refine OT.pures hT 3 rfl ?_
        refine OT.nil ?_
        refine KT.loop (m + 1, _) ?_ ?_ (SubR.cons rfl (SubR.cons rfl (SubR.cons rfl (SubR.cons rfl (SubR.cons' rfl (by (try dsimp only); exact (int_eq (by rw [wrap_i64 (by omega) (by omega)]; omega))) (SubR.nil _)))))) (by repeat (first | exact Sel.refl _ | refine Sel.empty ?_ | refine Sel.pull (by repeat (first | exact Pull.head | apply Pull.tail)) ?_ | refine Sel.drop ?_))
        · dsimp only
          refine ⟨by omega, ?_⟩
          rw [take_succ hx, List.mem_append, not_or, ← hb, g21, List.mem_singleton]
          refine ⟨fun h => ⟨rfl, fun e => (bne_iff_ne (a := x) (b := ((32 + k : Nat) : Int))).1 h e.symm⟩, fun h => (bne_iff_ne (a := x) (b := ((32 + k : Nat) : Int))).2 fun e => h.2 e.symm⟩
        · dsimp only
          omega
      ·
        refine OT.pures hT 8 rfl ?_
        refine OT.nil ?_
        refine KT.blk ?_
        refine KT.seq ?_
        refine TT.region ?_
        refine OT.pures hT 3 rfl ?_
        refine OT.nil ?_
        refine KT.loop (m + 1, false) ?_ ?_ (SubR.cons rfl (SubR.cons rfl (SubR.cons rfl (SubR.cons rfl (SubR.cons' rfl (by (try dsimp only); exact (int_eq (by rw [wrap_i64 (by omega) (by omega)]; omega))) (SubR.nil _)))))) (by repeat (first | exact Sel.refl _ | refine Sel.empty ?_ | refine Sel.pull (by repeat (first | exact Pull.head | apply Pull.tail)) ?_ | refine Sel.drop ?_))
        · dsimp only
          refine ⟨by omega, ?_⟩
          rw [take_succ hx, List.mem_append, not_or, ← hb, g21]
          simp only [Bool.false_eq_true, false_and]
        · dsimp only
          omega
    ·
      have c17 := of_decide_eq_false c17
      rw [List.take_of_length_le (by omega)] at hb
      refine TT.exit ?_
      refine XT.seq ?_
      refine XT.loop ?_
      refine XT.here ?_
      refine KT.seq ?_
      refine TT.seq ?_
      refine TT.region ?_
      refine OT.pures hT 1 rfl ?_
      refine OT.nil ?_
      refine KT.seq ?_
      refine TT.cond rfl (fun c29 => ?_) (fun c29 => ?_)
      ·
        rw [if_neg (hb.1 c29)] at hp
        refine TT.seq ?_
        refine TT.region ?_
        refine OT.pures hT 3 rfl ?_
        refine OT.nil ?_
        refine KT.seq ?_
        refine TT.ret ?_
        refine RT.of (rs := [.tmp 2, .tmp 3]) [_, _] hs rfl (.tmp rfl (.tmp rfl .nil)) (by repeat (first | exact Sel.refl _ | refine Sel.empty ?_ | refine Sel.pull (by repeat (first | exact Pull.head | apply Pull.tail)) ?_ | refine Sel.drop ?_)) ?_
        dsimp only [one]
        rw [← hp]
        exact ⟨rfl, rfl⟩
      ·
        rw [if_pos (Decidable.byContradiction fun h => by rw [hb.2 h] at c29; cases c29)] at hp
        refine TT.skip ?_
        refine KT.blk ?_
        refine KT.seq ?_
        refine TT.region ?_
        refine OT.pures hT 3 rfl ?_
        refine OT.nil ?_
        refine KT.loop (k + 1) ?_ ?_ (SubR.cons rfl (SubR.cons rfl (SubR.cons' rfl (by (try dsimp only); exact (int_eq (by rw [wrap_i64 (by omega) (by omega)]; omega))) (SubR.nil _)))) (by repeat (first | exact Sel.refl _ | refine Sel.empty ?_ | refine Sel.pull (by repeat (first | exact Pull.head | apply Pull.tail)) ?_ | refine Sel.drop ?_))
        · refine ⟨by omega, ?_⟩
          rw [show 64 - (k + 1) = 63 - k by omega, show ((32 + (k + 1) : Nat) : Int) = ((32 + k : Nat) : Int) + 1 by omega]
          exact hp
        · omega
  ·
    have c11 := of_decide_eq_false c11
    rw [show 64 - k = 0 by omega, freeAt] at hp
    refine TT.exit ?_
    refine XT.seq ?_
    refine XT.loop ?_
    refine XT.here ?_
    refine KT.seq ?_
    refine TT.seq ?_
    refine TT.region ?_
    refine OT.pures hT 2 rfl ?_
    refine OT.nil ?_
    refine KT.seq ?_
    refine TT.ret ?_
    refine RT.of (rs := [.tmp 2, .tmp 3]) [_, _] hs rfl (.tmp rfl (.tmp rfl .nil)) (by repeat (first | exact Sel.refl _ | refine Sel.empty ?_ | refine Sel.pull (by repeat (first | exact Pull.head | apply Pull.tail)) ?_ | refine Sel.drop ?_)) ?_
    dsimp only [one]
    rw [← hp]
    exact ⟨rfl, rfl⟩

end Go.Proofs.Ytnhkgchcdbideaa.Sx
end

section
namespace Go.Proofs.Ytnhkgchcdbideaa.Sx
open Go Go.Sx Go.Pl
variable [Outer]

set_option maxHeartbeats 1000000 in
set_option maxRecDepth 100000 in
theorem rb_page {bb : Nat} {vs : List Value} {n : Int} {vS : Value} {R : Pages} {hs : List Chunk} (hb : Has hs bb (blk (rbCells vs n vS) 76 (0, 0))) (hS : Slots hs vs R) {k : Nat} (hk : k < 96) : Fun Try.prog 63 [.pointer (some ⟨bb, 0, none⟩), .int .i64 (k : Nat)] hs (fun v' hs' => ∃ K, hs' = K :: hs ∧ Row Go.Sx.encB 1 (K :: hs) v' (R (k : Nat))) := by
  refine Fun.enter 19 Try.func63 rfl Try.ntmps63 rfl ?_
  obtain ⟨v, hv, hsl⟩ := hS.at_ k hk
  obtain ⟨sp, sn, sc, rfl, hsN, hsS⟩ := hsl.slice
  refine TT.seq (.region (.pures hT 1 rfl (.nil (.seq (.seq (.seq (.region (.pures hT 4 rfl (.index_at hT rfl rfl rfl rfl (by omega) (by omega) rfl (.load rfl rfl (Ld.slc hT rfl hb (rb_at hS.len hv (by omega))) rfl (.pures hT 1 rfl (.nil (.seq (.cond rfl (fun c11 => ?_) (fun c11 => ?_)))))))))))))))
  ·
    refine TT.seq (.region ?_)
    refine OT.make (enc := Go.Sx.encB) (z0 := (0 : UInt8)) (n := 256) el22 Try.zeroValue5 rfl rfl rfl rfl rfl (by omega) rfl (fun v_12 H_12 ho_12 => ?_)
    refine OT.pures hT 1 rfl (.nil (.seq (.ret (.of (rs := [.tmp 4]) [_] (H_12 :: hs) rfl (.tmp rfl .nil) sl ?_))))
    dsimp only [one]
    exact ⟨_, rfl, by rw [hsN c11]; exact ho_12.row⟩
  ·
    refine TT.skip (.seq (.seq (.region (.pures hT 4 rfl (.index_at hT rfl rfl rfl rfl (by omega) (by omega) rfl (.load rfl rfl (Ld.slc hT rfl hb (rb_at hS.len hv (by omega))) rfl (.pures hT 1 rfl (.nil (.seq (.ret (.of (rs := [.tmp 4]) [_] ([] :: hs) rfl (.tmp rfl .nil) sl ?_)))))))))))
    dsimp only [one]
    exact ⟨[], rfl, (hsS c11).there⟩


set_option maxHeartbeats 1000000 in
set_option maxRecDepth 100000 in
theorem rb_kept {bb : Nat} {vs : List Value} {n : Int} {vS : Value} {R : Pages} {hs : List Chunk} (hb : Has hs bb (blk (rbCells vs n vS) 76 (0, 0))) (hS : Slots hs vs R) {s : Snap} (h35 : (encSnap s).length = 35) (hsd : s.side) {k : Nat} (hk : k < 32)  : Fun Try.prog 64 [.pointer (some ⟨bb, 0, none⟩), .agg ⟨encSnap s⟩, .int .i64 (k : Nat)] hs (fun v' hs' => ∃ K, hs' = K :: hs ∧ Row Go.Sx.encB 1 (K :: hs) v' (R (viewNo s (k : Nat)))) := by
  refine Fun.enter 21 Try.func64 rfl Try.ntmps64 rfl ?_
  have h32 := map32 h35
  obtain ⟨x, hx⟩ := nth (l := s.map) (i := k) (by omega)
  have hxs := hsd x (List.mem_of_getElem? hx)
  refine TT.seq (.region (.box rfl rfl rfl (fun b_4 => ?_)))
  refine OT.pures hT 1 rfl (.nil (.seq (.seq (.seq (.region (.pures hT 2 rfl (.index_at hT rfl rfl rfl rfl (by omega) (by omega) rfl (.load rfl rfl (Ld.one hT rfl hz (snap_at hx)) rfl ?_))))))))
  refine OT.pures hT 1 rfl (.nil (.seq (.cond rfl (fun c11 => ?_) (fun c11 => ?_))))
  ·
    have c11 := bne_iff_ne.1 c11
    refine TT.seq (.region (.pures hT 3 rfl (.index_at hT rfl rfl rfl rfl (by omega) (by omega) rfl (.load rfl rfl (Ld.one hT rfl hz (snap_at hx)) rfl ?_))))
    obtain ⟨x', hx'⟩ : ∃ m : Nat, x = m := ⟨x.toNat, by omega⟩
    subst hx'
    refine OT.call Try.call63 rfl rfl rfl rfl (rb_page (.there hb) (hS.mono fun _ _ => .there) (k := x') (by omega)) ?_
    rintro v_17 hs_17 ⟨K, rfl, hr⟩
    refine OT.pures hT 1 rfl (.nil (.seq (.ret (.of (rs := [.tmp 6]) [_] ((K ++ [(b_4, blk (encSnap s) 45 (0, 0))]) :: hs) rfl (.tmp rfl .nil) sl ?_))))
    dsimp only [one]
    refine ⟨_, rfl, ?_⟩
    have e : viewNo s (k : Nat) = ((x' : Nat) : Int) := by unfold viewNo; rw [Snap.at_some hx, if_pos c11]
    rw [e]
    exact hr.mono fun b o hb => Has.of_mem (by have := hb.mem; simp only [List.flatten_cons, List.mem_append, List.mem_singleton] at this ⊢; rcases this with h | h | h; exact .inl (.inl h); exact .inl (.inr h); exact .inr h)
  ·
    have c11 := bne_eq_false_iff_eq.1 c11
    refine TT.skip (.seq (.seq (.region (.pures hT 2 rfl (.call Try.call63 rfl rfl rfl rfl (rb_page (.there hb) (hS.mono fun _ _ => .there) (k := k) (by omega)) ?_)))))
    rintro v_20 hs_20 ⟨K, rfl, hr⟩
    refine OT.pures hT 1 rfl (.nil (.seq (.ret (.of (rs := [.tmp 6]) [_] ((K ++ [(b_4, blk (encSnap s) 45 (0, 0))]) :: hs) rfl (.tmp rfl .nil) sl ?_))))
    dsimp only [one]
    refine ⟨_, rfl, ?_⟩
    have e : viewNo s (k : Nat) = ((k : Nat) : Int) := by unfold viewNo; rw [Snap.at_some hx, if_neg (fun h => h c11)]
    rw [e]
    exact hr.mono fun b o hb => Has.of_mem (by have := hb.mem; simp only [List.flatten_cons, List.mem_append, List.mem_singleton] at this ⊢; rcases this with h | h | h; exact .inl (.inl h); exact .inl (.inr h); exact .inr h)

set_option maxHeartbeats 1000000 in
set_option maxRecDepth 100000 in
theorem rb_needs {bb : Nat} {vs : List Value} {n : Int} {vS : Value} {R : Pages} {hs : List Chunk} (hb : Has hs bb (blk (rbCells vs n vS) 76 (0, 0))) (hS : Slots hs vs R) {s : Snap} (h35 : (encSnap s).length = 35) (hsd : s.side) {k : Nat} (hk : k < 32) (hk1 : 1 ≤ k) : Fun Try.prog 76 [.pointer (some ⟨bb, 0, none⟩), .agg ⟨encSnap s⟩, .int .i64 (k : Nat)] hs (fun v' hs' => v' = .bool (needsB R s (k : Nat)) ∧ hs = hs') := by
  refine Fun.enter 37 Try.func76 rfl Try.ntmps76 rfl ?_
  have h32 := map32 h35
  obtain ⟨x, hx⟩ := nth (l := s.map) (i := k) (by omega)
  have hlen := hS.long _ (viewNo_may hsd (no := 1) (by unfold mayPage; omega))
  refine TT.seq (.region (.box rfl rfl rfl (fun b_4 => ?_)))
  refine OT.pures hT 1 rfl (.nil (.seq (.seq (.seq (.region (.pures hT 1 rfl (.load rfl rfl (Ld.one hT rfl hz rfl) rfl ?_)))))))
  refine OT.pures hT 1 rfl (.split 9 rfl (fun g9 => ?_) (fun g9 => ?_))
  ·
    refine OT.pures hT 6 rfl (.nil (.seq (.cond_true rfl (.seq (.region (.pures hT 1 rfl (.nil (.seq (.ret (.of (rs := [.tmp 6]) [_] hs rfl (.tmp rfl .nil) sl ?_))))))))))
    dsimp only [one]
    refine ⟨congrArg Value.bool ?_, rfl⟩
    unfold needsB
    rw [if_pos (.inl g9)]
  ·
    refine OT.pures hT 2 rfl (.index_at hT rfl rfl rfl rfl (by omega) (by omega) rfl (.load rfl rfl (Ld.one hT rfl hz (snap_at hx)) rfl ?_))
    refine OT.pures hT 2 rfl (.nil (.seq (.cond rfl (fun c15 => ?_) (fun c15 => ?_))))
    ·
      have c15 := bne_iff_ne.1 c15
      refine TT.seq (.region (.pures hT 1 rfl (.nil (.seq (.ret (.of (rs := [.tmp 6]) [_] hs rfl (.tmp rfl .nil) sl ?_))))))
      dsimp only [one]
      refine ⟨congrArg Value.bool ?_, rfl⟩
      unfold needsB
      rw [Snap.at_some hx, if_pos (.inr c15)]
    ·
      have c15 := bne_eq_false_iff_eq.1 c15
      refine TT.skip (.seq (.seq (.region (.pures hT 3 rfl (.split 18 rfl (fun g18 => ?_) (fun g18 => ?_))))))
      ·
        have g18 := beq_iff_eq.1 g18
        refine OT.pures hT 19 rfl (.nil (.seq (.ret (.of (rs := [.tmp 6]) [_] hs rfl (.tmp rfl .nil) sl ?_))))
        dsimp only [one]
        refine ⟨congrArg Value.bool ?_, rfl⟩
        unfold needsB
        rw [Snap.at_some hx, if_neg (fun h => h.elim (fun h => by rw [g9] at h; cases h) (fun h => h c15)), if_pos g18]
      ·
        have g18 := beq_eq_false_iff_ne.1 g18
        refine OT.pures hT 3 rfl (.split 21 rfl (fun g21 => ?_) (fun g21 => ?_))
        ·
          refine OT.pures hT 1 rfl (.load rfl rfl (Ld.struct_all hT rfl hz (by exact h35)) rfl ?_)
          refine OT.call Try.call64 rfl rfl rfl rfl (rb_kept (.there hb) (hS.mono fun _ _ => .there) h35 hsd (k := 1) (by decide)) ?_
          rintro v_24 hs_24 ⟨K, rfl, hr⟩
          obtain ⟨cb, hcb⟩ := nth (l := R (viewNo s ((1 : Nat) : Int))) (i := k / 8) (by have : (R (viewNo s ((1 : Nat) : Int))).length = 256 := hlen; omega)
          refine OT.pures hT 2 rfl (.reg 26 rfl (v := .int .i64 ((k / 8 : Nat) : Int)) (int_eq (by rw [Int.tdiv_eq_ediv_of_nonneg (by omega), wrap_i64 (by omega) (by omega)]; omega)) (.index hT rfl rfl rfl rfl hr (by omega) (by rw [Int.toNat_natCast]; exact hcb) rfl (fun ad_27 hel_27 => ?_)))
          refine OT.load rfl rfl (hel_27.ld_one hT rfl rfl) rfl (.pures hT 3 rfl (.reg 31 rfl (v := .int .u64 ((k % 8 : Nat) : Int)) (int_eq (by rw [Int.tmod_eq_emod_of_nonneg (by omega), wrap_u64 (by omega) (by omega)]; omega)) (.shr hT rfl rfl rfl (by omega) rfl (.pures hT 5 rfl (.nil (.seq (.ret (.of (rs := [.tmp 6]) [_] hs rfl (.tmp rfl .nil) sl ?_))))))))
          dsimp only [one]
          refine ⟨congrArg Value.bool ?_, rfl⟩
          unfold needsB
          rw [Snap.at_some hx, if_neg (fun h => h.elim (fun h => by rw [g9] at h; cases h) (fun h => h c15)), if_neg g18]
          have hbit := bit_all ⟨cb.toNat, cb.toNat_lt⟩ ⟨k % 8, Nat.mod_lt _ (by decide)⟩
          unfold hasB
          have e : (R (viewNo s 1)).getD (((k : Nat) : Int).toNat / 8) 0 = cb := by rw [Int.toNat_natCast, List.getD_eq_getElem?_getD, show viewNo s 1 = viewNo s ((1 : Nat) : Int) from rfl, hcb]; rfl
          rw [decide_eq_true (show mayUse ((k : Nat) : Int) by unfold mayUse; omega), Bool.true_and, e, show (((k : Nat) : Int).toNat % 8) = k % 8 by rw [Int.toNat_natCast]]
          exact hbit
        ·
          exact absurd (of_decide_eq_false g21) (by omega)

end Go.Proofs.Ytnhkgchcdbideaa.Sx
end

section
namespace Go.Proofs.Ytnhkgchcdbideaa.Sx
open Go Go.Sx Go.Pl
variable [Outer]

omit [Outer] in
theorem filter_drop {l : List Int} {i : Nat} {x : Int} (p : Int → Bool) (h : l[i]? = some x) : (l.drop i).filter p = (if p x = true then [x] else []) ++ (l.drop (i + 1)).filter p := by
  rw [drop_cons h, List.filter_cons]
  split <;> rfl

set_option maxHeartbeats 4000000 in
set_option maxRecDepth 100000 in
theorem rb_copies {bb : Nat} {vs : List Value} {n : Int} {vS : Value} {R : Pages} {r : List Chunk} (hS : Slots r vs R) {xs : List Snap} {HS : Chunk} (ho : Own encSnap 35 45 vS (xs) HS) (hxl : xs.length ≤ 64) (hsd : ∀ s ∈ xs, s.side) {k : Nat} (hk : k < xs.length) {vl : Value} {ts : List Im} (hi : ImsAt r vl ts) (hd : ∀ x ∈ imgs ts, 1 ≤ x.1 ∧ x.1 < 32) : Fun Try.prog 59 [.pointer (some ⟨bb, 0, none⟩), .int .i64 (k : Nat), vl] ([(bb, blk (rbCells vs n vS) 76 (0, 0))] :: HS :: r) (fun v' hs' => ∃ HS', hs' = [(bb, blk (rbCells vs n vS) 76 (0, 0))] :: HS' :: r ∧ v' = .tuple ⟨[]⟩ ∧ Own encSnap 35 45 vS (copiesC R xs k ((imgs ts).map Prod.fst)) HS') := by
  refine Fun.enter 72 Try.func59 rfl Try.ntmps59 rfl ?_
  obtain ⟨ib, io, ic, hvs⟩ : ∃ ib io ic, vS = .slice (some ⟨ib, io, none⟩) xs.length ic := by
    obtain ⟨b, o, cap, cs, fr, hv, _⟩ := ho.over (by omega)
    exact ⟨b, o, cap, hv⟩
  subst hvs
  obtain ⟨al, cl, hvl⟩ := hi.row.len
  subst hvl
  obtain ⟨s, hsk⟩ := nth (l := xs) (i := k) hk
  have h35 := ho.enc_len s (List.mem_of_getElem? hsk)
  have h32 := map32 h35
  have hss := hsd s (List.mem_of_getElem? hsk)
  have hfew := hi.few
  have hC : copiesC R xs k ((imgs ts).map Prod.fst) = takeAll xs k (((imgs ts).map Prod.fst).filter (needsB R s)) := by unfold copiesC; rw [hsk]
  have hnl : ((imgs ts).map Prod.fst).length = ts.length := by rw [List.length_map, imgs_length]
  refine TT.seq (.region (.pures hT 4 rfl (.load rfl rfl (Ld.slc hT rfl hz (rb_v hS.len)) rfl ?_)))
  refine OT.pures hT 1 rfl (.index hT rfl rfl rfl rfl ro (by omega) (by rw [Int.toNat_natCast]; exact hsk) rfl (fun ad_17 hel_17 => ?_))
  refine OT.load rfl rfl (hel_17.ld_struct hT rfl) rfl (.alloc Try.zeroValue45 rfl rfl (fun b_6 => ?_))
  refine OT.store_all hT rfl rfl rfl rfl pl (by exact h35) rfl (ones_snap s) (.inl (Nat.le_refl _)) ?_
  refine OT.nil (.seq (.seq (.region (.load rfl rfl (Ld.struct_all hT rfl hz (by exact h35)) rfl ?_))))
  refine OT.alloc Try.zeroValue45 rfl rfl (fun b_7 => ?_)
  refine OT.store_all hT rfl rfl rfl rfl pl (by exact h35) rfl (ones_snap s) (.inl (Nat.le_refl _)) ?_
  refine OT.nil (.seq (.seq (.seq (.region (.pures hT 1 rfl (.nil (.seq (.block (.loop (ι := Nat × Snap × (List Snap) × Chunk) (fun j => (j.1) ≤ ts.length ∧ Own encSnap 35 45 (.slice (some ⟨ib, io, none⟩) xs.length ic) ((j.2.2.1)) (j.2.2.2) ∧ (j.2.2.1).length = xs.length ∧ (∀ t, (j.2.2.1).set k t = xs.set k t) ∧ (j.2.1).side ∧ (j.2.1).map.length = 32 ∧ takeAll (xs.set k (j.2.1)) k ((((imgs ts).map Prod.fst).drop (j.1)).filter (needsB R s)) = copiesC R xs k ((imgs ts).map Prod.fst)) (fun j => ts.length - (j.1)) (fun j => [(0, .pointer (some ⟨bb, 0, none⟩)), (1, .int .i64 (k : Nat)), (2, .slice al ts.length cl), (6, .pointer (some ⟨b_6, 0, none⟩)), (7, .pointer (some ⟨b_7, 0, none⟩)), (8, .int .i64 ((j.1) : Nat))]) (fun j => [(b_6, blk (encSnap (j.2.1)) 45 (0, 0))] :: [(b_7, blk (encSnap s) 45 (0, 0))] :: [(bb, blk (rbCells vs n (.slice (some ⟨ib, io, none⟩) xs.length ic)) 76 (0, 0))] :: (j.2.2.2) :: r) (0, s, xs, HS) ?_ (SubR.cons rfl (SubR.cons rfl (SubR.cons rfl (SubR.cons rfl (SubR.cons rfl (SubR.cons rfl (SubR.nil _))))))) sl ?_)))))))))
  · dsimp only
    exact ⟨by omega, ho, rfl, fun _ => rfl, hss, h32, by rw [hC, List.drop_zero]; congr 1; exact (set_same hsk).symm⟩
  rintro ⟨i, s1, zs, HS1⟩ hI
  dsimp only at hI
  obtain ⟨hin, ho1, hzl, hzs, hs1d, hs1m, hp⟩ := hI
  show TT _ _ _ [(0, .pointer (some ⟨bb, 0, none⟩)), (1, .int .i64 (k : Nat)), (2, .slice al ts.length cl), (6, .pointer (some ⟨b_6, 0, none⟩)), (7, .pointer (some ⟨b_7, 0, none⟩)), (8, .int .i64 (i : Nat))] ([(b_6, blk (encSnap s1) 45 (0, 0))] :: [(b_7, blk (encSnap s) 45 (0, 0))] :: [(bb, blk (rbCells vs n (.slice (some ⟨ib, io, none⟩) xs.length ic)) 76 (0, 0))] :: HS1 :: r)
  have hs1e : (encSnap s1).length = 35 := len35.2 hs1m
  have hxd := side_set (k := k) hsd hs1d
  refine TT.seq (.seq (.region (.pures hT 4 rfl (.nil (.seq (.cond rfl (fun c23 => ?_) (fun c23 => ?_)))))))
  ·
    have c23 := of_decide_eq_true c23
    obtain ⟨t, ht⟩ := nth (l := ts) (i := i) (by omega)
    have hit := imgs_at ht
    have hnt : ((imgs ts).map Prod.fst)[i]? = some t.no := by rw [List.getElem?_map, hit]; rfl
    obtain ⟨ht1, ht2⟩ := hd _ (List.mem_of_getElem? hit)
    unfold Im.img at ht1 ht2
    dsimp only at ht1 ht2
    obtain ⟨no, hno⟩ : ∃ no : Nat, t.no = no := ⟨t.no.toNat, by omega⟩
    rw [filter_drop _ hnt, hno] at hp
    refine TT.skip (.seq (.seq (.block (.seq (.seq (.draw (([(b_7, blk (encSnap s) 45 (0, 0))] :: r)) mixed (.takes (fuel := 6) hT [0, 2, 3] kr kr rfl (.take (fuel := 5) hT 1 rfl rfl kr kr kr rfl (.load rfl (Ld.struct_all hT rfl hz (by exact h35))) rfl ?_))))))))
    refine AT.index (fuel := 4) hT 4 rfl kr kr kr rfl rfl rfl rfl (hi.row.mono fun b o hb => Has.sel sl hb) (by omega) (by exact ht) rfl (fun ad_30 hel_30 => ?_)
    obtain ⟨eb_30, eo_30, rfl, hfld_30⟩ := hel_30.at (P := Try.prog)
    refine AT.takes (fuel := 3) hT [5] kr kr rfl (.take (fuel := 2) hT 6 rfl rfl kr kr kr rfl (.load rfl (by have := hfld_30 hT (t := 3) rfl (j := 0) (v := .int .i64 t.no) rfl; rw [hno] at this; exact this)) rfl ?_)
    refine AT.op (fuel := 1) 7 kr rfl sl (.call Try.call76 rfl rfl rfl rfl (rb_needs (hs := [(b_6, blk (encSnap s1) 45 (0, 0))] :: [(b_7, blk (encSnap s) 45 (0, 0))] :: [(bb, blk (rbCells vs n (.slice (some ⟨ib, io, none⟩) xs.length ic)) 76 (0, 0))] :: HS1 :: r) (by exact hz) (hS.mono fun b o hb => Has.sel sl hb) h35 hss (k := no) (by omega) (by omega)) ?_)
    rintro v_33 hs_33 ⟨rfl, rfl⟩
    refine OT.nil (.any (.takes (fuel := 0) hT [8] kr kr rfl (.done kr sl (.seq (.cond rfl (fun c34 => ?_) (fun c34 => ?_))))))
    ·
      have c34 : needsB R s (no : Nat) = false := by simpa using c34
      rw [c34, if_neg (by simp), List.nil_append] at hp
      refine TT.exit (.seq (.here (.seq (.region (.pures hT 3 rfl (.nil (.loop (i + 1, s1, zs, HS1) ?_ ?_ (SubR.cons rfl (SubR.cons rfl (SubR.cons rfl (SubR.cons rfl (SubR.cons rfl (SubR.cons' rfl (by (try dsimp only); exact (int_eq (by rw [wrap_i64 (by omega) (by omega)]; omega))) (SubR.nil _))))))) sl)))))))
      · dsimp only
        exact ⟨by omega, ho1, hzl, hzs, hs1d, hs1m, hp⟩
      · dsimp only
        omega
    ·
      have c34 : needsB R s (no : Nat) = true := by simpa using c34
      rw [c34, if_pos rfl] at hp
      obtain ⟨z0, hz0⟩ := nth (l := zs) (i := k) (by omega)
      have hz035 := ho1.enc_len z0 (List.mem_of_getElem? hz0)
      refine TT.skip (.seq (.seq (.draw (([(b_6, blk (encSnap s1) 45 (0, 0))] :: [(bb, blk (rbCells vs n (.slice (some ⟨ib, io, none⟩) xs.length ic)) 76 (0, 0))] :: r)) mixed (.takes (fuel := 4) hT [0, 1, 2, 3, 5] kr kr rfl (.take (fuel := 3) hT 4 rfl rfl kr kr kr rfl (.load rfl (Ld.slc hT rfl hz (rb_v hS.len))) rfl ?_)))))
      refine AT.take (fuel := 2) hT 6 rfl rfl kr kr kr rfl (.load rfl (Ld.struct_all hT rfl hz (by exact hs1e))) rfl ?_
      refine AT.op (fuel := 1) 7 kr rfl sl (.index_raw hT rfl rfl rfl rfl (by omega) (by omega) rfl (.nil (.any (.op (fuel := 0) 8 kr rfl sl (.store_el k 0 hT rfl rfl rfl rfl pl ho1 hz0 (by omega) (by exact hs1e) (by decide) (ones_snap s1) (by exact splice_whole (hz035.trans hs1e.symm)) (fun H_y ho_y => ?_))))))
      refine OT.nil (.any (.done kr sl (.seq (.seq (.region (.pures hT 3 rfl (.load rfl rfl (Ld.struct (vs := [.int .i64 n, (.slice (some ⟨ib, io, none⟩) xs.length ic)]) hT rfl hz (by exact rb_cat hS.len) rfl) rfl ?_)))))))
      refine OT.call Try.call77 rfl rfl rfl rfl (ref_Take (xs := xs.set k s1) (by rw [← hzs]; exact (ho_y.row.mono fun b o hb => hb)) (by rw [List.length_set]; exact hxl)) ?_
      rintro v_48 hs_48 ⟨rfl, rfl⟩
      rw [takeR_side hxd]
      obtain ⟨a, hav⟩ : ∃ a, (takeP (xs.set k s1)).1 = a := ⟨_, rfl⟩
      rw [show ([((no : Nat) : Int)] ++ (((imgs ts).map Prod.fst).drop (i + 1)).filter (needsB R s)) = ((no : Nat) : Int) :: (((imgs ts).map Prod.fst).drop (i + 1)).filter (needsB R s) from rfl, takeAll] at hp
      have hsk1 : (xs.set k s1)[k]? = some s1 := List.getElem?_set_self hk
      refine OT.pures hT 5 rfl (.nil (.seq (.seq (.seq (.region (.pures hT 2 rfl (.nil (.seq (.cond rfl (fun c52 => ?_) (fun c52 => ?_))))))))))
      ·
        have c52 : (takeP (xs.set k s1)).2 = false := by simpa using c52
        have htp : takeP (xs.set k s1) = (a, false) := by rw [← hav, ← c52]
        rw [htp] at hp
        have hp : (xs.set k s1).modify k lose = copiesC R xs k ((imgs ts).map Prod.fst) := hp
        rw [modify_at hsk1, List.set_set] at hp
        refine TT.seq (.region (.arr0 hT rfl Try.zeroValue43 rfl rfl (.pures hT 1 rfl (.store hT rfl rfl rfl rfl pl rfl (by show 2 + 1 ≤ (encSnap s1).length; omega) rfl (.inl (Nat.le_refl _)) (enc_inv true) ?_))))
        refine OT.pures hT 1 rfl (.store hT rfl rfl rfl rfl pl rfl (by show 3 + 32 ≤ (encSnap { s1 with inv := true }).length; rw [len35.2 (show ({ s1 with inv := true } : Snap).map.length = 32 from hs1m)]; omega) rfl (.inl (Nat.le_refl _)) (enc_lose (s := { s1 with inv := true }) hs1m (List.replicate 32 0) rfl) ?_)
        refine OT.nil (.seq (.exit (.seq (.blk rfl (.seq (.loop (.here (.seq (.draw (([(b_6, blk (encSnap (lose s1)) 45 (0, 0))] :: [(bb, blk (rbCells vs n (.slice (some ⟨ib, io, none⟩) xs.length ic)) 76 (0, 0))] :: r)) mixed (.takes (fuel := 4) hT [0, 1, 2, 3, 5] kr kr rfl (.take (fuel := 3) hT 4 rfl rfl kr kr kr rfl (.load rfl (Ld.slc hT rfl hz (rb_v hS.len))) rfl ?_)))))))))))
        refine AT.take (fuel := 2) hT 6 rfl rfl kr kr kr rfl (.load rfl (Ld.struct_all hT rfl hz (by exact (len35 (s := lose s1)).2 rfl))) rfl ?_
        refine AT.op (fuel := 1) 7 kr rfl sl (.index_raw hT rfl rfl rfl rfl (by omega) (by omega) rfl (.nil (.any (.op (fuel := 0) 8 kr rfl sl ?_))))
        have hl35 : (encSnap (lose s1)).length = 35 := len35.2 rfl
        refine OT.store_el k 0 hT rfl rfl rfl rfl pl ho_y (List.getElem?_set_self (by omega)) (by omega) (by exact hl35) (by decide) (ones_snap (lose s1)) (by exact splice_whole (hs1e.trans hl35.symm)) (fun H_f ho_f => ?_)
        refine OT.nil (.any (.done kr sl (.of (rs := []) [] ([(bb, blk (rbCells vs n (.slice (some ⟨ib, io, none⟩) xs.length ic)) 76 (0, 0))] :: H_f :: r) rfl .nil sl ?_)))
        try dsimp only [one]
        refine ⟨H_f, rfl, rfl, ?_⟩
        rw [← hp, ← hzs]
        rw [List.set_set] at ho_f
        exact ho_f
      ·
        have c52 : (takeP (xs.set k s1)).2 = true := by simpa using c52
        have htp : takeP (xs.set k s1) = (a, true) := by rw [← hav, ← c52]
        obtain ⟨ha1, ha2, _⟩ := takeP_side htp
        rw [htp] at hp ⊢
        have hp : takeAll ((xs.set k s1).modify k fun s => give s (no : Nat) a) k ((((imgs ts).map Prod.fst).drop (i + 1)).filter (needsB R s)) = copiesC R xs k ((imgs ts).map Prod.fst) := hp
        rw [modify_at hsk1, List.set_set] at hp
        refine TT.skip (.seq (.region (.pures hT 2 rfl (.index hT rfl rfl rfl rfl (hi.row.mono fun b o hb => Has.sel sl hb) (by omega) (by rw [Int.toNat_natCast]; exact ht) rfl (fun ad_58 hel_58 => ?_)))))
        obtain ⟨eb_58, eo_58, rfl, hfld_58⟩ := hel_58.at (P := Try.prog)
        refine OT.pures hT 1 rfl (.load rfl rfl (by have := hfld_58 hT (t := 3) rfl (j := 0) (v := .int .i64 t.no) rfl; rw [hno] at this; exact this) rfl ?_)
        refine OT.pures hT 2 rfl (.index_at hT rfl rfl rfl rfl (by omega) (by omega) rfl (.store hT rfl rfl rfl rfl pl rfl (by show 0 + 3 + ((no : Nat) : Int).toNat * 1 + 1 ≤ (encSnap s1).length; omega) rfl (.inl (Nat.le_refl _)) (snap_set (s := s1) (by omega)) ?_))
        refine OT.nil (.blk (.seq (.region (.pures hT 3 rfl (.nil (.loop (i + 1, give s1 (no : Nat) a, zs.set k s1, H_y) ?_ ?_ (SubR.cons rfl (SubR.cons rfl (SubR.cons rfl (SubR.cons rfl (SubR.cons rfl (SubR.cons' rfl (by (try dsimp only); exact (int_eq (by rw [wrap_i64 (by omega) (by omega)]; omega))) (SubR.nil _))))))) sl))))))
        · dsimp only
          exact ⟨by omega, ho_y, by rw [List.length_set]; exact hzl, fun t => by rw [List.set_set]; exact hzs t, give_side hs1d _ ha1 ha2, by show (s1.map.set _ _).length = 32; rw [List.length_set]; exact hs1m, hp⟩
        · dsimp only
          omega
  ·
    have c23 := of_decide_eq_false c23
    rw [List.drop_eq_nil_of_le (by omega)] at hp
    have hp : xs.set k s1 = copiesC R xs k ((imgs ts).map Prod.fst) := hp
    refine TT.exit (.seq (.loop (.here (.seq (.draw (([(b_6, blk (encSnap s1) 45 (0, 0))] :: [(bb, blk (rbCells vs n (.slice (some ⟨ib, io, none⟩) xs.length ic)) 76 (0, 0))] :: r)) mixed (.takes (fuel := 4) hT [0, 1, 2, 3, 5] kr kr rfl (.take (fuel := 3) hT 4 rfl rfl kr kr kr rfl (.load rfl (Ld.slc hT rfl hz (rb_v hS.len))) rfl ?_)))))))
    refine AT.take (fuel := 2) hT 6 rfl rfl kr kr kr rfl (.load rfl (Ld.struct_all hT rfl hz (by exact hs1e))) rfl ?_
    refine AT.op (fuel := 1) 7 kr rfl sl (.index_raw hT rfl rfl rfl rfl (by omega) (by omega) rfl (.nil (.any (.op (fuel := 0) 8 kr rfl sl ?_))))
    obtain ⟨z0, hz0⟩ := nth (l := zs) (i := k) (by omega)
    have hz035 := ho1.enc_len z0 (List.mem_of_getElem? hz0)
    refine OT.store_el k 0 hT rfl rfl rfl rfl pl ho1 hz0 (by omega) (by exact hs1e) (by decide) (ones_snap s1) (by exact splice_whole (hz035.trans hs1e.symm)) (fun H_f ho_f => ?_)
    refine OT.nil (.any (.done kr sl (.of (rs := []) [] ([(bb, blk (rbCells vs n (.slice (some ⟨ib, io, none⟩) xs.length ic)) 76 (0, 0))] :: H_f :: r) rfl .nil sl ?_)))
    try dsimp only [one]
    refine ⟨H_f, rfl, rfl, ?_⟩
    rw [← hp, ← hzs]
    exact ho_f

set_option maxHeartbeats 8000000 in
set_option maxRecDepth 100000 in
theorem rb_expand {bb : Nat} {vs : List Value} {n : Int} {vS : Value} {R : Pages} {r : List Chunk} {G F : Chunk} (hS : Slots (G :: r) vs R) {xs : List Snap} {HS : Chunk} (ho : Own encSnap 35 45 vS (xs) HS) (hgc : GoodC n xs) {vl : Value} {ts : List Im} (hi : ImsAt r vl ts) (hd : DataImgs (imgs ts)) {nm : ByteArray} {but : Int} (hbut : ∀ s ∈ xs, (s.name = nm ↔ s.id = but)) : Fun Try.prog 28 [.pointer (some ⟨bb, 0, none⟩), vl, .string nm] ([(bb, blk (rbCells vs n vS) 76 (0, 0))] :: HS :: G :: F :: r) (fun v' hs' => ∃ vs' HS' G', hs' = [(bb, blk (rbCells vs' n vS) 76 (0, 0))] :: HS' :: G' :: F :: r ∧ v' = .tuple ⟨[]⟩ ∧ Own encSnap 35 45 vS (expandS R but ((imgs ts).map Prod.fst) xs) HS' ∧ Slots (G' :: r) vs' (lay (sideLay R R (sides xs (expandS R but ((imgs ts).map Prod.fst) xs))) (imgs ts))) := by
  refine Fun.enter 111 Try.func28 rfl Try.ntmps28 rfl ?_
  obtain ⟨aS, cS, hvS⟩ := (ho.row (hs := [])).len
  subst hvS
  obtain ⟨al, cl, hvl⟩ := hi.row.len
  subst hvl
  have hfew := hi.few
  have hxl := hgc.few
  have h35 := ho.enc_len
  have h32 : ∀ s ∈ xs, s.map.length = 32 := fun s hs => map32 (h35 s hs)
  have hnd : ((imgs ts).map Prod.fst).Nodup := by
    unfold List.Nodup
    rw [List.pairwise_map]
    exact hd.1.2.2.imp fun h e => by rw [e] at h; omega
  refine TT.seq (.region (.pures hT 3 rfl (.load rfl rfl (Ld.arr hT rfl hz (rb_p hS.len) hS.len) rfl ?_)))
  refine OT.alloc Try.zeroValue26 rfl rfl (fun b_6 => ?_)
  refine OT.store_all hT rfl rfl rfl rfl pl (by exact hS.len) rfl (slots_ones hS) (.inl (Nat.le_refl _)) ?_
  refine OT.nil (.seq (.seq (.seq (.region (.pures hT 1 rfl (.nil (.seq (.block (.loop (ι := Nat × (List Snap) × Chunk × (List Value) × Chunk) (fun j => (j.1) ≤ xs.length ∧ (∀ x ∈ G, x ∈ (j.2.2.2.2)) ∧ Own encSnap 35 45 (.slice aS xs.length cS) ((j.2.1)) (j.2.2.1) ∧ (List.range (j.1)).foldl (stepS R but ((imgs ts).map Prod.fst)) xs = (j.2.1) ∧ Slots ((j.2.2.2.2) :: r) (j.2.2.2.1) (sideLay R R (sides xs ((j.2.1).take (j.1))))) (fun j => xs.length - (j.1)) (fun j => [(0, .pointer (some ⟨bb, 0, none⟩)), (1, .slice al ts.length cl), (2, .string nm), (6, .pointer (some ⟨b_6, 0, none⟩)), (7, .int .i64 ((j.1) : Nat))]) (fun j => [(bb, blk (rbCells (j.2.2.2.1) n (.slice aS xs.length cS)) 76 (0, 0))] :: (j.2.2.1) :: (j.2.2.2.2) :: [(b_6, blk vs 26 (0, 0))] :: F :: r) (0, xs, HS, vs, G) ?_ (SubR.cons rfl (SubR.cons rfl (SubR.cons rfl (SubR.cons rfl (SubR.cons rfl (SubR.nil _)))))) sl ?_)))))))))
  · dsimp only
    exact ⟨by omega, fun _ h => h, ho, rfl, by rw [List.take_zero]; exact hS⟩
  rintro ⟨i, ys, HS1, vs1, G1⟩ hI
  dsimp only at hI
  obtain ⟨hin, hG1, ho1, hys, hS1⟩ := hI
  show TT _ _ _ [(0, .pointer (some ⟨bb, 0, none⟩)), (1, .slice al ts.length cl), (2, .string nm), (6, .pointer (some ⟨b_6, 0, none⟩)), (7, .int .i64 (i : Nat))] ([(bb, blk (rbCells vs1 n (.slice aS xs.length cS)) 76 (0, 0))] :: HS1 :: G1 :: [(b_6, blk vs 26 (0, 0))] :: F :: r)
  obtain ⟨hgy, hly⟩ := expandTo (Q := R) (but := but) hgc h32 hnd i
  rw [hys] at hgy hly
  refine TT.seq (.seq (.region (.pures hT 5 rfl (.load rfl rfl (Ld.slc hT rfl hz (rb_v hS1.len)) rfl ?_))))
  refine OT.pures hT 2 rfl (.nil (.seq (.cond rfl (fun c23 => ?_) (fun c23 => ?_))))
  ·
    have c23 := of_decide_eq_true c23
    obtain ⟨s0, hs0⟩ := nth (l := ys) (i := i) (by rw [← hly.1]; omega)
    have hx0 : xs[i]? = some s0 := by rw [← hs0, ← hys]; exact (fold_ge i i (Nat.le_refl _)).symm
    have h35s := h35 s0 (List.mem_of_getElem? hx0)
    have hyl : ys.length = xs.length := hly.1.symm
    refine TT.skip (.seq (.seq (.block (.seq (.seq (.region (.pures hT 4 rfl (.load rfl rfl (Ld.slc hT rfl hz (rb_v hS1.len)) rfl ?_))))))))
    refine OT.pures hT 1 rfl (.index hT rfl rfl rfl rfl ro (by omega) (by rw [Int.toNat_natCast]; exact hs0) rfl (fun ad_32 hel_32 => ?_))
    obtain ⟨eb_32, eo_32, rfl, hfld_32⟩ := hel_32.at (P := Try.prog)
    refine OT.pures hT 1 rfl (.load rfl rfl (hfld_32 hT rfl rfl) rfl (.pures hT 2 rfl (.nil (.seq (.cond rfl (fun c36 => ?_) (fun c36 => ?_))))))
    ·
      have c36 := of_decide_eq_true c36
      have hid : s0.id = but := (hbut s0 (List.mem_of_getElem? hx0)).1 c36
      have hst : stepS R but ((imgs ts).map Prod.fst) ys i = ys := by unfold stepS; rw [hs0]; dsimp only; rw [if_pos hid]
      have hw0 := (wasOf_like (xs := []) (m := xs.length) hgc (by rw [List.take_length]; exact hx0) (.refl s0)).2
      refine TT.exit (.seq (.here (.seq (.region (.pures hT 3 rfl (.nil (.loop (i + 1, ys, HS1, vs1, G1) ?_ ?_ (SubR.cons rfl (SubR.cons rfl (SubR.cons rfl (SubR.cons rfl (SubR.cons' rfl (by (try dsimp only); exact (int_eq (by rw [wrap_i64 (by omega) (by omega)]; omega))) (SubR.nil _)))))) sl)))))))
      · dsimp only
        refine ⟨by omega, hG1, ho1, by rw [fold_succ, hys, hst], ?_⟩
        rw [sides_succ hs0, hw0, side_same, List.append_nil]
        exact hS1
      · dsimp only
        omega
    ·
      have c36 := of_decide_eq_false c36
      have hid : s0.id ≠ but := fun e => c36 ((hbut s0 (List.mem_of_getElem? hx0)).2 e)
      refine TT.skip (.seq (.seq (.region (.pures hT 4 rfl (.load rfl rfl (Ld.slc hT rfl hz (rb_v hS1.len)) rfl ?_)))))
      refine OT.pures hT 1 rfl (.index hT rfl rfl rfl rfl ro (by omega) (by rw [Int.toNat_natCast]; exact hs0) rfl (fun ad_43 hel_43 => ?_))
      refine OT.load rfl rfl (hel_43.ld_struct hT rfl) rfl (.alloc Try.zeroValue45 rfl rfl (fun b_8 => ?_))
      refine OT.store_all hT rfl rfl rfl rfl pl (by exact h35s) rfl (ones_snap s0) (.inl (Nat.le_refl _)) ?_
      refine OT.nil (.seq (.seq (.region (.pures hT 3 rfl (.call Try.call59 rfl rfl rfl rfl (Fun.weaken (sl (hs' := [(bb, blk (rbCells vs1 n (.slice aS xs.length cS)) 76 (0, 0))] :: HS1 :: G1 :: [(b_6, blk vs 26 (0, 0))] :: [(b_8, blk (encSnap s0) 45 (0, 0))] :: F :: r)) (rb_copies (R := sideLay R R (sides xs (ys.take i))) (r := G1 :: [(b_6, blk vs 26 (0, 0))] :: [(b_8, blk (encSnap s0) 45 (0, 0))] :: F :: r) (hS1.mono fun b o hb => Has.sel sl hb) ho1 (by omega) hgy.sides (k := i) (by omega) (hi.mono fun b o hb => Has.sel sl hb) hd.2)) ?_)))))
      rintro v_48 hs_48 ⟨HS2, rfl, rfl, ho2⟩
      have hcg : copiesC (sideLay R R (sides xs (ys.take i))) ys i ((imgs ts).map Prod.fst) = copiesC R ys i ((imgs ts).map Prod.fst) := copiesC_congr fun s hs hsi => by
        rw [hs0] at hs; cases hs
        exact side_keep hgy hs0
      rw [hcg] at ho2
      obtain ⟨hne, t0, ht0, hgot⟩ := copiesC_got (Q := R) (nos := ((imgs ts).map Prod.fst)) hs0 (map32 h35s) hnd
      have hstp : stepS R but ((imgs ts).map Prod.fst) ys i = copiesC R ys i ((imgs ts).map Prod.fst) := by unfold stepS; rw [hs0]; dsimp only; rw [if_neg hid]
      generalize hy2 : copiesC R ys i ((imgs ts).map Prod.fst) = ys2 at ho2 hne ht0 hstp
      have htk : ys2.take i = ys.take i := by
        apply List.ext_getElem?
        intro q
        rw [List.getElem?_take, List.getElem?_take]
        split
        · exact hne q (by omega)
        · rfl
      have hyl2 : ys2.length = xs.length := by rw [← hy2, copiesC_length, hyl]
      have ht32 := ho2.enc_len t0 (List.mem_of_getElem? ht0)
      have htd : t0.side := by have := copiesC_side (Q := R) (k := i) (nos := ((imgs ts).map Prod.fst)) hgy.sides; rw [hy2] at this; exact this t0 (List.mem_of_getElem? ht0)
      have hmt : MapOk t0 := by
        have hg2 := (expandTo (Q := R) (but := but) hgc h32 hnd (i + 1)).1
        rw [fold_succ, hys, hstp] at hg2
        exact (hg2.each t0 (List.mem_of_getElem? ht0)).2.2.2
      rw [← htk] at hS1
      refine OT.nil (.seq (.seq (.region (.pures hT 1 rfl (.nil (.seq (.block (.loop (ι := Nat × (List Value) × Chunk) (fun j => 1 ≤ (j.1) ∧ (j.1) ≤ 32 ∧ (∀ x ∈ G, x ∈ (j.2.2)) ∧ Slots ((j.2.2) :: r) (j.2.1) ((sideLay R R (sides xs (ys2.take i) ++ sideOf s0 t0 (j.1))))) (fun j => 32 - (j.1)) (fun j => [(0, .pointer (some ⟨bb, 0, none⟩)), (1, .slice al ts.length cl), (2, .string nm), (6, .pointer (some ⟨b_6, 0, none⟩)), (7, .int .i64 (i : Nat)), (8, .pointer (some ⟨b_8, 0, none⟩)), (9, .int .i64 ((j.1) : Nat))]) (fun j => [(bb, blk (rbCells (j.2.1) n (.slice aS xs.length cS)) 76 (0, 0))] :: HS2 :: (j.2.2) :: [(b_6, blk vs 26 (0, 0))] :: [(b_8, blk (encSnap s0) 45 (0, 0))] :: F :: r) (1, vs1, G1) ?_ (SubR.cons rfl (SubR.cons rfl (SubR.cons rfl (SubR.cons rfl (SubR.cons rfl (SubR.cons rfl (SubR.cons rfl (SubR.nil _)))))))) sl ?_))))))))
      · dsimp only
        exact ⟨by omega, by omega, hG1, by rw [sideOf_one hmt, List.append_nil]; exact hS1⟩
      rintro ⟨no, vs2, G2⟩ hI
      dsimp only at hI
      obtain ⟨hno, hno2, hG2, hS2⟩ := hI
      show TT _ _ _ [(0, .pointer (some ⟨bb, 0, none⟩)), (1, .slice al ts.length cl), (2, .string nm), (6, .pointer (some ⟨b_6, 0, none⟩)), (7, .int .i64 (i : Nat)), (8, .pointer (some ⟨b_8, 0, none⟩)), (9, .int .i64 (no : Nat))] ([(bb, blk (rbCells vs2 n (.slice aS xs.length cS)) 76 (0, 0))] :: HS2 :: G2 :: [(b_6, blk vs 26 (0, 0))] :: [(b_8, blk (encSnap s0) 45 (0, 0))] :: F :: r)
      refine TT.seq (.seq (.region (.pures hT 2 rfl (.nil (.seq (.cond rfl (fun c50 => ?_) (fun c50 => ?_)))))))
      ·
        have c50 := of_decide_eq_true c50
        obtain ⟨x, hx⟩ := nth (l := t0.map) (i := no) (by rw [map32 ht32]; omega)
        obtain ⟨x0, hx0'⟩ := nth (l := s0.map) (i := no) (by rw [map32 h35s]; omega)
        have hxd := htd x (List.mem_of_getElem? hx)
        obtain ⟨vb, hvb, hsb⟩ := hS.at_ no (by omega)
        have hxt := Snap.at_some hx
        have hx0t := Snap.at_some hx0'
        refine TT.skip (.seq (.seq (.block (.seq (.region (.pures hT 4 rfl (.load rfl rfl (Ld.slc hT rfl hz (rb_v hS2.len)) rfl ?_)))))))
        refine OT.pures hT 2 rfl (.index hT rfl rfl rfl rfl ro (by omega) (by rw [Int.toNat_natCast]; exact ht0) rfl (fun ad_60 hel_60 => ?_))
        obtain ⟨eb_60, eo_60, rfl, hfld_60⟩ := hel_60.at (P := Try.prog)
        refine OT.pures hT 1 rfl (.index_at hT rfl rfl rfl rfl (by omega) (by omega) rfl (.load rfl rfl (by rw [Nat.add_assoc]; exact hfld_60 hT rfl (snap_at hx)) rfl (.pures hT 1 rfl (.nil (.seq (.seq (.region (.pures hT 3 rfl (.split 66 rfl (fun g66 => ?_) (fun g66 => ?_))))))))))
        ·
          have g66 := bne_iff_ne.1 g66
          refine OT.pures hT 2 rfl (.index_at hT rfl rfl rfl rfl (by omega) (by omega) rfl (.load rfl rfl (Ld.one hT rfl hz (snap_at hx0')) rfl ?_))
          refine OT.pures hT 2 rfl (.nil (.seq (.cond rfl (fun c72 => ?_) (fun c72 => ?_))))
          ·
            have c72 := beq_iff_eq.1 c72
            obtain ⟨a, rfl⟩ : ∃ a : Nat, x = a := ⟨x.toNat, by omega⟩
            obtain ⟨sp, sn, sc, rfl, hsN, hsS⟩ := hsb.slice
            have hRs : (sideLay R R (sides xs (ys2.take i) ++ sideOf s0 t0 (no + 1))) = upd (sideLay R R (sides xs (ys2.take i) ++ sideOf s0 t0 no)) ((a : Nat) : Int) (R (no : Nat)) := by
              rw [sideOf_succ, hxt, hx0t, if_pos ⟨by omega, by omega⟩, ← List.append_assoc, sideLay_append]; rfl
            refine TT.seq (.draw (([(b_6, blk vs 26 (0, 0))] :: r)) mixed (.takes (fuel := 4) hT [0, 1, 2, 5, 6] kr kr rfl (.index_at (fuel := 3) hT 3 rfl kr kr kr rfl rfl rfl rfl (by omega) (by omega) rfl (.take (fuel := 2) hT 4 rfl rfl kr kr kr rfl (.load rfl (Ld.slc hT rfl hz (by rw [show 0 + ((no : Nat) : Int).toNat * 1 = no by omega]; exact hvb))) rfl ?_))))
            refine AT.index_at (fuel := 1) hT 7 rfl kr kr kr rfl rfl rfl rfl (by omega) (by omega) rfl (.op (fuel := 0) 8 kr rfl sl (.store hT rfl rfl rfl rfl pl rfl (by rw [rb_len hS2.len]; show 0 + 0 + ((a : Nat) : Int).toNat * 1 + 1 ≤ 98; omega) rfl (.inl (Nat.le_refl _)) (rb_set hS2.len (k := a) (by omega) _ (by omega)) ?_))
            refine OT.nil (.any (.done kr sl (.seq (.seq (.region (.pures hT 1 rfl (.index_at hT rfl rfl rfl rfl (by omega) (by omega) rfl (.load rfl rfl (Ld.slc hT rfl hz (by rw [show 0 + ((no : Nat) : Int).toNat * 1 = no by omega]; exact hvb)) rfl ?_))))))))
            refine OT.pures hT 1 rfl (.nil (.seq (.cond rfl (fun c84 => ?_) (fun c84 => ?_))))
            ·
              refine TT.draw (r) mixed (.takes (fuel := 3) hT [0, 1, 3, 4] kr kr rfl (.op (fuel := 2) 2 kr rfl sl ?_))
              refine OT.make (enc := Go.Sx.encB) (z0 := (0 : UInt8)) (n := 256) el22 Try.zeroValue5 rfl rfl rfl rfl rfl (by omega) rfl (fun v_87 H_87 ho_87 => ?_)
              obtain ⟨aZ, cZ, hvZ⟩ := (ho_87.row (hs := [])).len
              subst hvZ
              refine OT.nil (.any (.index_at (fuel := 1) hT 5 rfl kr kr kr rfl rfl rfl rfl (by omega) (by omega) rfl (.op (fuel := 0) 6 kr rfl sl (.store hT rfl rfl rfl rfl pl rfl (by rw [rb_len (by rw [List.length_set]; exact hS2.len)]; show 0 + 0 + ((a : Nat) : Int).toNat * 1 + 1 ≤ 98; omega) rfl (.inl (Nat.le_refl _)) (rb_set (by rw [List.length_set]; exact hS2.len) (k := a) (by omega) _ (by omega)) ?_))))
              refine OT.nil (.any (.done kr sl (.blk (.seq (.region (.pures hT 3 rfl (.nil (.loop (no + 1, (vs2.set a (.slice sp sn sc)).set a (.slice aZ (List.replicate 256 (0 : UInt8)).length cZ), G2 ++ H_87) ?_ ?_ (SubR.cons rfl (SubR.cons rfl (SubR.cons rfl (SubR.cons rfl (SubR.cons rfl (SubR.cons rfl (SubR.cons' rfl (by (try dsimp only); exact (int_eq (by rw [wrap_i64 (by omega) (by omega)]; omega))) (SubR.nil _)))))))) sl))))))))
              · dsimp only
                refine ⟨by omega, by omega, fun x hx => List.mem_append_left _ (hG2 x hx), ?_⟩
                rw [hRs, List.set_set, hsN c84]
                exact (hS2.mono fun b o hb => has_sub (fun x hx => List.mem_append_left _ hx) hb).put (by omega) (Slot.of_row (Row.last ho_87.row) (noughts_length 256))
              · dsimp only
                omega
            ·
              refine TT.skip (.blk (.seq (.region (.pures hT 3 rfl (.nil (.loop (no + 1, vs2.set a (.slice sp sn sc), G2) ?_ ?_ (SubR.cons rfl (SubR.cons rfl (SubR.cons rfl (SubR.cons rfl (SubR.cons rfl (SubR.cons rfl (SubR.cons' rfl (by (try dsimp only); exact (int_eq (by rw [wrap_i64 (by omega) (by omega)]; omega))) (SubR.nil _)))))))) sl))))))
              · dsimp only
                refine ⟨by omega, by omega, hG2, ?_⟩
                rw [hRs]
                exact hS2.put (by omega) (hsb.mono fun b o hb => has_sub hG2 hb)
              · dsimp only
                omega
          ·
            have c72 := beq_eq_false_iff_ne.1 c72
            refine TT.skip (.blk (.seq (.region (.pures hT 3 rfl (.nil (.loop (no + 1, vs2, G2) ?_ ?_ (SubR.cons rfl (SubR.cons rfl (SubR.cons rfl (SubR.cons rfl (SubR.cons rfl (SubR.cons rfl (SubR.cons' rfl (by (try dsimp only); exact (int_eq (by rw [wrap_i64 (by omega) (by omega)]; omega))) (SubR.nil _)))))))) sl))))))
            · dsimp only
              exact ⟨by omega, by omega, hG2, by rw [sideOf_succ, hxt, hx0t, if_neg (fun h => h.2 (side_eq hgot hmt hx hx0' h.1 c72)), List.append_nil]; exact hS2⟩
            · dsimp only
              omega
        ·
          have g66 := bne_eq_false_iff_eq.1 g66
          refine OT.pures hT 6 rfl (.nil (.seq (.cond_false rfl (.skip (.blk (.seq (.region (.pures hT 3 rfl (.nil (.loop (no + 1, vs2, G2) ?_ ?_ (SubR.cons rfl (SubR.cons rfl (SubR.cons rfl (SubR.cons rfl (SubR.cons rfl (SubR.cons rfl (SubR.cons' rfl (by (try dsimp only); exact (int_eq (by rw [wrap_i64 (by omega) (by omega)]; omega))) (SubR.nil _)))))))) sl))))))))))
          · dsimp only
            exact ⟨by omega, by omega, hG2, by rw [sideOf_succ, hxt, if_neg (fun h => h.1 g66), List.append_nil]; exact hS2⟩
          · dsimp only
            omega
      ·
        have c50 := of_decide_eq_false c50
        obtain rfl : no = 32 := by omega
        refine TT.exit (.seq (.loop (.here (.blk (.seq (.region (.pures hT 3 rfl (.nil (.loop (i + 1, ys2, HS2, vs2, G2) ?_ ?_ (SubR.cons rfl (SubR.cons rfl (SubR.cons rfl (SubR.cons rfl (SubR.cons' rfl (by (try dsimp only); exact (int_eq (by rw [wrap_i64 (by omega) (by omega)]; omega))) (SubR.nil _)))))) sl)))))))))
        · dsimp only
          refine ⟨by omega, hG2, ho2, by rw [fold_succ, hys, hstp], ?_⟩
          rw [sides_succ ht0, (wasOf_like (xs := []) (m := xs.length) hgc (by rw [List.take_length]; exact hx0) hgot.like).2]
          exact hS2
        · dsimp only
          omega
  ·
    have c23 := of_decide_eq_false c23
    obtain rfl : i = xs.length := by omega
    rw [List.take_of_length_le (by rw [← hly.1]; omega)] at hS1
    have hye : ys = expandS R but ((imgs ts).map Prod.fst) xs := hys.symm
    refine TT.exit (.seq (.loop (.here (.seq (.seq (.region (.pures hT 1 rfl (.nil (.seq (.block (.loop (ι := Nat × (List Value)) (fun j => (j.1) ≤ ts.length ∧ Slots (G1 :: r) (j.2) (lay (sideLay R R (sides xs ys)) ((imgs ts).take (j.1)))) (fun j => ts.length - (j.1)) (fun j => [(0, .pointer (some ⟨bb, 0, none⟩)), (1, .slice al ts.length cl), (11, .int .i64 ((j.1) : Nat))]) (fun j => [(bb, blk (rbCells (j.2) n (.slice aS xs.length cS)) 76 (0, 0))] :: HS1 :: G1 :: F :: r) (0, vs1) ?_ (SubR.cons rfl (SubR.cons rfl (SubR.cons rfl (SubR.nil _)))) sl ?_)))))))))))
    · dsimp only
      exact ⟨by omega, by rw [List.take_zero]; exact hS1⟩
    rintro ⟨i, vs2⟩ hI
    dsimp only at hI
    obtain ⟨hin2, hS2⟩ := hI
    show TT _ _ _ [(0, .pointer (some ⟨bb, 0, none⟩)), (1, .slice al ts.length cl), (11, .int .i64 (i : Nat))] ([(bb, blk (rbCells vs2 n (.slice aS xs.length cS)) 76 (0, 0))] :: HS1 :: G1 :: F :: r)
    refine TT.seq (.seq (.region (.pures hT 4 rfl (.nil (.seq (.cond rfl (fun c94 => ?_) (fun c94 => ?_)))))))
    ·
      have c94 := of_decide_eq_true c94
      obtain ⟨t, ht⟩ := nth (l := ts) (i := i) (by omega)
      have hit := imgs_at ht
      have hmem := List.mem_of_getElem? ht
      obtain ⟨hm1, hlt⟩ := hd.1.2.1 _ (List.mem_of_getElem? hit)
      have hlt : t.b.length = 256 := hlt
      unfold mayPage Im.img at hm1
      dsimp only at hm1
      obtain ⟨no, hno⟩ : ∃ no : Nat, t.no = no := ⟨t.no.toNat, by omega⟩
      obtain ⟨at0, ct0, hvt⟩ := (hi.each t hmem).len
      refine TT.skip (.seq (.seq (.block (.draw (r) mixed (.takes (fuel := 8) hT [0, 1, 2, 6, 7, 11, 12] kr kr rfl (.index (fuel := 7) hT 3 rfl kr kr kr rfl rfl rfl rfl hi.row (by omega) (by exact ht) rfl (fun ad_100 hel_100 => ?_)))))))
      obtain ⟨eb_100, eo_100, rfl, hfld_100, hfls_100⟩ := Go.Pl.El.at2 (P := Try.prog) hel_100
      refine AT.takes (fuel := 6) hT [4] kr kr rfl (.take (fuel := 5) hT 5 rfl rfl kr kr kr rfl (.load rfl (by have := hfld_100 hT (t := 3) rfl (j := 0) (v := .int .i64 t.no) rfl; rw [hno] at this; exact this)) rfl ?_)
      refine AT.index (fuel := 4) hT 8 rfl kr kr kr rfl rfl rfl rfl hi.row (by omega) (by exact ht) rfl (fun ad_105 hel_105 => ?_)
      obtain ⟨eb_105, eo_105, rfl, hfld_105, hfls_105⟩ := Go.Pl.El.at2 (P := Try.prog) hel_105
      refine AT.takes (fuel := 3) hT [9] kr kr rfl (.take (fuel := 2) hT 10 rfl rfl kr kr kr rfl (.load rfl (hfls_105 hT rfl (j := 1) (v := .slice at0 t.b.length ct0) (by rw [← hvt]; rfl))) rfl (.index_at (fuel := 1) hT 13 rfl kr kr kr rfl rfl rfl rfl (by omega) (by omega) rfl (.op (fuel := 0) 14 kr rfl sl (.store hT rfl rfl rfl rfl pl rfl (by rw [rb_len hS2.len]; show 0 + 0 + ((no : Nat) : Int).toNat * 1 + 1 ≤ 98; omega) rfl (.inl (Nat.le_refl _)) (rb_set hS2.len (k := no) (by omega) _ (by omega)) ?_))))
      refine OT.nil (.any (.done kr sl (.blk (.seq (.region (.pures hT 3 rfl (.nil (.loop (i + 1, vs2.set no (.slice at0 t.b.length ct0)) ?_ ?_ (SubR.cons rfl (SubR.cons rfl (SubR.cons' rfl (by (try dsimp only); exact (int_eq (by rw [wrap_i64 (by omega) (by omega)]; omega))) (SubR.nil _)))) sl))))))))
      · dsimp only
        refine ⟨by omega, ?_⟩
        rw [take_succ hit, lay_snoc, show t.img.1 = ((no : Nat) : Int) from hno, ← hvt]
        exact hS2.put (by omega) (Slot.of_row ((hi.each t hmem).there) hlt)
      · dsimp only
        omega
    ·
      have c94 := of_decide_eq_false c94
      rw [List.take_of_length_le (by rw [imgs_length]; omega)] at hS2
      refine TT.exit (.seq (.loop (.here (.of (rs := []) [] ([(bb, blk (rbCells vs2 n (.slice aS xs.length cS)) 76 (0, 0))] :: HS1 :: G1 :: F :: r) rfl .nil sl ?_))))
      try dsimp only [one]
      exact ⟨vs2, HS1, G1, rfl, rfl, by rw [← hye]; exact ho1, by rw [← hye]; exact hS2⟩

end Go.Proofs.Ytnhkgchcdbideaa.Sx
end

section
namespace Go.Proofs.Ytnhkgchcdbideaa.Sx
open Go Go.Sx Go.Pl
variable [Outer]

set_option maxHeartbeats 4000000 in
set_option maxRecDepth 100000 in
theorem rb_same {b : Nat} {Q : Pages} {n : Int} {xs : List Snap} {H : Chunk} (hB : BkAt 28 b Q H) (hst : CowSt Q n xs) (hcb : Q 0 = catBytesR n xs) {bb : Nat} {vs : List Value} {vS : Value} {R : Pages} {r : List Chunk} {G HS : Chunk} (hS : Slots (G :: r) vs R) (ho : Own encSnap 35 45 vS xs HS) (hA : Agree Q R xs) : Fun Try.prog 33 [.pointer (some ⟨bb, 0, none⟩), .pointer (some ⟨b, 0, none⟩)] (H :: [(bb, blk (rbCells vs n vS) 76 (0, 0))] :: HS :: G :: r) (fun v' hs' => v' = .bool true ∧ hs' = H :: [(bb, blk (rbCells vs n vS) 76 (0, 0))] :: HS :: G :: r) := by
  refine Fun.enter 110 Try.func33 rfl Try.ntmps33 rfl ?_
  have hgc := hst.good
  have hfew := hgc.few
  obtain ⟨aS, cS, hvS⟩ := (ho.row (hs := [])).len
  subst hvS
  refine TT.seq (.region (.pures hT 1 rfl (.nil (.seq (.seq (.region (.pures hT 1 rfl (.call Try.call23 rfl rfl rfl rfl (Fun.pull pl (book_Page hB)) ?_))))))))
  rintro v_19 hs_19 ⟨K1, w1, rfl, rfl, ho1⟩
  rw [pg0 (by unfold mayPage; omega), hcb] at ho1 ⊢
  dsimp only at ho1
  refine OT.pures hT 5 rfl (.nil (.seq (.seq (.seq (.draw ((K1 :: [(bb, blk (rbCells vs n (.slice aS xs.length cS)) 76 (0, 0))] :: HS :: G :: r)) mixed (.takes (fuel := 10) hT [0, 1, 2] kr kr rfl (.takes (fuel := 6) hT [3, 5, 6, 7] kr kr rfl (.take (fuel := 5) hT 8 rfl rfl kr kr kr rfl (.load rfl (Ld.struct (vs := [.int .i64 n, .slice aS xs.length cS]) hT rfl hz (by exact rb_cat hS.len) rfl)) rfl ?_))))))))
  refine AT.conv (fuel := 4) 4 rfl kr kr kr hT rfl rfl rfl rfl rfl (ho1.row.mono fun b o hb => Has.sel sl hb) rfl (.op (fuel := 3) 9 kr rfl sl (.call Try.call26 rfl rfl rfl rfl (ref_CatBytes (xs := xs) (ho.row.mono fun b o hb => Has.sel sl hb) (by omega)) ?_))
  rintro v_31 hs_31 ⟨H2, rfl, ho2⟩
  refine OT.nil (.any (.op (fuel := 2) 10 kr rfl sl (.conv_bs (fun _ => rfl) hT rfl rfl rfl rfl rfl ho2.row rfl (.nil (.any (.takes (fuel := 0) hT [11, 12] kr kr rfl (.done kr sl (.seq (.cond rfl (fun c34 => ?_) (fun c34 => ?_))))))))))
  ·
    exact absurd c34 (by simp)
  ·
    refine TT.skip (.seq (.seq (.seq (.region (.pures hT 1 rfl (.nil (.seq (.block (.loop (ι := Nat) (fun j => 1 ≤ (j) ∧ (j) ≤ 32) (fun j => 32 - (j)) (fun j => [(0, .pointer (some ⟨bb, 0, none⟩)), (1, .pointer (some ⟨b, 0, none⟩)), (7, .int .i64 ((j) : Nat))]) (fun j => H :: [(bb, blk (rbCells vs n (.slice aS xs.length cS)) 76 (0, 0))] :: HS :: G :: r) (1) ?_ (SubR.cons rfl (SubR.cons rfl (SubR.cons rfl (SubR.nil _)))) sl ?_)))))))))
    · omega
    rintro no ⟨hno, hno2⟩
    show TT _ _ _ [(0, .pointer (some ⟨bb, 0, none⟩)), (1, .pointer (some ⟨b, 0, none⟩)), (7, .int .i64 (no : Nat))] (H :: [(bb, blk (rbCells vs n (.slice aS xs.length cS)) 76 (0, 0))] :: HS :: G :: r)
    refine TT.seq (.seq (.region (.pures hT 2 rfl (.nil (.seq (.cond rfl (fun c36 => ?_) (fun c36 => ?_)))))))
    ·
      have c36 := of_decide_eq_true c36
      refine TT.skip (.seq (.seq (.block (.seq (.region (.pures hT 2 rfl (.call Try.call23 rfl rfl rfl rfl (Fun.pull pl (book_Page hB)) ?_)))))))
      rintro v_42 hs_42 ⟨K3, w3, rfl, rfl, ho3⟩
      rw [pg0 (by unfold mayPage; omega), hA.data (no : Nat) (by omega) (by omega)] at ho3 ⊢
      dsimp only at ho3
      refine OT.pures hT 5 rfl (.nil (.seq (.seq (.draw ((K3 :: [(bb, blk (rbCells vs n (.slice aS xs.length cS)) 76 (0, 0))] :: HS :: G :: r)) mixed (.takes (fuel := 8) hT [0, 1, 2] kr kr rfl (.takes (fuel := 5) hT [3, 5, 6] kr kr rfl (.conv (fuel := 4) 4 rfl kr kr kr hT rfl rfl rfl rfl rfl (ho3.row.mono fun b o hb => Has.sel sl hb) rfl (.op (fuel := 3) 7 kr rfl sl (.call Try.call63 rfl rfl rfl rfl (rb_page (by exact hz) (hS.mono fun b o hb => Has.sel sl hb) (k := no) (by omega)) ?_)))))))))
      rintro v_52 hs_52 ⟨K4, rfl, hr4⟩
      refine OT.nil (.any (.op (fuel := 2) 8 kr rfl sl (.conv_bs (fun _ => rfl) hT rfl rfl rfl rfl rfl hr4 rfl (.nil (.any (.takes (fuel := 0) hT [9, 10] kr kr rfl (.done kr sl (.seq (.cond rfl (fun c55 => ?_) (fun c55 => ?_))))))))))
      ·
        exact absurd c55 (by simp)
      ·
        refine TT.skip (.blk (.seq (.region (.pures hT 3 rfl (.nil (.loop (no + 1) ?_ ?_ (SubR.cons rfl (SubR.cons rfl (SubR.cons' rfl (by (try dsimp only); exact (int_eq (by rw [wrap_i64 (by omega) (by omega)]; omega))) (SubR.nil _)))) sl))))))
        · omega
        · omega
    ·
      have c36 := of_decide_eq_false c36
      refine TT.exit (.seq (.loop (.here (.seq (.seq (.seq (.region (.pures hT 1 rfl (.nil (.seq (.block (.loop (ι := Nat) (fun j => (j) ≤ xs.length) (fun j => xs.length - (j)) (fun j => [(0, .pointer (some ⟨bb, 0, none⟩)), (1, .pointer (some ⟨b, 0, none⟩)), (10, .int .i64 ((j) : Nat))]) (fun j => H :: [(bb, blk (rbCells vs n (.slice aS xs.length cS)) 76 (0, 0))] :: HS :: G :: r) (0) ?_ (SubR.cons rfl (SubR.cons rfl (SubR.cons rfl (SubR.nil _)))) sl ?_))))))))))))
      · omega
      rintro i hin
      show TT _ _ _ [(0, .pointer (some ⟨bb, 0, none⟩)), (1, .pointer (some ⟨b, 0, none⟩)), (10, .int .i64 (i : Nat))] (H :: [(bb, blk (rbCells vs n (.slice aS xs.length cS)) 76 (0, 0))] :: HS :: G :: r)
      refine TT.seq (.seq (.region (.pures hT 5 rfl (.load rfl rfl (Ld.slc hT rfl hz (rb_v hS.len)) rfl ?_))))
      refine OT.pures hT 2 rfl (.nil (.seq (.cond rfl (fun c63 => ?_) (fun c63 => ?_))))
      ·
        have c63 := of_decide_eq_true c63
        obtain ⟨s, hs0⟩ := nth (l := xs) (i := i) (by omega)
        have hmem := List.mem_of_getElem? hs0
        have h35 := hst.h35 s hmem
        have hsd := hgc.sides s hmem
        have hsh := shown_at hgc hs0
        refine TT.skip (.seq (.seq (.block (.seq (.region (.pures hT 4 rfl (.load rfl rfl (Ld.slc hT rfl hz (rb_v hS.len)) rfl ?_)))))))
        refine OT.pures hT 1 rfl (.index hT rfl rfl rfl rfl (ho.row.mono fun b o hb => Has.sel sl hb) (by omega) (by rw [Int.toNat_natCast]; exact hs0) rfl (fun ad_72 hel_72 => ?_))
        refine OT.load rfl rfl (hel_72.ld_struct hT rfl) rfl (.alloc Try.zeroValue45 rfl rfl (fun b_11 => ?_))
        refine OT.store_all hT rfl rfl rfl rfl pl (by exact h35) rfl (ones_snap s) (.inl (Nat.le_refl _)) ?_
        refine OT.nil (.seq (.seq (.region (.pures hT 2 rfl (.load rfl rfl (Ld.one hT rfl hz rfl) rfl ?_)))))
        refine OT.call Try.call16 rfl rfl rfl rfl (Fun.pull pl (law21_show (nm := s.name) hB hst)) ?_
        rintro v_78 hs_78 ⟨rfl, cs, rfl, hcl, hco, hcs⟩
        refine OT.pures hT 3 rfl (.alloc Try.zeroValue47 rfl rfl (fun b_12 => ?_))
        refine OT.store_all hT rfl rfl rfl rfl pl (by exact hcl) rfl hco (.inl (Nat.le_refl _)) ?_
        refine OT.pures hT 1 rfl (.nil (.seq (.seq (.seq (.region (.pures hT 2 rfl (.load rfl rfl (Ld.one hT rfl hz rfl) rfl ?_)))))))
        refine OT.pures hT 1 rfl (.nil (.seq (.cond rfl (fun c84 => ?_) (fun c84 => ?_))))
        ·
          rw [hsh] at c84; cases e : s.inv <;> simp [e] at c84
        ·
          refine TT.skip (.seq (.seq (.region (.pures hT 1 rfl (.nil (.seq (.block (.loop (ι := Nat) (fun j => 1 ≤ (j) ∧ (j) ≤ 32) (fun j => 32 - (j)) (fun j => [(0, .pointer (some ⟨bb, 0, none⟩)), (1, .pointer (some ⟨b, 0, none⟩)), (10, .int .i64 (i : Nat)), (11, .pointer (some ⟨b_11, 0, none⟩)), (12, .pointer (some ⟨b_12, 0, none⟩)), (13, .bool (shownOf xs s.name).isSome), (14, .int .i64 ((j) : Nat))]) (fun j => [(b_12, blk cs 47 (0, 0))] :: [(b_11, blk (encSnap s) 45 (0, 0))] :: H :: [(bb, blk (rbCells vs n (.slice aS xs.length cS)) 76 (0, 0))] :: HS :: G :: r) (1) ?_ (SubR.cons rfl (SubR.cons rfl (SubR.cons rfl (SubR.cons rfl (SubR.cons rfl (SubR.cons rfl (SubR.cons rfl (SubR.nil _)))))))) sl ?_))))))))
          · omega
          rintro no ⟨hno, hno2⟩
          show TT _ _ _ [(0, .pointer (some ⟨bb, 0, none⟩)), (1, .pointer (some ⟨b, 0, none⟩)), (10, .int .i64 (i : Nat)), (11, .pointer (some ⟨b_11, 0, none⟩)), (12, .pointer (some ⟨b_12, 0, none⟩)), (13, .bool (shownOf xs s.name).isSome), (14, .int .i64 (no : Nat))] ([(b_12, blk cs 47 (0, 0))] :: [(b_11, blk (encSnap s) 45 (0, 0))] :: H :: [(bb, blk (rbCells vs n (.slice aS xs.length cS)) 76 (0, 0))] :: HS :: G :: r)
          refine TT.seq (.seq (.region (.pures hT 3 rfl (.split 87 rfl (fun g87 => ?_) (fun g87 => ?_)))))
          ·
            have g87 := of_decide_eq_true g87
            refine OT.pures hT 2 rfl (.nil (.seq (.cond rfl (fun c89 => ?_) (fun c89 => ?_))))
            ·
              refine TT.skip (.seq (.seq (.block (.seq (.region (.load rfl rfl (Ld.struct_all hT rfl hz (by exact hcl)) rfl ?_))))))
              refine OT.pures hT 1 rfl ?_
              have hinv : s.inv = false := by
                cases e : s.inv with
                | false => rfl
                | true => rw [hsh, if_pos e] at c89; cases c89
              obtain rfl := hcs s (by rw [hsh, if_neg (by rw [hinv]; simp)])
              refine OT.call Try.call18 rfl rfl rfl rfl (Fun.pull pl (shown_Page hB h35 hsd)) ?_
              rintro v_95 hs_95 ⟨KQ, wq, rfl, rfl, hoQ⟩
              rw [viewPg_ok hsd (by omega) (by omega), hA.shows s hmem hinv (no : Nat) (by omega) (by omega)] at hoQ ⊢
              dsimp only at hoQ
              refine OT.pures hT 5 rfl (.nil (.seq (.seq (.draw ((KQ :: [(b_11, blk (encSnap s) 45 (0, 0))] :: [(bb, blk (rbCells vs n (.slice aS xs.length cS)) 76 (0, 0))] :: HS :: G :: r)) mixed (.takes (fuel := 9) hT [0, 1, 2] kr kr rfl (.takes (fuel := 6) hT [3, 5, 7] kr kr rfl (.take (fuel := 5) hT 6 rfl rfl kr kr kr rfl (.load rfl (Ld.struct_all hT rfl hz (by exact h35))) rfl ?_)))))))
              refine AT.conv (fuel := 4) 4 rfl kr kr kr hT rfl rfl rfl rfl rfl (hoQ.row.mono fun b o hb => Has.sel sl hb) rfl (.op (fuel := 3) 8 kr rfl sl (.call Try.call64 rfl rfl rfl rfl (rb_kept (by exact hz) (hS.mono fun b o hb => Has.sel sl hb) h35 hsd (k := no) (by omega)) ?_))
              rintro v_106 hs_106 ⟨K4, rfl, hr4⟩
              refine OT.nil (.any (.op (fuel := 2) 9 kr rfl sl (.conv_bs (fun _ => rfl) hT rfl rfl rfl rfl rfl hr4 rfl (.nil (.any (.takes (fuel := 0) hT [10, 11] kr kr rfl (.done kr sl (.seq (.cond rfl (fun c109 => ?_) (fun c109 => ?_))))))))))
              ·
                exact absurd c109 (by simp)
              ·
                refine TT.skip (.blk (.seq (.region (.pures hT 3 rfl (.nil (.loop (no + 1) ?_ ?_ (SubR.cons rfl (SubR.cons rfl (SubR.cons rfl (SubR.cons rfl (SubR.cons rfl (SubR.cons rfl (SubR.cons' rfl (by (try dsimp only); exact (int_eq (by rw [wrap_i64 (by omega) (by omega)]; omega))) (SubR.nil _)))))))) sl))))))
                · omega
                · omega
            ·
              refine TT.exit (.seq (.loop (.here (.blk (.seq (.region (.pures hT 3 rfl (.nil (.loop (i + 1) ?_ ?_ (SubR.cons rfl (SubR.cons rfl (SubR.cons' rfl (by (try dsimp only); exact (int_eq (by rw [wrap_i64 (by omega) (by omega)]; omega))) (SubR.nil _)))) sl)))))))))
              · omega
              · omega
          ·
            have g87 := of_decide_eq_false g87
            refine OT.pures hT 2 rfl (.nil (.seq (.cond_false rfl (.exit (.seq (.loop (.here (.blk (.seq (.region (.pures hT 3 rfl (.nil (.loop (i + 1) ?_ ?_ (SubR.cons rfl (SubR.cons rfl (SubR.cons' rfl (by (try dsimp only); exact (int_eq (by rw [wrap_i64 (by omega) (by omega)]; omega))) (SubR.nil _)))) sl)))))))))))))
            · omega
            · omega
      ·
        have c63 := of_decide_eq_false c63
        refine TT.exit (.seq (.loop (.here (.seq (.seq (.region (.pures hT 1 rfl (.nil (.seq (.ret (.of (rs := [.tmp 4]) [_] (H :: [(bb, blk (rbCells vs n (.slice aS xs.length cS)) 76 (0, 0))] :: HS :: G :: r) rfl (.tmp rfl .nil) sl ?_)))))))))))
        dsimp only [one]
        exact ⟨rfl, rfl⟩

set_option maxHeartbeats 1000000 in
set_option maxRecDepth 100000 in
theorem rb_pageK {bb : Nat} {vs : List Value} {n : Int} {vS : Value} {R : Pages} {hs hs0 : List Chunk} (hb : Has hs bb (blk (rbCells vs n vS) 76 (0, 0))) (hS : Slots hs0 vs R) (hsub : ∀ b o, Has hs0 b o → Has hs b o) {k : Nat} (hk : k < 96) : Fun Try.prog 63 [.pointer (some ⟨bb, 0, none⟩), .int .i64 (k : Nat)] hs (fun v' hs' => ∃ K, hs' = K :: hs ∧ Row Go.Sx.encB 1 (K :: hs0) v' (R (k : Nat))) := by
  refine Fun.enter 19 Try.func63 rfl Try.ntmps63 rfl ?_
  obtain ⟨v, hv, hsl⟩ := hS.at_ k hk
  obtain ⟨sp, sn, sc, rfl, hsN, hsS⟩ := hsl.slice
  refine TT.seq (.region (.pures hT 1 rfl (.nil (.seq (.seq (.seq (.region (.pures hT 4 rfl (.index_at hT rfl rfl rfl rfl (by omega) (by omega) rfl (.load rfl rfl (Ld.slc hT rfl hb (rb_at hS.len hv (by omega))) rfl (.pures hT 1 rfl (.nil (.seq (.cond rfl (fun c11 => ?_) (fun c11 => ?_)))))))))))))))
  ·
    refine TT.seq (.region ?_)
    refine OT.make (enc := Go.Sx.encB) (z0 := (0 : UInt8)) (n := 256) el22 Try.zeroValue5 rfl rfl rfl rfl rfl (by omega) rfl (fun v_12 H_12 ho_12 => ?_)
    refine OT.pures hT 1 rfl (.nil (.seq (.ret (.of (rs := [.tmp 4]) [_] (H_12 :: hs) rfl (.tmp rfl .nil) sl ?_))))
    dsimp only [one]
    exact ⟨_, rfl, by rw [hsN c11]; exact ho_12.row⟩
  ·
    refine TT.skip (.seq (.seq (.region (.pures hT 4 rfl (.index_at hT rfl rfl rfl rfl (by omega) (by omega) rfl (.load rfl rfl (Ld.slc hT rfl hb (rb_at hS.len hv (by omega))) rfl (.pures hT 1 rfl (.nil (.seq (.ret (.of (rs := [.tmp 4]) [_] ([] :: hs) rfl (.tmp rfl .nil) sl ?_)))))))))))
    dsimp only [one]
    exact ⟨[], rfl, (hsS c11).there⟩

set_option maxHeartbeats 4000000 in
set_option maxRecDepth 100000 in
theorem rb_back {n : Int} {xs : List Snap} (hgc : GoodC n xs) {bb : Nat} {vs : List Value} {vS : Value} {R : Pages} {r : List Chunk} {G HS F : Chunk} (hS : Slots (G :: r) vs R) (ho : Own encSnap 35 45 vS xs HS) {i : Nat} {s : Snap} (hs : xs[i]? = some s) : Fun Try.prog 32 [.pointer (some ⟨bb, 0, none⟩), .int .i64 (i : Nat)] ([(bb, blk (rbCells vs n vS) 76 (0, 0))] :: HS :: G :: F :: r) (fun v' hs' => ∃ vs' vS' HS' G', hs' = [(bb, blk (rbCells vs' n vS') 76 (0, 0))] :: HS' :: G' :: F :: r ∧ v' = .tuple ⟨[]⟩ ∧ Own encSnap 35 45 vS' (expandS R s.id ((backL R s 32).map Prod.fst) (xs.take (i + 1))) HS' ∧ Slots (G' :: r) vs' (lay (sideLay R R (sides (xs.take (i + 1)) (expandS R s.id ((backL R s 32).map Prod.fst) (xs.take (i + 1))))) (backL R s 32))) := by
  refine Fun.enter 70 Try.func32 rfl Try.ntmps32 rfl ?_
  have hfew := hgc.few
  have hil := (List.getElem?_eq_some_iff.1 hs).1
  obtain ⟨aS, cS, hvS⟩ := (ho.row (hs := [])).len
  subst hvS
  have h35 := ho.enc_len s (List.mem_of_getElem? hs)
  have h32 := map32 h35
  have hsd := hgc.sides s (List.mem_of_getElem? hs)
  refine TT.seq (.region (.pures hT 4 rfl (.load rfl rfl (Ld.slc hT rfl hz (rb_v hS.len)) rfl ?_)))
  refine OT.pures hT 1 rfl (.index hT rfl rfl rfl rfl (ho.row.mono fun b o hb => Has.sel sl hb) (by omega) (by rw [Int.toNat_natCast]; exact hs) rfl (fun ad_13 hel_13 => ?_))
  refine OT.load rfl rfl (hel_13.ld_struct hT rfl) rfl (.alloc Try.zeroValue45 rfl rfl (fun b_4 => ?_))
  refine OT.store_all hT rfl rfl rfl rfl pl (by exact h35) rfl (ones_snap s) (.inl (Nat.le_refl _)) ?_
  refine OT.nil (.seq (.seq (.region (.pures hT 1 rfl (.nil (.seq (.seq (.seq (.region (.pures hT 1 rfl (.nil (.seq (.block (.chunk0 (TT.chunk0 ?_)))))))))))))))
  refine TT.loop (ι := Nat × Value × (List Im) × Chunk × Chunk) (fun j => 1 ≤ (j.1) ∧ (j.1) ≤ 32 ∧ imgs (j.2.2.1) = backL R s (j.1) ∧ Own encIm 2 66 (j.2.1) (j.2.2.1) (j.2.2.2.1) ∧ ∀ t ∈ (j.2.2.1), Row Go.Sx.encB 1 ((j.2.2.2.2) :: G :: r) t.v t.b) (fun j => 32 - (j.1)) (fun j => [(0, .pointer (some ⟨bb, 0, none⟩)), (1, .int .i64 (i : Nat)), (4, .pointer (some ⟨b_4, 0, none⟩)), (5, (j.2.1)), (6, .int .i64 ((j.1) : Nat))]) (fun j => (j.2.2.2.1) :: (j.2.2.2.2) :: [(b_4, blk (encSnap s) 45 (0, 0))] :: [(bb, blk (rbCells vs n (.slice aS xs.length cS)) 76 (0, 0))] :: HS :: G :: F :: r) (1, .slice none 0 0, [], [], []) ?_ (SubR.cons rfl (SubR.cons rfl (SubR.cons rfl (SubR.cons rfl (SubR.cons rfl (SubR.nil _)))))) sl ?_
  · dsimp only
    exact ⟨by omega, by omega, (backL_one R s).symm, Own.nil, by simp⟩
  rintro ⟨k, w, ts, KL, Z⟩ hI
  dsimp only at hI
  obtain ⟨hk, hk2, hti, hKL, hTs⟩ := hI
  show TT _ _ _ [(0, .pointer (some ⟨bb, 0, none⟩)), (1, .int .i64 (i : Nat)), (4, .pointer (some ⟨b_4, 0, none⟩)), (5, w), (6, .int .i64 (k : Nat))] (KL :: Z :: [(b_4, blk (encSnap s) 45 (0, 0))] :: [(bb, blk (rbCells vs n (.slice aS xs.length cS)) 76 (0, 0))] :: HS :: G :: F :: r)
  obtain ⟨aw, cw, hw⟩ := (hKL.row (hs := [])).len
  subst hw
  have htl : ts.length ≤ k := by rw [← imgs_length, hti]; exact backL_len R s k
  refine TT.seq (.seq (.region (.pures hT 2 rfl (.nil (.seq (.cond rfl (fun c16 => ?_) (fun c16 => ?_)))))))
  ·
    have c16 := of_decide_eq_true c16
    obtain ⟨x, hx⟩ := nth (l := s.map) (i := k) (by omega)
    have hxs := hsd x (List.mem_of_getElem? hx)
    obtain ⟨x', hx'⟩ : ∃ m : Nat, x = m := ⟨x.toNat, by omega⟩
    subst hx'
    refine TT.skip (.seq (.seq (.block (.seq (.draw ((KL :: Z :: [(b_4, blk (encSnap s) 45 (0, 0))] :: [(bb, blk (rbCells vs n (.slice aS xs.length cS)) 76 (0, 0))] :: HS :: G :: F :: r)) mixed (.takes (fuel := 17) hT [0, 1] kr kr rfl (.index_at (fuel := 16) hT 2 rfl kr kr kr rfl rfl rfl rfl (by omega) (by omega) rfl (.take (fuel := 15) hT 3 rfl rfl kr kr kr rfl (.load rfl (Ld.one hT rfl hz (snap_at hx))) rfl ?_))))))))
    refine AT.takes (fuel := 13) hT [4, 5] kr kr rfl (.split 24 rfl (fun g24 => ?_) (fun g24 => ?_))
    ·
      have g24 := bne_iff_ne.1 g24
      refine AT.takes (fuel := 8) hT [6, 7, 8, 13, 14] kr kr rfl (.index_at (fuel := 7) hT 9 rfl kr kr kr rfl rfl rfl rfl (by omega) (by omega) rfl (.take (fuel := 6) hT 10 rfl rfl kr kr kr rfl (.load rfl (Ld.one hT rfl hz (snap_at hx))) rfl ?_))
      refine AT.op (fuel := 5) 11 kr rfl sl (.call Try.call63 rfl rfl rfl rfl (rb_page (by exact hz) (hS.mono fun b o hb => Has.sel sl hb) (k := x') (by omega)) ?_)
      rintro v_30 hs_30 ⟨K5, rfl, hr5⟩
      refine OT.nil (.any (.cs (K5 :: KL :: Z :: [(b_4, blk (encSnap s) 45 (0, 0))] :: [(bb, blk (rbCells vs n (.slice aS xs.length cS)) 76 (0, 0))] :: HS :: G :: F :: r) sl (.conv (fuel := 4) 12 rfl kr kr kr hT rfl rfl rfl rfl rfl hr5 rfl (.op (fuel := 3) 15 kr rfl sl (.call Try.call63 rfl rfl rfl rfl (rb_page (by exact hz) (hS.mono fun b o hb => Has.sel sl hb) (k := k) (by omega)) ?_)))))
      rintro v_34 hs_34 ⟨K6, rfl, hr6⟩
      refine OT.nil (.any (.op (fuel := 2) 16 kr rfl sl (.conv_bs (fun _ => rfl) hT rfl rfl rfl rfl rfl hr6 rfl (.nil (.any (.takes (fuel := 0) hT [17, 18] kr kr rfl (.done kr sl (.seq (.cond rfl (fun c37 => ?_) (fun c37 => ?_))))))))))
      ·
        have c37 : ¬ R (x' : Nat) = R (k : Nat) := fun e => by rw [e] at c37; simp at c37
        refine TT.region (.pures hT 5 rfl (.index_at hT rfl rfl rfl rfl (by omega) (by omega) rfl (.load rfl rfl (Ld.one hT rfl hz (snap_at hx)) rfl ?_)))
        refine OT.call Try.call63 rfl rfl rfl rfl (rb_pageK (hs0 := G :: r) (by exact hz) hS (fun b o hb => Has.sel sl hb) (k := x') (by omega)) ?_
        rintro v_45 hs_45 ⟨K7, rfl, hr7⟩
        have hlx := hS.long (x' : Nat) (by unfold mayPage; omega)
        obtain ⟨a7, c7, hv7⟩ := hr7.len
        subst hv7
        refine OT.build (cs := [.int .i64 (k : Nat), .slice a7 (R (x' : Nat)).length c7]) hT rfl Try.zeroValue66 rfl rfl rfl rfl ?_
        refine OT.buildSlice (enc := encIm) (xs := [(⟨(k : Nat), .slice a7 (R (x' : Nat)).length c7, R (x' : Nat)⟩ : Im)]) (xos := [.tmp 46]) el37 rfl rfl rfl rfl rfl (by simp [Value.cells]) (fun _ _ => rfl) rfl (by decide) rfl (fun v_47 H_47 ho_47 => ?_)
        refine OT.append hT el37 rfl rfl rfl rfl pl hKL ro (by show ones ([(⟨(k : Nat), .slice a7 (R (x' : Nat)).length c7, R (x' : Nat)⟩ : Im)].flatMap encIm) = true; rfl) (by simp only [List.length_append, List.length_cons, List.length_nil]; omega) rfl (fun v_48 H_48 ho_48 => ?_)
        refine OT.pures hT 1 rfl (.nil (.blk (.seq (.region (.pures hT 3 rfl (.nil (.loop (k + 1, v_48, ts ++ [(⟨(k : Nat), .slice a7 (R (x' : Nat)).length c7, R (x' : Nat)⟩ : Im)], H_48, Z ++ K7) ?_ ?_ (SubR.cons rfl (SubR.cons rfl (SubR.cons rfl (SubR.cons rfl (SubR.cons' rfl (by (try dsimp only); exact (int_eq (by rw [wrap_i64 (by omega) (by omega)]; omega))) (SubR.nil _)))))) sl)))))))
        · dsimp only
          refine ⟨by omega, by omega, ?_, ho_48, fun t ht => ?_⟩
          · rw [backL_succ (by omega), Snap.at_some hx, if_pos ⟨g24, c37⟩, imgs_append, hti]; rfl
          · rcases List.mem_append.1 ht with ht | ht
            · exact (hTs t ht).mono fun b o hb => has_sub (fun x hx => List.mem_append_left _ hx) hb
            · rw [List.mem_singleton] at ht; subst ht
              exact hr7.mono fun b o hb => has_sub (fun x hx => List.mem_append_right _ hx) hb
        · dsimp only
          omega
      ·
        have c37 : R (x' : Nat) = R (k : Nat) := by simpa using c37
        refine TT.skip (.blk (.seq (.region (.pures hT 3 rfl (.nil (.loop (k + 1, .slice aw ts.length cw, ts, KL, Z) ?_ ?_ (SubR.cons rfl (SubR.cons rfl (SubR.cons rfl (SubR.cons rfl (SubR.cons' rfl (by (try dsimp only); exact (int_eq (by rw [wrap_i64 (by omega) (by omega)]; omega))) (SubR.nil _)))))) sl))))))
        · dsimp only
          refine ⟨by omega, by omega, ?_, hKL, hTs⟩
          rw [backL_succ (by omega), Snap.at_some hx, if_neg (fun h => h.2 c37), List.append_nil]
          exact hti
        · dsimp only
          omega
    ·
      have g24 := bne_eq_false_iff_eq.1 g24
      refine AT.takes (fuel := 0) hT [6, 7, 8, 9, 10, 11, 12, 13, 14, 15, 16, 17, 18] kr kr rfl (.done kr sl (.seq (.cond_false rfl (.skip (.blk (.seq (.region (.pures hT 3 rfl (.nil (.loop (k + 1, .slice aw ts.length cw, ts, KL, Z) ?_ ?_ (SubR.cons rfl (SubR.cons rfl (SubR.cons rfl (SubR.cons rfl (SubR.cons' rfl (by (try dsimp only); exact (int_eq (by rw [wrap_i64 (by omega) (by omega)]; omega))) (SubR.nil _)))))) sl))))))))))
      · dsimp only
        refine ⟨by omega, by omega, ?_, hKL, hTs⟩
        rw [backL_succ (by omega), Snap.at_some hx, if_neg (fun h => h.1 (by omega)), List.append_nil]
        exact hti
      · dsimp only
        omega
  ·
    have c16 := of_decide_eq_false c16
    obtain rfl : k = 32 := by omega
    refine TT.exit (.seq (.loop (.here (.seq (.seq (.region (.pures hT 5 rfl (.load rfl rfl (Ld.slc hT rfl hz (rb_v hS.len)) rfl ?_))))))))
    refine OT.pures hT 2 rfl (.reg 56 rfl (v := .int .i64 ((i + 1 : Nat) : Int)) (int_eq (by rw [wrap_i64 (by omega) (by omega)]; omega)) (.slice_to (i + 1) hT rfl rfl rfl rfl ho (by omega) rfl (fun ho_57 => ?_)))
    refine OT.chunk0 ?_
    refine OT.append hT el29 rfl rfl rfl rfl pl (Own.nil (enc := encSnap) (sz := 35) (e := 45)) (ho_57.row.mono fun b o hb => Has.sel sl hb) (ones_snaps _) (by simp only [List.length_nil, List.length_take]; omega) rfl (fun v_58 H_58 ho_58 => ?_)
    rw [List.nil_append] at ho_58
    obtain ⟨a58, c58, hv58⟩ := (ho_58.row (hs := [])).len
    subst hv58
    refine OT.pures hT 3 rfl (.store hT rfl rfl rfl rfl pl rfl (by rw [rb_len hS.len]; show 0 + 96 + 1 + 1 ≤ 98; omega) rfl (.inl (Nat.le_refl _)) (by exact rb_snaps hS.len _ (by omega)) ?_)
    refine OT.nil (.seq (.seq (.region (.pures hT 3 rfl (.nil (.seq (.cond rfl (fun c64 => ?_) (fun c64 => ?_))))))))
    ·
      have hne : backL R s 32 ≠ [] := fun e => by rw [e] at hti; have := congrArg List.length hti; rw [imgs_length] at this; simp at this; rw [this] at c64; simp at c64
      refine TT.region (.pures hT 3 rfl (.load rfl rfl (Ld.one hT rfl hz rfl) rfl ?_))
      refine OT.chunk0 (.call Try.call28 rfl rfl rfl rfl (Fun.weaken (sl (hs' := [(bb, blk (rbCells vs n (.slice a58 (xs.take (i + 1)).length c58)) 76 (0, 0))] :: H_58 :: [] :: F :: G :: KL :: Z :: r)) (rb_expand (but := s.id) (G := []) (F := F) (r := G :: KL :: Z :: r) (hS.mono fun b o hb => Has.sel sl hb) ho_58 (hgc.take (i + 1)) (vl := .slice aw ts.length cw) (ts := ts) ⟨hKL.row.mono fun b o hb => Has.sel sl hb, fun t ht => (hTs t ht).mono fun b o hb => Has.sel sl hb, by omega, fun t ht => by have := (backL_data hS.long hsd hne).1.2.1 t.img (by rw [← hti]; exact List.mem_map.2 ⟨t, ht, rfl⟩); have h2 : t.b.length = 256 := this.2; omega⟩ (by rw [hti]; exact backL_data hS.long hsd hne) (but_self (hgc.take (i + 1)) (i := i) (by rw [List.getElem?_take, if_pos (by omega)]; exact hs)))) ?_)
      rintro v_69 hs_69 ⟨vs2, HS2, G2, rfl, rfl, ho2, hS2⟩
      rw [hti] at ho2 hS2
      refine OT.nil (.of (rs := []) [] ([(bb, blk (rbCells vs2 n (.slice a58 (xs.take (i + 1)).length c58)) 76 (0, 0))] :: HS2 :: (G2 ++ (G ++ (KL ++ Z))) :: F :: r) rfl .nil sl ?_)
      try dsimp only [one]
      exact ⟨vs2, _, HS2, _, rfl, rfl, ho2, hS2.mono fun b o hb => Has.of_mem (by have := hb.mem; simp only [List.flatten_cons, List.mem_append] at this ⊢; rcases this with h | h | h | h | h; exact .inl (.inl h); exact .inl (.inr (.inl h)); exact .inl (.inr (.inr (.inl h))); exact .inl (.inr (.inr (.inr h))); exact .inr h)⟩
    ·
      have hne : backL R s 32 = [] := by rw [← hti]; cases ts with
        | nil => rfl
        | cons a l => exact absurd c64 (by simp)
      refine TT.skip (.of (rs := []) [] ([(bb, blk (rbCells vs n (.slice a58 (xs.take (i + 1)).length c58)) 76 (0, 0))] :: H_58 :: G :: F :: r) rfl .nil sl ?_)
      try dsimp only [one]
      refine ⟨vs, _, H_58, G, rfl, rfl, ?_, ?_⟩
      · rw [hne, List.map_nil, expandS_nil]; exact ho_58
      · rw [hne, List.map_nil, expandS_nil, sides_self (hgc.take (i + 1))]; exact hS

end Go.Proofs.Ytnhkgchcdbideaa.Sx
end

section
namespace Go.Proofs.Ytnhkgchcdbideaa.Sx
open Go Go.Sx Go.Pl
variable [Outer]

set_option maxHeartbeats 4000000 in
set_option maxRecDepth 100000 in
theorem cow_copies {bx : Nat} {nx : Int} {vs mv : Value} {ti : Nat} {ui : Value} {I : Chunk → Prop} {E : Int → Chunk → Prop} {Q : Pages} {H : Chunk} {r : List Chunk} (hP : Pgs Try.prog 5 (.iface ti ui) I E (pgOf Q)) (hI : I H) (hQ : ∀ no, mayPage no → (Q no).length = 256) {xs : List Snap} {HS : Chunk} (ho : Own encSnap 35 45 vs (xs) HS) (hl : xs.length ≤ 64) (hsd : ∀ s ∈ xs, s.side) {k : Nat} (hk : k < xs.length) {vn : Value} {nos : List Int} (hn : Row Go.Sx.encI 1 r vn nos) (hnl : nos.length ≤ 32) (hnr : ∀ no ∈ nos, 0 ≤ no ∧ no < 32) : FunP Try.prog 68 [.pointer (some ⟨bx, 0, none⟩), .int .i64 (k : Nat), vn] ([(bx, blk [.iface ti ui, .int .i64 nx, vs, mv] 100 (0, 0))] :: HS :: H :: r) (fun v' hs' => ∃ HS' H', hs' = [(bx, blk [.iface ti ui, .int .i64 nx, vs, mv] 100 (0, 0))] :: HS' :: H' :: r ∧ v' = .tuple ⟨[]⟩ ∧ Own encSnap 35 45 vs (copiesC Q xs k nos) HS' ∧ I H') (fun v' hs' => ∃ e H', v' = flt e ∧ e ≠ 0 ∧ E e H' ∧ hs' = H' :: r) := by
  refine FunP.enter 80 Try.func68 rfl Try.ntmps68 rfl ?_
  obtain ⟨an, cn, hvn⟩ := hn.len
  subst hvn
  obtain ⟨ib, io, ic, hvs⟩ : ∃ ib io ic, vs = .slice (some ⟨ib, io, none⟩) xs.length ic := by
    obtain ⟨b, o, cap, cs, fr, hv, _⟩ := ho.over (by omega)
    exact ⟨b, o, cap, hv⟩
  subst hvs
  obtain ⟨s, hs⟩ := nth (l := xs) (i := k) hk
  have h35 := (ho.enc_len) s (List.mem_of_getElem? hs)
  have hss := hsd s (List.mem_of_getElem? hs)
  have hC : copiesC Q xs k nos = takeAll xs k (nos.filter (needsB Q s)) := by unfold copiesC; rw [hs]
  refine TT.seq (.region (.pures hT 1 rfl (.nil (.seq (.seq (.seq (.region (.pures hT 3 rfl (.nil (.seq (.block (.chunk0 (.loop (ι := Nat × Value × Chunk × Chunk) (fun j => (j.1) ≤ nos.length ∧ Own Go.Sx.encI 1 3 (j.2.1) ((nos.take (j.1)).filter (needsB Q s)) (j.2.2.1) ∧ I (j.2.2.2)) (fun j => nos.length - (j.1)) (fun j => [(0, .pointer (some ⟨bx, 0, none⟩)), (1, .int .i64 (k : Nat)), (6, (j.2.1)), (13, .slice an nos.length cn), (14, .int .i64 nos.length), (15, .int .i64 ((j.1) : Nat))]) (fun j => (j.2.2.1) :: [(bx, blk [.iface ti ui, .int .i64 nx, (.slice (some ⟨ib, io, none⟩) xs.length ic), mv] 100 (0, 0))] :: HS :: (j.2.2.2) :: r) (0, .slice none 0 0, [], H) ?_ (SubR.cons rfl (SubR.cons rfl (SubR.cons rfl (SubR.cons rfl (SubR.cons rfl (SubR.cons rfl (SubR.nil _))))))) sl ?_)))))))))))))
  · dsimp only
    exact ⟨by omega, Own.nil, hI⟩
  rintro ⟨i, w, K, H1⟩ hI
  dsimp only at hI
  obtain ⟨hi, hw, hI1⟩ := hI
  show TT _ _ _ [(0, .pointer (some ⟨bx, 0, none⟩)), (1, .int .i64 (k : Nat)), (6, w), (13, .slice an nos.length cn), (14, .int .i64 nos.length), (15, .int .i64 (i : Nat))] (K :: [(bx, blk [.iface ti ui, .int .i64 nx, (.slice (some ⟨ib, io, none⟩) xs.length ic), mv] 100 (0, 0))] :: HS :: H1 :: r)
  have hfl : ((nos.take i).filter (needsB Q s)).length ≤ i := Nat.le_trans (List.length_filter_le _ _) (List.length_take_le _ _)
  refine TT.seq (.region (.pures hT 1 rfl (.nil (.seq (.seq (.cond rfl (fun c16 => ?_) (fun c16 => ?_)))))))
  ·
    have c16 := of_decide_eq_true c16
    obtain ⟨no, hno⟩ := nth (l := nos) (i := i) (by omega)
    obtain ⟨hn0, hn1⟩ := hnr no (List.mem_of_getElem? hno)
    obtain ⟨n, rfl⟩ : ∃ n : Nat, no = n := ⟨no.toNat, by omega⟩
    refine TT.skip (.seq (.seq (.block (.seq (.region (.index hT rfl rfl rfl rfl hn.there.there.there.there (by omega) hno rfl (fun ad_17 hel_17 => ?_)))))))
    refine OT.load rfl rfl (hel_17.ld_one hT rfl rfl) rfl (.pures hT 1 rfl (.nil (.seq (.seq (.region (.pures hT 5 rfl (.load rfl rfl (Ld.slc hT rfl hz rfl) rfl ?_)))))))
    refine OT.pures hT 1 rfl (.index hT rfl rfl rfl rfl (ho.row.there.there.mono (fun _ _ h => h)) (by omega) hs rfl (fun ad_26 hel_26 => ?_))
    refine OT.load rfl rfl (hel_26.ld_struct hT rfl) rfl (.pures hT 1 rfl ?_)
    refine OT.callP Try.call79 rfl rfl rfl rfl (FunP.weaken (sl (hs' := [(bx, blk [.iface ti ui, .int .i64 nx, (.slice (some ⟨ib, io, none⟩) xs.length ic), mv] 100 (0, 0))] :: H1 :: K :: HS :: r)) (cow_needs (r := K :: HS :: r) hP hI1 hQ h35 hss (n := n) (by omega))) (fun _ _ h => by
      obtain ⟨e, H', rfl, h1, h2, rfl⟩ := h
      exact PP.of ⟨e, H', rfl, h1, h2, rfl⟩ sl) ?_
    rintro v_29 hs_29 ⟨H2, rfl, rfl, hI2⟩
    refine OT.nil (.seq (.cond rfl (fun c29 => ?_) (fun c29 => ?_)))
    ·
      refine TT.region (.pures hT 2 rfl ?_)
      refine OT.buildSlice (enc := Go.Sx.encI) (xs := [(n : Int)]) (xos := [.tmp 31]) el59 rfl rfl rfl rfl rfl (by simp [Value.cells]) (fun _ _ => rfl) rfl (by decide) rfl (fun v_32 H_32 ho_32 => ?_)
      refine OT.append hT el59 rfl rfl rfl rfl pl hw ho_32.row rfl (by simp only [List.length_cons, List.length_nil]; omega) rfl (fun v_33 H_33 ho_33 => ?_)
      refine OT.pures hT 1 rfl (.nil (.blk (.seq (.region (.pures hT 2 rfl (.nil (.loop (i + 1, v_33, H_33, H2) ?_ ?_ (SubR.cons rfl (SubR.cons rfl (SubR.cons rfl (SubR.cons rfl (SubR.cons rfl (SubR.cons' rfl (by (try dsimp only); exact (int_eq (by rw [wrap_i64 (by omega) (by omega)]; omega))) (SubR.nil _))))))) sl)))))))
      · dsimp only
        refine ⟨by omega, ?_, hI2⟩
        rw [filter_take_succ _ hno, if_pos c29]
        exact ho_33
      · dsimp only
        omega
    ·
      refine TT.skip (.blk (.seq (.region (.pures hT 2 rfl (.nil (.loop (i + 1, w, K, H2) ?_ ?_ (SubR.cons rfl (SubR.cons rfl (SubR.cons rfl (SubR.cons rfl (SubR.cons rfl (SubR.cons' rfl (by (try dsimp only); exact (int_eq (by rw [wrap_i64 (by omega) (by omega)]; omega))) (SubR.nil _))))))) sl))))))
      · dsimp only
        refine ⟨by omega, ?_, hI2⟩
        rw [filter_take_succ _ hno, if_neg (by rw [c29]; simp), List.append_nil]
        exact hw
      · dsimp only
        omega
  ·
    have c16 := of_decide_eq_false c16
    rw [List.take_of_length_le (by omega)] at hw hfl
    obtain ⟨aw, cw, hw'⟩ := (hw.row (hs := [])).len
    subst hw'
    refine TT.exit (.seq (.loop (.here (.seq (.seq (.region (.pures hT 3 rfl (.nil (.seq (.block (.loop (ι := Nat × (List Snap) × Chunk) (fun j => (j.1) ≤ (nos.filter (needsB Q s)).length ∧ Own encSnap 35 45 (.slice (some ⟨ib, io, none⟩) xs.length ic) ((j.2.1)) (j.2.2) ∧ (j.2.1).length = xs.length ∧ takeAll (j.2.1) k ((nos.filter (needsB Q s)).drop (j.1)) = copiesC Q xs k nos) (fun j => (nos.filter (needsB Q s)).length - (j.1)) (fun j => [(0, .pointer (some ⟨bx, 0, none⟩)), (1, .int .i64 (k : Nat)), (35, .slice aw (nos.filter (needsB Q s)).length cw), (36, .int .i64 (nos.filter (needsB Q s)).length), (37, .int .i64 ((j.1) : Nat))]) (fun j => (j.2.2) :: [(bx, blk [.iface ti ui, .int .i64 nx, (.slice (some ⟨ib, io, none⟩) xs.length ic), mv] 100 (0, 0))] :: K :: H1 :: r) (0, xs, HS) ?_ (SubR.cons rfl (SubR.cons rfl (SubR.cons rfl (SubR.cons rfl (SubR.cons rfl (SubR.nil _)))))) sl ?_)))))))))))
    · dsimp only
      exact ⟨by omega, ho, rfl, by rw [hC]; rfl⟩
    rintro ⟨j, ys, HS1⟩ hI
    dsimp only at hI
    obtain ⟨hj, ho1, hyl, hp⟩ := hI
    show TT _ _ _ [(0, .pointer (some ⟨bx, 0, none⟩)), (1, .int .i64 (k : Nat)), (35, .slice aw (nos.filter (needsB Q s)).length cw), (36, .int .i64 (nos.filter (needsB Q s)).length), (37, .int .i64 (j : Nat))] (HS1 :: [(bx, blk [.iface ti ui, .int .i64 nx, (.slice (some ⟨ib, io, none⟩) xs.length ic), mv] 100 (0, 0))] :: K :: H1 :: r)
    refine TT.seq (.region (.pures hT 1 rfl (.nil (.seq (.seq (.cond rfl (fun c38 => ?_) (fun c38 => ?_)))))))
    ·
      have c38 := of_decide_eq_true c38
      obtain ⟨no, hno⟩ := nth (l := (nos.filter (needsB Q s))) (i := j) (by omega)
      obtain ⟨hn0, hn1⟩ := hnr no (List.mem_filter.1 (List.mem_of_getElem? hno)).1
      obtain ⟨n, rfl⟩ : ∃ n : Nat, no = n := ⟨no.toNat, by omega⟩
      obtain ⟨s1, hs1⟩ := nth (l := ys) (i := k) (by omega)
      have hm1 := map32 (ho1.enc_len s1 (List.mem_of_getElem? hs1))
      rw [drop_cons hno, takeAll] at hp
      obtain ⟨a, hav⟩ : ∃ a, (takeP ys).1 = a := ⟨_, rfl⟩
      refine TT.skip (.seq (.seq (.block (.seq (.region (.index hT rfl rfl rfl rfl hw.row.there.there (by omega) hno rfl (fun ad_39 hel_39 => ?_)))))))
      refine OT.load rfl rfl (hel_39.ld_one hT rfl rfl) rfl (.pures hT 1 rfl (.nil (.seq (.seq (.region (.pures hT 3 rfl (.load rfl rfl (Ld.struct hT rfl hz rfl rfl) rfl ?_)))))))
      refine OT.call Try.call80 rfl rfl rfl rfl (cat_Take ho1.row (by omega)) ?_
      rintro v_46 hs_46 ⟨rfl, rfl⟩
      refine OT.pures hT 5 rfl (.nil (.seq (.seq (.seq (.region (.pures hT 2 rfl (.nil (.seq (.cond rfl (fun c50 => ?_) (fun c50 => ?_))))))))))
      ·
        have c50 : (takeP ys).2 = false := by simpa using c50
        have htp : takeP ys = (a, false) := by rw [← hav, ← c50]
        rw [htp] at hp
        dsimp only at hp
        rw [modify_at hs1] at hp
        refine TT.seq (.draw (([(bx, blk [.iface ti ui, .int .i64 nx, (.slice (some ⟨ib, io, none⟩) xs.length ic), mv] 100 (0, 0))] :: H1 :: r)) mixed (.takes (fuel := 9) hT [0, 1, 2, 3, 5, 6, 7, 8, 9, 11] kr kr rfl (.take (fuel := 8) hT 4 rfl rfl kr kr kr rfl (.load rfl (Ld.slc hT rfl hz rfl)) rfl ?_)))
        refine AT.take (fuel := 7) hT 10 rfl rfl kr kr kr rfl (.load rfl (Ld.slc hT rfl hz rfl)) rfl ?_
        refine AT.takeR (fuel := 6) 12 rfl rfl kr kr kr rfl (fun a w _ _ => arr0_run hT rfl Try.zeroValue43 a.eval w) rfl (.op (fuel := 5) 13 kr rfl sl (.index_raw hT rfl rfl rfl rfl (by omega) (by omega) rfl (.nil (.any (.takes (fuel := 4) hT [14] kr kr rfl (.op (fuel := 3) 15 kr rfl sl (.store_el k 2 hT rfl rfl rfl rfl pl ho1 hs1 (by omega) rfl (by decide) rfl (enc_inv true) (fun H_y ho_y => ?_))))))))
        refine OT.nil (.any (.op (fuel := 2) 16 kr rfl sl (.index_raw hT rfl rfl rfl rfl (by omega) (by omega) rfl (.nil (.any (.takes (fuel := 1) hT [17] kr kr rfl (.op (fuel := 0) 18 kr rfl sl (.store_el k 3 hT rfl rfl rfl rfl pl ho_y (List.getElem?_set_self (by omega)) (by omega) rfl (by decide) rfl (by exact enc_lose (s := { s1 with inv := true }) hm1 (List.replicate 32 0) rfl) (fun H_z ho_z => ?_)))))))))
        refine OT.nil (.any (.done kr sl (.seq (.ret (.ofP (rs := []) [] ([(bx, blk [.iface ti ui, .int .i64 nx, (.slice (some ⟨ib, io, none⟩) xs.length ic), mv] 100 (0, 0))] :: H_z :: H1 :: r) rfl .nil sl ?_)))))
        try dsimp only [one]
        exact ⟨H_z, H1, rfl, rfl, by rw [← hp]; rw [List.set_set] at ho_z; exact ho_z, hI1⟩
      ·
        have c50 : (takeP ys).2 = true := by simpa using c50
        have htp : takeP ys = (a, true) := by rw [← hav, ← c50]
        rw [htp] at hp ⊢
        dsimp only at hp
        rw [modify_at hs1] at hp
        refine TT.skip (.seq (.region (.pures hT 4 rfl (.load rfl rfl (Ld.slc hT rfl hz rfl) rfl ?_))))
        refine OT.pures hT 3 rfl (.index_raw hT rfl rfl rfl rfl (by omega) (by omega) rfl (.pures hT 1 rfl (.index_at hT rfl rfl rfl rfl (by omega) (by omega) rfl (.store_el k (0 + 3 + ((n : Nat) : Int).toNat * 1) hT rfl rfl rfl rfl pl ho1 hs1 (by omega) rfl (by show 0 + 3 + ((n : Nat) : Int).toNat * 1 + 1 ≤ 35; omega) rfl (snap_set (s := s1) (by omega)) (fun H_x ho_x => ?_)))))
        refine OT.nil (.blk (.seq (.region (.pures hT 2 rfl (.nil (.loop (j + 1, ys.set k (give s1 (n : Int) a), H_x) ?_ ?_ (SubR.cons rfl (SubR.cons rfl (SubR.cons rfl (SubR.cons rfl (SubR.cons' rfl (by (try dsimp only); exact (int_eq (by rw [wrap_i64 (by omega) (by omega)]; omega))) (SubR.nil _)))))) sl))))))
        · dsimp only
          refine ⟨by omega, ho_x, by rw [List.length_set]; exact hyl, hp⟩
        · dsimp only
          omega
    ·
      have c38 := of_decide_eq_false c38
      rw [List.drop_eq_nil_of_le (by omega), takeAll] at hp
      refine TT.exit (.seq (.loop (.here (.ofP (rs := []) [] ([(bx, blk [.iface ti ui, .int .i64 nx, (.slice (some ⟨ib, io, none⟩) xs.length ic), mv] 100 (0, 0))] :: HS1 :: H1 :: r) rfl .nil sl ?_))))
      try dsimp only [one]
      exact ⟨HS1, H1, rfl, rfl, by rw [← hp]; exact ho1, hI1⟩

end Go.Proofs.Ytnhkgchcdbideaa.Sx
end

section
namespace Go.Proofs.Ytnhkgchcdbideaa.Sx
open Go Go.Sx Go.Pl
variable [Outer]

omit [Outer] in
theorem mapT : IntMap Try.prog 98 22 (.slice none 0 0) := ⟨⟨_, Try.underlying98, Try.underlying3⟩, Try.zeroValue22⟩

set_option maxHeartbeats 4000000 in
set_option maxRecDepth 100000 in
theorem cow_expand {bx mb : Nat} {nx but : Int} {vs : Value} {ti : Nat} {ui : Value} {I : Chunk → Prop} {E : Int → Chunk → Prop} {Q : Pages} {H : Chunk} {r : List Chunk} (hP : Pgs Try.prog 5 (.iface ti ui) I E (pgOf Q)) (hI : I H) (hQ : ∀ no, mayPage no → (Q no).length = 256) {n0 : Int} {was : List Snap} (hdec : decodeS (Q 0) = ((n0, was), 0)) (hwl : was.length ≤ 64) {xs : List Snap} {HS : Chunk} (ho : Own encSnap 35 45 (vs) (xs) HS) (hl : xs.length ≤ 64) (hsd : ∀ s ∈ xs, s.side) {m : Int → Option Value} {c : Chg} {HM G : Chunk} (hM : IsMap m mb HM) (hc : MapRow (G :: r) m c) (hnm : ∀ s ∈ (expandS Q but (nosOf c) xs), ∃ (i : Nat) (w : Snap), findAt (named s.name) 0 was = (i : Int) ∧ was[i]? = some w) (hmay : mayB nx (expandS Q but (nosOf c) xs) = true) : FunP Try.prog 44 [.pointer (some ⟨bx, 0, none⟩), .int .i64 but] ([(bx, blk [.iface ti ui, .int .i64 nx, (vs), (.map (some mb))] 100 (0, 0))] :: HS :: HM :: G :: H :: r) (fun v' hs' => ∃ vs' HS' m' HM' G' H', hs' = [(bx, blk [.iface ti ui, .int .i64 nx, (vs'), (.map (some mb))] 100 (0, 0))] :: HS' :: HM' :: G' :: H' :: r ∧ v' = .tuple ⟨[]⟩ ∧ IsMap m' mb HM' ∧ MapRow (G' :: r) m' (expandM Q nx was (expandS Q but (nosOf c) xs) c) ∧ I H') (fun v' hs' => ∃ e H', v' = flt e ∧ e ≠ 0 ∧ E e H' ∧ hs' = H' :: r) := by
  refine FunP.enter 148 Try.func44 rfl Try.ntmps44 rfl ?_
  obtain ⟨a0, c0, hvs⟩ := (ho.row (hs := [])).len
  subst hvs
  refine TT.seq (.region (.pures hT 1 rfl (.nil (.seq (.seq (.seq (.region (.pures hT 1 rfl (.nil (.seq (.block (.chunk0 (.loop (ι := Nat × Value × Chunk) (fun j => (j.1) ≤ 32 ∧ Own Go.Sx.encI 1 3 (j.2.1) (nosTo c (j.1)) (j.2.2)) (fun j => 32 - (j.1)) (fun j => [(0, .pointer (some ⟨bx, 0, none⟩)), (1, .int .i64 but), (4, (j.2.1)), (17, .int .i64 ((j.1) : Nat))]) (fun j => (j.2.2) :: [(bx, blk [.iface ti ui, .int .i64 nx, (.slice a0 xs.length c0), (.map (some mb))] 100 (0, 0))] :: HS :: HM :: G :: H :: r) (0, .slice none 0 0, []) ?_ (SubR.cons rfl (SubR.cons rfl (SubR.cons rfl (SubR.cons rfl (SubR.nil _))))) sl ?_)))))))))))))
  · dsimp only
    exact ⟨by omega, Own.nil⟩
  rintro ⟨i, w, K⟩ hI
  dsimp only at hI
  obtain ⟨hi, hw⟩ := hI
  show TT _ _ _ [(0, .pointer (some ⟨bx, 0, none⟩)), (1, .int .i64 but), (4, w), (17, .int .i64 (i : Nat))] (K :: [(bx, blk [.iface ti ui, .int .i64 nx, (.slice a0 xs.length c0), (.map (some mb))] 100 (0, 0))] :: HS :: HM :: G :: H :: r)
  have hfl := nosTo_len c i
  refine TT.seq (.region (.pures hT 1 rfl (.nil (.seq (.seq (.cond rfl (fun c18 => ?_) (fun c18 => ?_)))))))
  ·
    have c18 := of_decide_eq_true c18
    refine TT.skip (.seq (.seq (.block (.seq (.region (.pures hT 2 rfl (.nil (.seq (.seq (.region (.pures hT 3 rfl (.load rfl rfl (Ld.one hT rfl hz rfl) rfl ?_))))))))))))
    refine OT.pures hT 1 rfl (.lookup_ok mapT rfl rfl rfl pl hM rfl ?_)
    refine OT.pures hT 5 rfl (.nil (.seq (.seq (.region (.pures hT 1 rfl (.nil (.seq (.cond rfl (fun c29 => ?_) (fun c29 => ?_)))))))))
    ·
      refine TT.region (.pures hT 2 rfl ?_)
      refine OT.buildSlice (enc := Go.Sx.encI) (xs := [(i : Int)]) (xos := [.tmp 31]) el59 rfl rfl rfl rfl rfl (by simp [Value.cells]) (fun _ _ => rfl) rfl (by decide) rfl (fun v_32 H_32 ho_32 => ?_)
      refine OT.append hT el59 rfl rfl rfl rfl pl hw ho_32.row rfl (by simp only [List.length_cons, List.length_nil]; omega) rfl (fun v_33 H_33 ho_33 => ?_)
      refine OT.pures hT 1 rfl (.nil (.blk (.seq (.region (.pures hT 2 rfl (.nil (.loop (i + 1, v_33, H_33) ?_ ?_ (SubR.cons rfl (SubR.cons rfl (SubR.cons rfl (SubR.cons' rfl (by (try dsimp only); exact (int_eq (by rw [wrap_i64 (by omega) (by omega)]; omega))) (SubR.nil _))))) sl)))))))
      · dsimp only
        refine ⟨by omega, ?_⟩
        rw [nosTo_succ, if_pos (by rw [← hc.is]; exact c29)]
        exact ho_33
      · dsimp only
        omega
    ·
      refine TT.skip (.blk (.seq (.region (.pures hT 2 rfl (.nil (.loop (i + 1, w, K) ?_ ?_ (SubR.cons rfl (SubR.cons rfl (SubR.cons rfl (SubR.cons' rfl (by (try dsimp only); exact (int_eq (by rw [wrap_i64 (by omega) (by omega)]; omega))) (SubR.nil _))))) sl))))))
      · dsimp only
        refine ⟨by omega, ?_⟩
        rw [nosTo_succ, if_neg (by rw [← hc.is, c29]; simp), List.append_nil]
        exact hw
      · dsimp only
        omega
  ·
    have c18 := of_decide_eq_false c18
    obtain rfl : i = 32 := by omega
    obtain ⟨aw, cw, hw'⟩ := (hw.row (hs := [])).len
    subst hw'
    refine TT.exit (.seq (.loop (.here (.seq (.seq (.region (.pures hT 3 rfl (.load rfl rfl (Ld.one hT rfl hz rfl) rfl ?_))))))))
    refine OT.callP Try.call43 rfl rfl rfl rfl (FunP.pull pl (cow_read hP hI hdec (hQ 0 (by unfold mayPage; omega)))) (fun _ _ h => by
      obtain ⟨e, H', rfl, h1, h2, rfl⟩ := h
      exact PP.of ⟨e, H', rfl, h1, h2, rfl⟩ sl) ?_
    rintro v_39 hs_39 ⟨H1, w1, HW, rfl, rfl, hoW, hI1⟩
    obtain ⟨a8, c8, hw1⟩ := (hoW.row (hs := [])).len
    subst hw1
    refine OT.alloc Try.zeroValue31 rfl rfl (fun b_8 => ?_)
    refine OT.store_all hT rfl rfl rfl rfl pl rfl rfl rfl (.inl (Nat.le_refl _)) ?_
    refine OT.nil (.seq (.seq (.region (.pures hT 5 rfl (.load rfl rfl (Ld.slc hT rfl hz rfl) rfl ?_)))))
    refine OT.call Try.call35 rfl rfl rfl rfl (sl_Clone ro (by omega)) ?_
    rintro v_46 hs_46 ⟨HS0, rfl, ho0⟩
    obtain ⟨a46, c46, hv46⟩ := (ho0.row (hs := [])).len
    subst hv46
    refine OT.pures hT 3 rfl (.store hT rfl rfl rfl rfl pl rfl (Nat.le_of_ble_eq_true rfl) rfl (.inl (Nat.le_refl _)) rfl ?_)
    refine OT.nil (.seq (.seq (.seq (.region (.pures hT 4 rfl (.load rfl rfl (Ld.slc hT rfl hz rfl) rfl ?_))))))
    refine OT.pures hT 2 rfl (.nil (.seq (.block (.loop (ι := Nat × (List Snap) × Chunk × Chunk) (fun j => (j.1) ≤ xs.length ∧ Own encSnap 35 45 (.slice a46 xs.length c46) ((j.2.1)) (j.2.2.1) ∧ (j.2.1).length = xs.length ∧ (∀ s ∈ (j.2.1), s.side) ∧ (List.range (j.1)).foldl (stepS Q but (nosTo c 32)) xs = (j.2.1) ∧ I (j.2.2.2)) (fun j => xs.length - (j.1)) (fun j => [(0, .pointer (some ⟨bx, 0, none⟩)), (1, .int .i64 but), (4, .slice aw (nosTo c 32).length cw), (8, .pointer (some ⟨b_8, 0, none⟩)), (55, .int .i64 xs.length), (56, .int .i64 ((j.1) : Nat))]) (fun j => [(bx, blk [.iface ti ui, .int .i64 nx, (.slice a46 xs.length c46), (.map (some mb))] 100 (0, 0))] :: (j.2.2.1) :: (j.2.2.2) :: K :: [(b_8, blk [.int .i64 n0, .slice a8 was.length c8] 31 (0, 0))] :: HW :: HM :: G :: r) (0, xs, HS0, H1) ?_ (SubR.cons rfl (SubR.cons rfl (SubR.cons rfl (SubR.cons rfl (SubR.cons rfl (SubR.cons rfl (SubR.nil _))))))) sl ?_))))
    · dsimp only
      exact ⟨by omega, ho0, rfl, hsd, rfl, hI1⟩
    rintro ⟨k, ys, HS1, H2⟩ hI
    dsimp only at hI
    obtain ⟨hk, ho1, hyl, hys, hf, hI2⟩ := hI
    show TT _ _ _ [(0, .pointer (some ⟨bx, 0, none⟩)), (1, .int .i64 but), (4, .slice aw (nosTo c 32).length cw), (8, .pointer (some ⟨b_8, 0, none⟩)), (55, .int .i64 xs.length), (56, .int .i64 (k : Nat))] ([(bx, blk [.iface ti ui, .int .i64 nx, (.slice a46 xs.length c46), (.map (some mb))] 100 (0, 0))] :: HS1 :: H2 :: K :: [(b_8, blk [.int .i64 n0, .slice a8 was.length c8] 31 (0, 0))] :: HW :: HM :: G :: r)
    refine TT.seq (.region (.pures hT 1 rfl (.nil (.seq (.seq (.cond rfl (fun c57 => ?_) (fun c57 => ?_)))))))
    ·
      have c57 := of_decide_eq_true c57
      obtain ⟨s, hs⟩ := nth (l := ys) (i := k) (by omega)
      refine TT.skip (.seq (.seq (.block (.seq (.region (.pures hT 2 rfl (.nil (.seq (.seq (.region (.pures hT 4 rfl (.load rfl rfl (Ld.slc hT rfl hz rfl) rfl ?_))))))))))))
      refine OT.pures hT 1 rfl (.index hT rfl rfl rfl rfl ho1.row.there (by omega) hs rfl (fun ad_65 hel_65 => ?_))
      obtain ⟨eb_65, eo_65, rfl, hfld_65⟩ := hel_65.at (P := Try.prog)
      refine OT.pures hT 1 rfl (.load rfl rfl (hfld_65 hT rfl rfl) rfl (.pures hT 2 rfl (.nil (.seq (.cond rfl (fun c69 => ?_) (fun c69 => ?_))))))
      ·
        have c69 := bne_iff_ne.1 c69
        refine TT.region (.pures hT 3 rfl ?_)
        refine OT.callP Try.call68 rfl rfl rfl rfl (cow_copies (r := K :: [(b_8, blk [.int .i64 n0, .slice a8 was.length c8] 31 (0, 0))] :: HW :: HM :: G :: r) hP hI2 hQ ho1 (by omega) hys (k := k) (by omega) hw.row (nosTo_len c 32) nosOf_in) (fun _ _ h => by
          obtain ⟨e, H', rfl, h1, h2, rfl⟩ := h
          exact PP.of ⟨e, H', rfl, h1, h2, rfl⟩ sl) ?_
        rintro v_73 hs_73 ⟨HS2, H3, rfl, rfl, hoC, hI3⟩
        refine OT.nil (.blk (.seq (.region (.pures hT 2 rfl (.nil (.loop (k + 1, copiesC Q ys k (nosTo c 32), HS2, H3) ?_ ?_ (SubR.cons rfl (SubR.cons rfl (SubR.cons rfl (SubR.cons rfl (SubR.cons rfl (SubR.cons' rfl (by (try dsimp only); exact (int_eq (by rw [wrap_i64 (by omega) (by omega)]; omega))) (SubR.nil _))))))) sl))))))
        · dsimp only
          refine ⟨by omega, hoC, by rw [copiesC_length]; exact hyl, copiesC_side hys, ?_, hI3⟩
          rw [fold_succ, hf]
          unfold stepS
          rw [hs]
          dsimp only
          rw [if_neg c69]
        · dsimp only
          omega
      ·
        have c69 := bne_eq_false_iff_eq.1 c69
        refine TT.skip (.blk (.seq (.region (.pures hT 2 rfl (.nil (.loop (k + 1, ys, HS1, H2) ?_ ?_ (SubR.cons rfl (SubR.cons rfl (SubR.cons rfl (SubR.cons rfl (SubR.cons rfl (SubR.cons' rfl (by (try dsimp only); exact (int_eq (by rw [wrap_i64 (by omega) (by omega)]; omega))) (SubR.nil _))))))) sl))))))
        · dsimp only
          refine ⟨by omega, ho1, hyl, hys, ?_, hI2⟩
          rw [fold_succ, hf]
          unfold stepS
          rw [hs]
          dsimp only
          rw [if_pos c69]
        · dsimp only
          omega
    ·
      have c57 := of_decide_eq_false c57
      obtain rfl : k = xs.length := by omega
      have hye : ys = (expandS Q but (nosOf c) xs) := hf.symm
      subst hye
      refine TT.exit (.seq (.loop (.here (.seq (.seq (.seq (.region (.pures hT 4 rfl (.load rfl rfl (Ld.slc hT rfl hz rfl) rfl ?_)))))))))
      refine OT.pures hT 2 rfl (.nil (.seq (.block ?_)))
      have hoY := ho1
      have hYl := hyl
      generalize hY : (expandS Q but (nosOf c) xs) = YS at hoY hYl hnm hmay ⊢
      refine TT.loop (ι := Nat × Chg × (Int → Option Value) × Chunk × Chunk × Chunk) (fun j => (j.1) ≤ xs.length ∧ IsMap (j.2.2.1) mb (j.2.2.2.1) ∧ MapRow ((j.2.2.2.2.1) :: r) (j.2.2.1) (j.2.1) ∧ I (j.2.2.2.2.2) ∧ (j.2.1) = laySides Q c (sides was (YS.take (j.1)))) (fun j => xs.length - (j.1)) (fun j => [(0, .pointer (some ⟨bx, 0, none⟩)), (8, .pointer (some ⟨b_8, 0, none⟩)), (79, .slice a46 xs.length c46), (80, .int .i64 xs.length), (81, .int .i64 ((j.1) : Nat))]) (fun j => [(bx, blk [.iface ti ui, .int .i64 nx, (.slice a46 xs.length c46), (.map (some mb))] 100 (0, 0))] :: HS1 :: (j.2.2.2.2.2) :: [(b_8, blk [.int .i64 n0, .slice a8 was.length c8] 31 (0, 0))] :: HW :: (j.2.2.2.1) :: (j.2.2.2.2.1) :: r) (0, c, m, HM, G, H2) ?_ (SubR.cons rfl (SubR.cons rfl (SubR.cons rfl (SubR.cons rfl (SubR.cons rfl (SubR.nil _)))))) sl ?_
      · dsimp only
        exact ⟨by omega, hM, hc, hI2, rfl⟩
      rintro ⟨k, cc, m', HM1, G1, H3⟩ hI
      dsimp only at hI
      obtain ⟨hk, hM1, hc1, hI3, hcc⟩ := hI
      show TT _ _ _ [(0, .pointer (some ⟨bx, 0, none⟩)), (8, .pointer (some ⟨b_8, 0, none⟩)), (79, .slice a46 xs.length c46), (80, .int .i64 xs.length), (81, .int .i64 (k : Nat))] ([(bx, blk [.iface ti ui, .int .i64 nx, (.slice a46 xs.length c46), (.map (some mb))] 100 (0, 0))] :: HS1 :: H3 :: [(b_8, blk [.int .i64 n0, .slice a8 was.length c8] 31 (0, 0))] :: HW :: HM1 :: G1 :: r)
      refine TT.seq (.region (.pures hT 1 rfl (.nil (.seq (.seq (.cond rfl (fun c82 => ?_) (fun c82 => ?_)))))))
      ·
        have c82 := of_decide_eq_true c82
        obtain ⟨s, hs⟩ := nth (l := YS) (i := k) (by omega)
        obtain ⟨wi, w, hfi, hwi⟩ := hnm s (List.mem_of_getElem? hs)
        have h35 := hoY.enc_len s (List.mem_of_getElem? hs)
        have h32 := map32 h35
        have h35w := hoW.enc_len w (List.mem_of_getElem? hwi)
        have h32w := map32 h35w
        have hwo : wasOf was s = w := by unfold wasOf; rw [hfi, Int.toNat_natCast, List.getD_eq_getElem?_getD, hwi]; rfl
        refine TT.skip (.seq (.seq (.block (.seq (.region (.index hT rfl rfl rfl rfl hoY.row.there (by omega) hs rfl (fun ad_83 hel_83 => ?_)))))))
        refine OT.load rfl rfl (hel_83.ld_struct hT rfl) rfl (.alloc Try.zeroValue45 rfl rfl (fun b_11 => ?_))
        refine OT.store_all hT rfl rfl rfl rfl pl (by exact h35) rfl (ones_snap s) (.inl (Nat.le_refl _)) ?_
        refine OT.nil (.seq (.seq (.region (.load rfl rfl (Ld.struct_all hT rfl hz rfl) rfl ?_))))
        refine OT.pures hT 1 rfl (.load rfl rfl (Ld.one hT rfl hz rfl) rfl ?_)
        refine OT.call Try.call31 rfl rfl rfl rfl (cat_Find (next := n0) ro (by omega)) ?_
        rintro v_88 hs_88 ⟨rfl, rfl⟩
        refine OT.pures hT 1 rfl (.nil (.seq (.seq (.region (.pures hT 1 rfl (.load rfl rfl (Ld.arr hT rfl Has.one (snap_map h35) (by simp [h32])) rfl (.pures hT 1 rfl (.nil (.seq (.block (.loop (ι := Nat × Chg × (Int → Option Value) × Chunk × Chunk × Chunk) (fun j => (j.1) ≤ 32 ∧ IsMap (j.2.2.1) mb (j.2.2.2.1) ∧ MapRow ((j.2.2.2.2.1) :: r) (j.2.2.1) (j.2.1) ∧ I (j.2.2.2.2.2) ∧ (j.2.1) = laySides Q c (sides was (YS.take k) ++ sideOf (wasOf was s) s (j.1))) (fun j => 32 - (j.1)) (fun j => [(0, .pointer (some ⟨bx, 0, none⟩)), (8, .pointer (some ⟨b_8, 0, none⟩)), (12, .int .i64 (findAt (named s.name) 0 was)), (79, .slice a46 xs.length c46), (80, .int .i64 xs.length), (81, .int .i64 (k : Nat)), (90, .agg ⟨s.map.map (Value.int .i64)⟩), (91, .int .i64 ((j.1) : Nat))]) (fun j => [(bx, blk [.iface ti ui, .int .i64 nx, (.slice a46 xs.length c46), (.map (some mb))] 100 (0, 0))] :: HS1 :: (j.2.2.2.2.2) :: [(b_8, blk [.int .i64 n0, .slice a8 was.length c8] 31 (0, 0))] :: HW :: (j.2.2.2.1) :: (j.2.2.2.2.1) :: r) (0, cc, m', HM1, G1, H3) ?_ (SubR.cons rfl (SubR.cons rfl (SubR.cons rfl (SubR.cons rfl (SubR.cons rfl (SubR.cons rfl (SubR.cons rfl (SubR.cons rfl (SubR.nil _))))))))) sl ?_)))))))))))
        · dsimp only
          exact ⟨by omega, hM1, hc1, hI3, by rw [hcc]; unfold sideOf; simp⟩
        rintro ⟨n, cc2, m2, HM2, G2, H4⟩ hI
        dsimp only at hI
        obtain ⟨hn, hM2, hc2, hI4, hcc2⟩ := hI
        show TT _ _ _ [(0, .pointer (some ⟨bx, 0, none⟩)), (8, .pointer (some ⟨b_8, 0, none⟩)), (12, .int .i64 (findAt (named s.name) 0 was)), (79, .slice a46 xs.length c46), (80, .int .i64 xs.length), (81, .int .i64 (k : Nat)), (90, .agg ⟨s.map.map (Value.int .i64)⟩), (91, .int .i64 (n : Nat))] ([(bx, blk [.iface ti ui, .int .i64 nx, (.slice a46 xs.length c46), (.map (some mb))] 100 (0, 0))] :: HS1 :: H4 :: [(b_8, blk [.int .i64 n0, .slice a8 was.length c8] 31 (0, 0))] :: HW :: HM2 :: G2 :: r)
        refine TT.seq (.region (.pures hT 1 rfl (.nil (.seq (.seq (.cond rfl (fun c92 => ?_) (fun c92 => ?_)))))))
        ·
          have c92 := of_decide_eq_true c92
          obtain ⟨at_, hat⟩ := nth (l := s.map) (i := n) (by omega)
          obtain ⟨wat, hwat⟩ := nth (l := w.map) (i := n) (by omega)
          refine TT.skip (.seq (.seq (.block (.seq (.region (.pures hT 1 rfl (.index_arr hT rfl rfl rfl rfl rfl (by omega) (by simp [h32]) (by rw [Int.toNat_natCast, List.getElem?_map, hat]; rfl) rfl ?_)))))))
          refine OT.pures hT 2 rfl (.nil (.seq (.seq (.region (.pures hT 3 rfl (.split 97 rfl (fun g97 => ?_) (fun g97 => ?_)))))))
          ·
            have g97 := bne_iff_ne.1 g97
            refine OT.pures hT 1 rfl (.load rfl rfl (Ld.slc hT rfl hz rfl) rfl ?_)
            refine OT.pures hT 2 rfl (.index hT rfl rfl rfl rfl ro (by rw [hfi]; omega) (by rw [hfi, Int.toNat_natCast]; exact hwi) rfl (fun ad_102 hel_102 => ?_))
            obtain ⟨eb_102, eo_102, rfl, hfld_102⟩ := hel_102.at (P := Try.prog)
            refine OT.pures hT 1 rfl (.index_at hT rfl rfl rfl rfl (by omega) (by omega) rfl (.load rfl rfl (by rw [Nat.add_assoc]; exact hfld_102 hT rfl (snap_at hwat)) rfl (.pures hT 3 rfl (.nil (.seq (.cond rfl (fun c108 => ?_) (fun c108 => ?_)))))))
            ·
              have c108 := bne_iff_ne.1 c108
              refine TT.draw (([(bx, blk [.iface ti ui, .int .i64 nx, (.slice a46 xs.length c46), (.map (some mb))] 100 (0, 0))] :: r)) mixed (.takes (fuel := 4) hT [0, 1, 2, 4, 5, 6, 7, 9] kr kr rfl (.take (fuel := 3) hT 3 rfl rfl kr kr kr rfl (.load rfl (Ld.one hT rfl hz rfl)) rfl ?_))
              refine AT.take (fuel := 2) hT 8 rfl rfl kr kr kr rfl (.load rfl (Ld.one hT rfl hz rfl)) rfl ?_
              refine AT.op (fuel := 1) 10 kr rfl sl ?_
              refine OT.callP Try.call50 rfl rfl rfl rfl (FunP.pull pl (cow_page hP hI4 (no := (n : Nat)) (by unfold mayPage; omega))) (fun _ _ h => by
                obtain ⟨e, H', rfl, h1, h2, rfl⟩ := h
                exact PP.of ⟨e, H', rfl, h1, h2, rfl⟩ sl) ?_
              rintro v_119 hs_119 ⟨H5, K5, rfl, ho5, hI5⟩
              refine OT.nil (.any (.op (fuel := 0) 11 kr rfl sl (.mapUpdate mapT rfl rfl rfl rfl pl hM2 (fun H_u ho_u => ?_))))
              refine OT.nil (.any (.done kr sl (.blk (.seq (.region (.pures hT 2 rfl (.nil (.loop (n + 1, updO cc2 at_ (Q (n : Nat)), (fun z => if z = at_ then some v_119 else m2 z), H_u, G2 ++ K5, H5) ?_ ?_ (SubR.cons rfl (SubR.cons rfl (SubR.cons rfl (SubR.cons rfl (SubR.cons rfl (SubR.cons rfl (SubR.cons rfl (SubR.cons' rfl (by (try dsimp only); exact (int_eq (by rw [wrap_i64 (by omega) (by omega)]; omega))) (SubR.nil _))))))))) sl))))))))
              · dsimp only
                refine ⟨by omega, ho_u, hc2.grow.put (Row.last ho5.row), hI5, ?_⟩
                rw [sideOf_succ, hwo, Snap.at_some hat, Snap.at_some hwat, if_pos ⟨g97, c108⟩, ← List.append_assoc, laySides_append, ← hwo, ← hcc2]
                rfl
              · dsimp only
                omega
            ·
              have c108 := bne_eq_false_iff_eq.1 c108
              refine TT.skip (.blk (.seq (.region (.pures hT 2 rfl (.nil (.loop (n + 1, cc2, m2, HM2, G2, H4) ?_ ?_ (SubR.cons rfl (SubR.cons rfl (SubR.cons rfl (SubR.cons rfl (SubR.cons rfl (SubR.cons rfl (SubR.cons rfl (SubR.cons' rfl (by (try dsimp only); exact (int_eq (by rw [wrap_i64 (by omega) (by omega)]; omega))) (SubR.nil _))))))))) sl))))))
              · dsimp only
                refine ⟨by omega, hM2, hc2, hI4, ?_⟩
                rw [sideOf_succ, hwo, Snap.at_some hat, Snap.at_some hwat, if_neg (fun h => h.2 c108), List.append_nil, ← hwo]
                exact hcc2
              · dsimp only
                omega
          ·
            have g97 := bne_eq_false_iff_eq.1 g97
            refine OT.pures hT 11 rfl (.nil (.seq (.cond_false rfl (.skip (.blk (.seq (.region (.pures hT 2 rfl (.nil (.loop (n + 1, cc2, m2, HM2, G2, H4) ?_ ?_ (SubR.cons rfl (SubR.cons rfl (SubR.cons rfl (SubR.cons rfl (SubR.cons rfl (SubR.cons rfl (SubR.cons rfl (SubR.cons' rfl (by (try dsimp only); exact (int_eq (by rw [wrap_i64 (by omega) (by omega)]; omega))) (SubR.nil _))))))))) sl))))))))))
            · dsimp only
              refine ⟨by omega, hM2, hc2, hI4, ?_⟩
              rw [sideOf_succ, hwo, Snap.at_some hat, Snap.at_some hwat, if_neg (fun h => h.1 g97), List.append_nil, ← hwo]
              exact hcc2
            · dsimp only
              omega
        ·
          have c92 := of_decide_eq_false c92
          refine TT.exit (.seq (.loop (.here (.blk (.seq (.region (.pures hT 2 rfl (.nil (.loop (k + 1, cc2, m2, HM2, G2, H4) ?_ ?_ (SubR.cons rfl (SubR.cons rfl (SubR.cons rfl (SubR.cons rfl (SubR.cons' rfl (by (try dsimp only); exact (int_eq (by rw [wrap_i64 (by omega) (by omega)]; omega))) (SubR.nil _)))))) sl)))))))))
          · dsimp only
            refine ⟨by omega, hM2, hc2, hI4, ?_⟩
            obtain rfl : n = 32 := by omega
            rw [sides_succ hs]
            exact hcc2
          · dsimp only
            omega
      ·
        have c82 := of_decide_eq_false c82
        obtain rfl : k = xs.length := by omega
        rw [List.take_of_length_le (by omega)] at hcc
        refine TT.exit (.seq (.loop (.here (.seq (.seq (.region (.pures hT 3 rfl (.load rfl rfl (Ld.struct hT rfl hz rfl rfl) rfl ?_))))))))
        refine OT.call Try.call12 rfl rfl rfl rfl (cat_Encode ro (by omega)) ?_
        rintro v_127 hs_127 ⟨wE, HE, rfl, rfl, hoE⟩
        have hee : (encode nx YS).2 = 0 := by unfold encode; rw [if_pos hmay]
        rw [hee]
        refine OT.pures hT 5 rfl (.nil (.seq (.seq (.region (.pures hT 3 rfl (.call Try.call49 rfl rfl rfl rfl (guard_Check) ?_))))))
        rintro v_133 hs_133 ⟨rfl, rfl⟩
        refine OT.nil (.seq (.seq (.draw ((HE :: [(bx, blk [.iface ti ui, .int .i64 nx, (.slice a46 xs.length c46), (.map (some mb))] 100 (0, 0))] :: r)) mixed (.takes (fuel := 5) hT [0, 2, 3, 4] kr kr rfl (.take (fuel := 4) hT 5 rfl rfl kr kr kr rfl (.load rfl (Ld.one hT rfl hz rfl)) rfl ?_)))))
        refine AT.conv (fuel := 3) 1 rfl kr kr kr hT rfl rfl rfl rfl rfl hoE.row rfl (.op (fuel := 2) 6 kr rfl sl ?_)
        refine OT.callP Try.call50 rfl rfl rfl rfl (FunP.pull pl (cow_page hP hI3 (no := 0) (by unfold mayPage; omega))) (fun _ _ h => by
          obtain ⟨e, H', rfl, h1, h2, rfl⟩ := h
          exact PP.of ⟨e, H', rfl, h1, h2, rfl⟩ sl) ?_
        rintro v_140 hs_140 ⟨H5, K5, rfl, ho5, hI5⟩
        refine OT.nil (.any (.op (fuel := 1) 7 kr rfl sl (.conv_bs (fun _ => rfl) hT rfl rfl rfl rfl rfl ro rfl ?_)))
        refine OT.nil (.any (.takes (fuel := 0) hT [8] kr kr rfl (.done kr sl (.seq (.cond rfl (fun c142 => ?_) (fun c142 => ?_))))))
        ·
          have c142 : (encode nx YS).1 ≠ Q 0 := fun e => by rw [e] at c142; simp at c142
          refine TT.region (.pures hT 3 rfl (.load rfl rfl (Ld.one hT rfl hz rfl) rfl ?_))
          refine OT.pures hT 1 rfl (.mapUpdate mapT rfl rfl rfl rfl pl hM1 (fun H_u ho_u => ?_))
          refine OT.nil (.ofP (rs := []) [] ([(bx, blk [.iface ti ui, .int .i64 nx, (.slice a46 xs.length c46), (.map (some mb))] 100 (0, 0))] :: HS1 :: H_u :: (G1 ++ HE) :: H5 :: r) rfl .nil sl ?_)
          try dsimp only [one]
          refine ⟨_, HS1, _, H_u, G1 ++ HE, H5, rfl, rfl, ho_u, ?_, hI5⟩
          unfold expandM sealCat
          rw [if_neg c142, ← hcc]
          exact hc1.grow.put (Row.last hoE.row)
        ·
          have c142 : (encode nx YS).1 = Q 0 := by simpa using c142
          refine TT.skip (.ofP (rs := []) [] ([(bx, blk [.iface ti ui, .int .i64 nx, (.slice a46 xs.length c46), (.map (some mb))] 100 (0, 0))] :: HS1 :: HM1 :: G1 :: H5 :: r) rfl .nil sl ?_)
          try dsimp only [one]
          refine ⟨_, HS1, m', HM1, G1, H5, rfl, rfl, hM1, ?_, hI5⟩
          unfold expandM sealCat
          rw [if_pos c142, ← hcc]
          exact hc1

end Go.Proofs.Ytnhkgchcdbideaa.Sx
end

section
namespace Go.Proofs.Ytnhkgchcdbideaa.Sx
open Go Go.Sx Go.Pl
variable [Outer]

omit [Outer] in
theorem ones_im {t : Im} (h : oneC t.v = true) : ones (encIm t) = true := by
  unfold ones encIm
  rw [List.all_cons, List.all_cons, h]
  rfl

set_option maxHeartbeats 1000000 in
set_option maxRecDepth 100000 in
theorem sl_CloneB {v : Value} {xs : List UInt8} {hs : List Chunk} (hr : Row Go.Sx.encB 1 hs v xs) (hl : xs.length ≤ 1073741824) : Fun Try.prog 69 [v] hs (fun v' hs' => ∃ H', hs' = H' :: hs ∧ Own Go.Sx.encB 1 5 v' xs H') := by
  refine Fun.enter 8 Try.func69 rfl Try.ntmps69 rfl ?_
  obtain ⟨a0, c0, hv⟩ := hr.len
  subst hv
  refine TT.seq (.region (.pures hT 1 rfl (.nil (.seq (.seq (.seq (.region (.pures hT 2 rfl (.nil (.seq (.cond rfl (fun c4 => ?_) (fun c4 => ?_))))))))))))
  ·
    have hx : xs = [] := by
      rcases hr.2 with ⟨_, h⟩ | ⟨b, o, cap, cs, t, fr, h, _⟩
      · exact h
      · injection h with h; rw [h] at c4; cases c4
    subst hx
    refine TT.seq (.region (.pures hT 1 rfl (.nil (.seq (.ret (.of (rs := [.tmp 2]) [_] ([] :: hs) rfl (.tmp rfl .nil) sl ?_))))))
    dsimp only [one]
    exact ⟨[], rfl, Own.nil⟩
  ·
    refine TT.skip (.seq (.seq (.region ?_)))
    refine OT.buildSlice (enc := Go.Sx.encB) (xs := ([] : List UInt8)) (xos := []) el22 rfl rfl rfl rfl rfl (by intro v hv; cases hv) (by intro v hv; cases hv) rfl (by decide) rfl (fun v_5 H_5 ho_5 => ?_)
    refine OT.pures hT 1 rfl ?_
    refine OT.append hT el22 rfl rfl rfl rfl pl ho_5 hr.there (ones_B xs) (by simp only [List.length_nil]; omega) rfl (fun v_7 H_7 ho_7 => ?_)
    refine OT.pures hT 1 rfl (.nil (.seq (.ret (.of (rs := [.tmp 2]) [_] (H_7 :: hs) rfl (.tmp rfl .nil) sl ?_))))
    dsimp only [one]
    exact ⟨_, rfl, ho_7⟩

set_option maxHeartbeats 2000000 in
set_option maxRecDepth 100000 in
theorem cow_images {bx mb ti : Nat} {ui : Value} {nx : Int} {vs : Value} {m : Int → Option Value} {c : Chg} {HM : Chunk} {r : List Chunk} (hM : IsMap m mb HM) (hc : MapRow r m c) (hlen : ∀ no b, c no = some b → b.length ≤ 1073741824) : Fun Try.prog 45 [.pointer (some ⟨bx, 0, none⟩)] ([(bx, blk [.iface ti ui, .int .i64 nx, vs, (.map (some mb))] 100 (0, 0))] :: HM :: r) (fun v' hs' => ∃ ts HI, hs' = HI :: [(bx, blk [.iface ti ui, .int .i64 nx, vs, (.map (some mb))] 100 (0, 0))] :: HM :: r ∧ OwnIms 66 5 v' ts HI ∧ imgs ts = imgsOf c 96) := by
  refine Fun.enter 29 Try.func45 rfl Try.ntmps45 rfl ?_
  refine TT.seq (.region (.pures hT 1 rfl (.nil (.seq (.seq (.region (.pures hT 1 rfl (.nil (.seq (.seq (.seq (.region (.pures hT 1 rfl (.nil (.seq (.block (.chunk0 (.chunk0 (.loop (ι := Nat × (List It) × Value × Chunk) (fun j => (j.1) ≤ 96 ∧ imgs ((j.2.1).map (·.1)) = imgsOf c (j.1) ∧ (∀ u ∈ (j.2.1), Own Go.Sx.encB 1 5 u.1.v u.1.b u.2) ∧ Own encIm 2 66 (j.2.2.1) ((j.2.1).map (·.1)) (j.2.2.2)) (fun j => 96 - (j.1)) (fun j => [(0, .pointer (some ⟨bx, 0, none⟩)), (3, (j.2.2.1)), (7, .int .i64 ((j.1) : Nat))]) (fun j => (j.2.2.2) :: itChunk (j.2.1) :: [(bx, blk [.iface ti ui, .int .i64 nx, vs, (.map (some mb))] 100 (0, 0))] :: HM :: r) (0, [], .slice none 0 0, []) ?_ (SubR.cons rfl (SubR.cons rfl (SubR.cons rfl (SubR.nil _)))) sl ?_)))))))))))))))))))
  · dsimp only
    exact ⟨by omega, rfl, (by intro u hu; cases hu), Own.nil⟩
  rintro ⟨i, us, w, K⟩ hI
  dsimp only at hI
  obtain ⟨hi, him, hus, hw⟩ := hI
  show TT _ _ _ [(0, .pointer (some ⟨bx, 0, none⟩)), (3, w), (7, .int .i64 (i : Nat))] (K :: itChunk us :: [(bx, blk [.iface ti ui, .int .i64 nx, vs, (.map (some mb))] 100 (0, 0))] :: HM :: r)
  have hul : us.length ≤ i := by
    have h1 := congrArg List.length him
    rw [imgs_length, List.length_map] at h1
    rw [h1]; exact imgsOf_len c i
  refine TT.seq (.region (.pures hT 1 rfl (.nil (.seq (.seq (.cond rfl (fun c8 => ?_) (fun c8 => ?_)))))))
  ·
    have c8 := of_decide_eq_true c8
    refine TT.skip (.seq (.seq (.block (.seq (.region (.pures hT 2 rfl (.nil (.seq (.seq (.region (.pures hT 3 rfl (.load rfl rfl (Ld.one hT rfl hz rfl) rfl ?_))))))))))))
    refine OT.pures hT 1 rfl (.lookup_ok mapT rfl rfl rfl pl hM rfl ?_)
    refine OT.pures hT 5 rfl (.nil (.seq (.seq (.region (.pures hT 1 rfl (.nil (.seq (.cond rfl (fun c19 => ?_) (fun c19 => ?_)))))))))
    ·
      rw [hc.is] at c19
      obtain ⟨bs, hci⟩ := Option.isSome_iff_exists.1 c19
      obtain ⟨v, hmi, hrow⟩ := hc.some _ _ hci
      have hbl := hlen _ _ hci
      have hgd : (m (i : Nat)).getD (.slice none 0 0) = v := by rw [hmi]; rfl
      refine TT.reg 5 rfl hgd (.region (.pures hT 3 rfl (.call Try.call69 rfl rfl rfl rfl (sl_CloneB ((hrow.there).there.there.there) hbl) ?_)))
      rintro v_23 hs_23 ⟨K23, rfl, ho23⟩
      obtain ⟨a23, c23, hv23⟩ := (ho23.row (hs := [])).len
      subst hv23
      refine OT.build (cs := [.int .i64 (i : Nat), .slice a23 bs.length c23]) hT rfl Try.zeroValue66 rfl rfl rfl rfl ?_
      refine OT.buildSlice (enc := encIm) (xs := [(⟨(i : Int), .slice a23 bs.length c23, bs⟩ : Im)]) (xos := [.tmp 24]) el37 rfl rfl rfl rfl rfl (by simp [Value.cells]) (fun _ _ => rfl) rfl (by decide) rfl (fun v_25 H_25 ho_25 => ?_)
      refine OT.append hT el37 rfl rfl rfl rfl pl hw ho_25.row rfl (by simp only [List.length_cons, List.length_nil, List.length_map]; omega) rfl (fun v_26 H_26 ho_26 => ?_)
      refine OT.pures hT 1 rfl (.nil (.blk (.seq (.region (.pures hT 2 rfl (.nil (.loop (i + 1, us ++ [(⟨(i : Int), .slice a23 bs.length c23, bs⟩, K23)], v_26, H_26) ?_ ?_ (SubR.cons rfl (SubR.cons rfl (SubR.cons' rfl (by (try dsimp only); exact (int_eq (by rw [wrap_i64 (by omega) (by omega)]; omega))) (SubR.nil _)))) (by rw [itChunk_snoc]; exact sl))))))))
      · dsimp only
        refine ⟨by omega, ?_, ?_, by rw [List.map_append]; exact ho_26⟩
        · rw [imgsOf_succ, List.map_append, imgs_append, him, hci]; rfl
        · intro u hu
          rcases List.mem_append.1 hu with hu | hu
          · exact hus u hu
          · rw [List.mem_singleton] at hu; subst hu; exact ho23
      · dsimp only
        omega
    ·
      refine TT.skip (.blk (.seq (.region (.pures hT 2 rfl (.nil (.loop (i + 1, us, w, K) ?_ ?_ (SubR.cons rfl (SubR.cons rfl (SubR.cons' rfl (by (try dsimp only); exact (int_eq (by rw [wrap_i64 (by omega) (by omega)]; omega))) (SubR.nil _)))) sl))))))
      · dsimp only
        refine ⟨by omega, ?_, hus, hw⟩
        rw [imgsOf_succ, him]
        rw [hc.is] at c19
        cases hci : c (i : Nat) with
        | none => rw [List.append_nil]
        | some b => rw [hci] at c19; cases c19
      · dsimp only
        omega
  ·
    have c8 := of_decide_eq_false c8
    obtain rfl : i = 96 := by omega
    refine TT.exit (.seq (.loop (.here (.seq (.seq (.region (.pures hT 2 rfl (.nil (.seq (.ret (.of (rs := [.tmp 2]) [_] ((K ++ itChunk us) :: [(bx, blk [.iface ti ui, .int .i64 nx, vs, (.map (some mb))] 100 (0, 0))] :: HM :: r) rfl (.tmp rfl .nil) sl ?_)))))))))))
    dsimp only [one]
    exact ⟨us.map Prod.fst, _, rfl, (⟨us, K, rfl, hus, hw, rfl⟩ : OwnIms _ _ w _ _), him⟩

set_option maxHeartbeats 4000000 in
set_option maxRecDepth 100000 in
theorem cow_Expand1 {bp bl bo : Nat} {vl : Value} {ti : Nat} {ui : Value} {I : Chunk → Prop} {E : Int → Chunk → Prop} {Q : Pages} {H : Chunk} {r : List Chunk} (hP : Pgs Try.prog 5 (.iface ti ui) I E (pgOf Q)) (hI : I H) (hQ : ∀ no, mayPage no → (Q no).length = 256) {n : Int} {xs : List Snap} (hdec : decodeS (Q 0) = ((n, xs), 0)) (hgc : GoodC n xs) {ts : List Im} (hi : ImsAt r vl ts) (hm : MayImgs (imgs ts)) {A : Chunk} : FunP Try.prog 42 [.pointer (some ⟨bp, 0, none⟩), .pointer (some ⟨bl, 0, none⟩), .pointer (some ⟨bo, 0, none⟩)] (A :: [(bp, blk [.iface ti ui] 94 (0, 0))] :: [(bl, blk [vl] 37 (0, 0))] :: [(bo, blk [.slice none 0 0] 37 (0, 0))] :: H :: r) (fun _ hs' => ∃ hs1, hs' = A :: hs1 ∧ ∃ v ts' HI H', hs1 = [(bp, blk [.iface ti ui] 94 (0, 0))] :: [(bl, blk [vl] 37 (0, 0))] :: [(bo, blk [v] 37 (0, 0))] :: HI :: H' :: r ∧ OwnIms 66 5 v ts' HI ∧ imgs ts' = expandC Q n xs (imgs ts) ∧ I H') (fun v' hs' => ∃ e hs1, hs' = A :: hs1 ∧ v' = flt e ∧ e ≠ 0 ∧ ∃ H', E e H' ∧ hs1 = [(bp, blk [.iface ti ui] 94 (0, 0))] :: [(bl, blk [vl] 37 (0, 0))] :: [(bo, blk [.slice none 0 0] 37 (0, 0))] :: H' :: r) := by
  refine FunP.enter 31 Try.func42 rfl Try.ntmps42 rfl ?_
  have h35 := decode_35 hdec
  have h32 : ∀ s ∈ xs, s.map.length = 32 := fun s hs => map32 (h35 s hs)
  obtain ⟨al, cl, hvl⟩ := hi.row.len
  subst hvl
  have hfew := hm.few
  rw [imgs_length] at hfew
  refine TT.cut (ι := Nat × Nat × Chunk × Value × Chunk × Chunk) (fun j => I (j.2.2.1) ∧ Own encSnap 35 45 (j.2.2.2.1) xs (j.2.2.2.2.1) ∧ IsMap (fun _ => none) (j.2.1) (j.2.2.2.2.2)) (fun j => [(0, .pointer (some ⟨bp, 0, none⟩)), (1, .pointer (some ⟨bl, 0, none⟩)), (2, .pointer (some ⟨bo, 0, none⟩)), (3, .pointer (some ⟨(j.1), 0, none⟩))]) (fun j => A :: [(bp, blk [.iface ti ui] 94 (0, 0))] :: [(bl, blk [.slice al ts.length cl] 37 (0, 0))] :: [(bo, blk [.slice none 0 0] 37 (0, 0))] :: [((j.1), blk [.iface ti ui, .int .i64 n, (j.2.2.2.1), (.map (some (j.2.1)))] 100 (0, 0))] :: (j.2.2.2.2.1) :: (j.2.2.2.2.2) :: (j.2.2.1) :: r) ?_ ?_
  ·
    refine TT.draw (([(bp, blk [.iface ti ui] 94 (0, 0))] :: [(bl, blk [.slice al ts.length cl] 37 (0, 0))] :: r)) mixed (.take (fuel := 6) hT 0 rfl rfl kr kr kr rfl (.load rfl (Ld.one hT rfl hz rfl)) rfl ?_)
    refine AT.take (fuel := 5) hT 1 rfl rfl kr kr kr rfl (.load rfl (Ld.one hT rfl hz rfl)) rfl ?_
    refine AT.all (fuel := 4) [2, 3] kr (by decide) sl ?_
    intro i hi
    simp only [List.mem_cons, List.not_mem_nil, or_false] at hi
    rcases hi with rfl | rfl
    ·
      refine ⟨_, rfl, ?_⟩
      refine OT.callP Try.call43 rfl rfl rfl rfl (FunP.pull pl (cow_read hP hI hdec (hQ 0 (by unfold mayPage; omega)))) (fun _ _ h => by
        obtain ⟨e, H', rfl, h1, h2, rfl⟩ := h
        exact PP.of ⟨e, _, rfl, rfl, h1, H', h2, rfl⟩ sl) ?_
      rintro v_8 hs_8 ⟨H1, v1, HS, rfl, rfl, hoS, hI1⟩
      obtain ⟨a1, c1, hv1⟩ := (hoS.row (hs := [])).len
      subst hv1
      refine OT.nil (.any (.op (fuel := 3) 3 kr rfl sl (.makeMap rfl rfl (fun b_9 H_9 ho_9 => ?_))))
      refine OT.nil (.any (.op (fuel := 2) 4 kr rfl sl (.build (cs := [.iface ti ui, .int .i64 n, .slice a1 xs.length c1, .map (some b_9)]) hT rfl Try.zeroValue100 rfl rfl rfl rfl (.nil (.any (.op (fuel := 1) 5 kr rfl sl (.box rfl rfl rfl (fun b_11 => ?_))))))))
      refine OT.nil (.any (.takes (fuel := 0) hT [6] kr kr rfl (.done kr sl (.cut (b_11, b_9, H1, _, HS, H_9) ?_ (SubR.cons rfl (SubR.cons rfl (SubR.cons rfl (SubR.cons rfl (SubR.nil _))))) sl))))
      · dsimp only
        exact ⟨hI1, hoS, ho_9⟩
    ·
      refine ⟨_, rfl, ?_⟩
      refine OT.makeMap rfl rfl (fun b_9 H_9 ho_9 => ?_)
      refine OT.nil (.any (.op (fuel := 3) 2 kr rfl sl ?_))
      refine OT.callP Try.call43 rfl rfl rfl rfl (FunP.pull pl (cow_read hP hI hdec (hQ 0 (by unfold mayPage; omega)))) (fun _ _ h => by
        obtain ⟨e, H', rfl, h1, h2, rfl⟩ := h
        exact PP.of ⟨e, _, rfl, rfl, h1, H', h2, rfl⟩ sl) ?_
      rintro v_8 hs_8 ⟨H1, v1, HS, rfl, rfl, hoS, hI1⟩
      obtain ⟨a1, c1, hv1⟩ := (hoS.row (hs := [])).len
      subst hv1
      refine OT.nil (.any (.op (fuel := 2) 4 kr rfl sl (.build (cs := [.iface ti ui, .int .i64 n, .slice a1 xs.length c1, .map (some b_9)]) hT rfl Try.zeroValue100 rfl rfl rfl rfl (.nil (.any (.op (fuel := 1) 5 kr rfl sl (.box rfl rfl rfl (fun b_11 => ?_))))))))
      refine OT.nil (.any (.takes (fuel := 0) hT [6] kr kr rfl (.done kr sl (.cut (b_11, b_9, H1, _, HS, H_9) ?_ (SubR.cons rfl (SubR.cons rfl (SubR.cons rfl (SubR.cons rfl (SubR.nil _))))) sl))))
      · dsimp only
        exact ⟨hI1, hoS, ho_9⟩
  ·
    rintro ⟨bx, mb, H1, v1, HS, HM⟩ hI
    dsimp only at hI
    obtain ⟨hI1, hoS, hM⟩ := hI
    show TT _ _ _ [(0, .pointer (some ⟨bp, 0, none⟩)), (1, .pointer (some ⟨bl, 0, none⟩)), (2, .pointer (some ⟨bo, 0, none⟩)), (3, .pointer (some ⟨bx, 0, none⟩))] (A :: [(bp, blk [.iface ti ui] 94 (0, 0))] :: [(bl, blk [.slice al ts.length cl] 37 (0, 0))] :: [(bo, blk [.slice none 0 0] 37 (0, 0))] :: [(bx, blk [.iface ti ui, .int .i64 n, v1, (.map (some mb))] 100 (0, 0))] :: HS :: HM :: H1 :: r)
    refine TT.seq (.seq (.region (.load rfl rfl (Ld.slc hT rfl hz rfl) rfl ?_)))
    refine OT.pures hT 2 rfl (.nil (.seq (.block (.loop (ι := Nat × (Int → Option Value) × Chunk) (fun j => (j.1) ≤ ts.length ∧ IsMap (j.2.1) mb (j.2.2) ∧ MapRow r (j.2.1) (chgOf ((imgs ts).take (j.1)))) (fun j => ts.length - (j.1)) (fun j => [(2, .pointer (some ⟨bo, 0, none⟩)), (3, .pointer (some ⟨bx, 0, none⟩)), (12, .slice al ts.length cl), (13, .int .i64 ts.length), (14, .int .i64 ((j.1) : Nat))]) (fun j => (j.2.2) :: A :: [(bp, blk [.iface ti ui] 94 (0, 0))] :: [(bl, blk [.slice al ts.length cl] 37 (0, 0))] :: [(bo, blk [.slice none 0 0] 37 (0, 0))] :: [(bx, blk [.iface ti ui, .int .i64 n, v1, (.map (some mb))] 100 (0, 0))] :: HS :: H1 :: r) (0, (fun _ => none), HM) ?_ (SubR.cons rfl (SubR.cons rfl (SubR.cons rfl (SubR.cons rfl (SubR.cons rfl (SubR.nil _)))))) sl ?_))))
    · dsimp only
      exact ⟨by omega, hM, MapRow.empty _⟩
    rintro ⟨i, m, HM1⟩ hI
    dsimp only at hI
    obtain ⟨hii, hM1, hc1⟩ := hI
    show TT _ _ _ [(2, .pointer (some ⟨bo, 0, none⟩)), (3, .pointer (some ⟨bx, 0, none⟩)), (12, .slice al ts.length cl), (13, .int .i64 ts.length), (14, .int .i64 (i : Nat))] (HM1 :: A :: [(bp, blk [.iface ti ui] 94 (0, 0))] :: [(bl, blk [.slice al ts.length cl] 37 (0, 0))] :: [(bo, blk [.slice none 0 0] 37 (0, 0))] :: [(bx, blk [.iface ti ui, .int .i64 n, v1, (.map (some mb))] 100 (0, 0))] :: HS :: H1 :: r)
    refine TT.seq (.region (.pures hT 1 rfl (.nil (.seq (.seq (.cond rfl (fun c15 => ?_) (fun c15 => ?_)))))))
    ·
      have c15 := of_decide_eq_true c15
      obtain ⟨t, ht⟩ := nth (l := ts) (i := i) (by omega)
      refine TT.skip (.seq (.seq (.block (.seq (.region (.index hT rfl rfl rfl rfl (hi.row.mono fun b o hb => Has.sel sl hb) (by omega) ht rfl (fun ad_16 hel_16 => ?_)))))))
      refine OT.load rfl rfl (hel_16.ld_struct hT rfl) rfl (.alloc Try.zeroValue66 rfl rfl (fun b_5 => ?_))
      refine OT.store_all hT rfl rfl rfl rfl pl rfl rfl (ones_im (oneC_slice (hi.each t (List.mem_of_getElem? ht)))) (.inl (Nat.le_refl _)) ?_
      refine OT.nil (.seq (.draw (([(bx, blk [.iface ti ui, .int .i64 n, v1, (.map (some mb))] 100 (0, 0))] :: [(b_5, blk (encIm t) 66 (0, 0))] :: r)) mixed (.takes (fuel := 4) hT [0, 1, 2, 4, 6] kr kr rfl (.take (fuel := 3) hT 3 rfl rfl kr kr kr rfl (.load rfl (Ld.one hT rfl hz rfl)) rfl ?_))))
      refine AT.take (fuel := 2) hT 5 rfl rfl kr kr kr rfl (.load rfl (Ld.one hT rfl hz rfl)) rfl ?_
      refine AT.take (fuel := 1) hT 7 rfl rfl kr kr kr rfl (.load rfl (Ld.slc hT rfl hz rfl)) rfl ?_
      refine AT.op (fuel := 0) 8 kr rfl sl (.mapUpdate mapT rfl rfl rfl rfl pl hM1 (fun H_u ho_u => ?_))
      refine OT.nil (.any (.done kr sl (.blk (.seq (.region (.pures hT 2 rfl (.nil (.loop (i + 1, (fun z => if z = t.no then some t.v else m z), H_u) ?_ ?_ (SubR.cons rfl (SubR.cons rfl (SubR.cons rfl (SubR.cons rfl (SubR.cons' rfl (by (try dsimp only); exact (int_eq (by rw [wrap_i64 (by omega) (by omega)]; omega))) (SubR.nil _)))))) sl))))))))
      · dsimp only
        refine ⟨by omega, ho_u, ?_⟩
        have e : chgOf ((imgs ts).take (i + 1)) = updO (chgOf ((imgs ts).take i)) t.no t.b := by rw [take_succ (imgs_at ht)]; unfold chgOf; rw [List.foldl_append]; rfl
        rw [e]
        exact hc1.put (hi.each t (List.mem_of_getElem? ht))
      · dsimp only
        omega
    ·
      have c15 := of_decide_eq_false c15
      obtain rfl : i = ts.length := by omega
      rw [List.take_of_length_le (by rw [imgs_length]; omega)] at hc1
      refine TT.exit (.seq (.loop (.here (.seq (.seq (.region (.pures hT 1 rfl ?_)))))))
      refine OT.callP Try.call44 rfl rfl rfl rfl (FunP.weaken (sl (hs' := [(bx, blk [.iface ti ui, .int .i64 n, v1, (.map (some mb))] 100 (0, 0))] :: HS :: HM1 :: [] :: H1 :: A :: [(bp, blk [.iface ti ui] 94 (0, 0))] :: [(bl, blk [.slice al ts.length cl] 37 (0, 0))] :: [(bo, blk [.slice none 0 0] 37 (0, 0))] :: r)) (cow_expand (but := 0) (r := A :: [(bp, blk [.iface ti ui] 94 (0, 0))] :: [(bl, blk [.slice al ts.length cl] 37 (0, 0))] :: [(bo, blk [.slice none 0 0] 37 (0, 0))] :: r) hP hI1 hQ hdec (Nat.le_trans hgc.few (by decide)) hoS (Nat.le_trans hgc.few (by decide)) hgc.sides hM1 (hc1.mono fun b o hb => Has.sel sl hb) (expandS_found hgc h32 (nosOf_nodup _) (fun s hs => hs)) (may_iff.2 (expandS_good hgc h32 (nosOf_nodup _)).1))) (fun _ _ h => by
        obtain ⟨e, H', rfl, h1, h2, rfl⟩ := h
        exact PP.of ⟨e, _, rfl, rfl, h1, H', h2, rfl⟩ sl) ?_
      rintro v_28 hs_28 ⟨v2, HS2, m2, HM2, G2, H2, rfl, rfl, hM2, hc2, hI2⟩
      refine OT.nil (.seq (.region (.pures hT 1 rfl (.call Try.call45 rfl rfl rfl rfl (Fun.weaken (sl (hs' := [(bx, blk [.iface ti ui, .int .i64 n, v2, (.map (some mb))] 100 (0, 0))] :: HM2 :: G2 :: A :: [(bp, blk [.iface ti ui] 94 (0, 0))] :: [(bl, blk [.slice al ts.length cl] 37 (0, 0))] :: [(bo, blk [.slice none 0 0] 37 (0, 0))] :: HS2 :: H2 :: r)) (cow_images hM2 (hc2.mono fun b o hb => Has.sel sl hb) (fun no b e => by have hg := expandS_good (Q := Q) (but := 0) hgc h32 (nosOf_nodup (chgOf (imgs ts))); have := expandM_len (was := xs) hQ (fun s hs => len35.2 (hg.2.len32 h32 s hs)) (may_iff.2 hg.1) (chgOf_len hm) no b e; omega))) ?_))))
      rintro v_30 hs_30 ⟨ts2, HI, rfl, hoI, hti⟩
      obtain ⟨_, _, _, _, hoK, _⟩ := hoI.is
      obtain ⟨a30, c30, hv30⟩ := (hoK.row (hs := [])).len
      subst hv30
      refine OT.store hT rfl rfl rfl rfl pl rfl (Nat.le_of_ble_eq_true rfl) rfl (.inl (Nat.le_refl _)) rfl ?_
      refine OT.nil (.ofP (rs := []) [] (A :: [(bp, blk [.iface ti ui] 94 (0, 0))] :: [(bl, blk [.slice al ts.length cl] 37 (0, 0))] :: [(bo, blk [.slice a30 ts2.length c30] 37 (0, 0))] :: HI :: H2 :: r) rfl .nil sl ?_)
      try dsimp only [one]
      exact ⟨_, rfl, _, ts2, HI, H2, rfl, hoI, hti, hI2⟩

end Go.Proofs.Ytnhkgchcdbideaa.Sx
end
