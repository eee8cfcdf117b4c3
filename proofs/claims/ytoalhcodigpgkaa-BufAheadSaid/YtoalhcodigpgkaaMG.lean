/- Several texts in one. slices.Sort of whole numbers, in the words of the small logic: the shelf's contract is turned. The pool: what is dirty; no pool. Printed by a program of ours off the loaded program and our notes; Lean checks it. The first page; no pool; whose bytes are whose. Printed by a program of ours off the loaded program and our notes; Lean checks it. BufAhead: it answers true. Printed by a program of ours off the loaded program and our notes; Lean checks it. -/
import Derived.Test.YtoalhcodigpgkaaMA
import Derived.Test.YtoalhcodigpgkaaShelf
import Derived.Sort.Grow
import Derived.Test.YtoalhcodigpgkaaMC
import Derived.Test.YtoalhcodigpgkaaME
import Derived.Test.YtoalhcodigpgkaaMF
import Derived.Test.YtoalhcodigpgkaaMB
import Derived.Test.YtoalhcodigpgkaaMD

section
namespace Go.Sx
open Go Go.Sort
variable [Outer]

omit [Outer] in
theorem putCells_row (pre sp : List Value) (xs ys : List Int) (h : ys.length = xs.length) :
    putCells (Value.int .i64) pre.length ys.toArray ⟨pre ++ xs.map (Value.int .i64) ++ sp⟩ = ⟨pre ++ ys.map (Value.int .i64) ++ sp⟩ := by
  apply Array.ext_getElem?
  intro k
  unfold putCells
  rw [Array.getElem?_mapIdx]
  rw [List.getElem?_toArray, List.getElem?_toArray]
  rw [List.append_assoc, List.append_assoc]
  by_cases h1 : k < pre.length
  · rw [List.getElem?_append_left h1, List.getElem?_append_left h1]
    cases pre[k]? with
    | none => rfl
    | some v => rw [Option.map_some, if_neg (by omega)]
  · have key : ∀ zs : List Int, (pre ++ (zs.map (Value.int .i64) ++ sp))[k]? = if k < pre.length + zs.length then (zs[k - pre.length]?).map (Value.int .i64) else sp[k - pre.length - zs.length]? := by
      intro zs
      rw [List.getElem?_append_right (by omega)]
      by_cases h2 : k < pre.length + zs.length
      · rw [if_pos h2, List.getElem?_append_left (by rw [List.length_map]; omega), List.getElem?_map]
      · rw [if_neg h2, List.getElem?_append_right (by rw [List.length_map]; omega), List.length_map]
    rw [key xs, key ys, h]
    by_cases h2 : k < pre.length + xs.length
    · rw [if_pos h2, if_pos h2, List.getElem?_eq_getElem (by omega : k - pre.length < xs.length), List.getElem?_eq_getElem (by omega : k - pre.length < ys.length)]
      rw [Option.map_some, Option.map_some, Option.map_some, if_pos ⟨by omega, by rw [List.size_toArray]; omega⟩]
      rw [getElem!_pos ys.toArray (k - pre.length) (by rw [List.size_toArray]; omega)]
      rfl
    · rw [if_neg h2, if_neg h2]
      cases sp[k - pre.length - xs.length]? with
      | none => rfl
      | some v => rw [Option.map_some, if_neg (by rw [List.size_toArray]; omega)]

theorem Mem.putRow {w w' : World} {b : Nat} {pre sp : List Value} {xs ys : List Int} {e : Nat} {fr : Nat × Nat} {r : List Chunk} {n : Nat} {os : Array Obj}
    (hm : Mem ([(b, blk (pre ++ xs.map (Value.int .i64) ++ sp) e fr)] :: r) w) (hl : ys.length = xs.length)
    (hw : w' = grow (Go.Sort.putRow (Value.int .i64) (Go.Sort.ahead w n) b pre.length ys.toArray) os) : Mem ([(b, blk (pre ++ ys.map (Value.int .i64) ++ sp) e fr)] :: r) w' := by
  have hb := hm.heap (b := b) Has.one
  have hn := hm.nodup
  simp only [List.flatten_cons, List.singleton_append, List.map_cons, List.nodup_cons] at hn
  have hsz : (Go.Sort.putRow (Value.int .i64) (Go.Sort.ahead w n) b pre.length ys.toArray).heap.size = w.heap.size := by
    unfold Go.Sort.putRow mapBlock Go.Sort.ahead
    simp
  refine ⟨?_, ?_, by rw [hw]; exact hm.outer⟩
  · simp only [List.flatten_cons, List.singleton_append, List.map_cons, List.nodup_cons]
    exact hn
  · intro c oc hc
    simp only [List.flatten_cons, List.singleton_append, List.mem_cons, Prod.mk.injEq] at hc
    have hold : w.heap[c]? ≠ none → w'.heap[c]? = (if b = c then w.heap[c]?.map (onCells (putCells (Value.int .i64) pre.length ys.toArray)) else w.heap[c]?) := by
      intro h
      have hlt : c < w.heap.size := by
        rw [Ne, Array.getElem?_eq_none_iff] at h; omega
      rw [hw, heap_grow_old _ _ (by rw [hsz]; exact hlt)]
      unfold Go.Sort.putRow mapBlock Go.Sort.ahead
      exact Array.getElem?_modify ..
    rcases hc with ⟨rfl, rfl⟩ | hc
    · rw [hold (by rw [hb]; intro h; cases h), if_pos rfl, hb, Option.map_some]
      unfold onCells blk
      simp only [putCells_row pre sp xs ys hl]
    · have hne : b ≠ c := by
        intro e
        subst e
        exact hn.1 (List.mem_map.2 ⟨(b, oc), hc, rfl⟩)
      have ho := hm.has c oc (by simp [hc])
      rw [hold (by rw [ho]; intro h; cases h), if_neg hne, ho]

theorem Mem.holds {w : World} {b : Nat} {pre sp : List Value} {xs : List Int} {e : Nat} {fr : Nat × Nat} {r : List Chunk}
    (hm : Mem ([(b, blk (pre ++ xs.map (Value.int .i64) ++ sp) e fr)] :: r) w) (ht : thawed (pre ++ xs.map (Value.int .i64) ++ sp) fr) : Holds (Value.int .i64) w b pre.length xs.toArray := by
  intro j hj
  rw [List.size_toArray] at hj
  have hb := hm.heap (b := b) Has.one
  constructor
  · rw [hm.cell (b := b) Has.one (pre.length + j)]
    rw [List.append_assoc, List.getElem?_append_right (by omega), List.getElem?_append_left (by rw [List.length_map]; omega), List.getElem?_map]
    rw [show pre.length + j - pre.length = j by omega, List.getElem?_eq_getElem hj, Option.map_some, getElem!_pos xs.toArray j (by rw [List.size_toArray]; omega)]
    rfl
  · simp only [World.frozen?, hb]
    rcases ht with ht | ht
    · simp; omega
    · simp only [List.length_append, List.length_map] at ht
      simp; omega

theorem sorted_of {P : Program} {f : Nat} {v : Value} {xs : List Int} {H : Chunk} {r : List Chunk} {e : Nat} (ho : Own encI 1 e v xs H) (hl : xs.length ≤ 1073741824)
    (h0 : ∀ (p : Option Addr) (cap : Nat) (w : World), Calls P f #[.slice p 0 cap] w fun e w' => e = .returned (.tuple #[]) ∧ w' = w)
    (h1 : ∀ (b off cap : Nat) (zs : List Int) (w : World), Holds (Value.int .i64) w b off zs.toArray → b < w.heap.size → zs.length < 4611686018427387904 →
      Calls P f #[.slice (some ⟨b, off, none⟩) zs.length cap] w fun e w' => e = .returned (.tuple #[]) ∧ ∃ n os, w' = grow (Go.Sort.putRow (Value.int .i64) (Go.Sort.ahead w n) b off (zs.mergeSort fun x y => decide (x ≤ y)).toArray) os) :
    Fun P f [v] (H :: r) fun v' hs' => v' = .tuple #[] ∧ ∃ H', hs' = H' :: r ∧ Own encI 1 e v (xs.mergeSort fun x y => decide (x ≤ y)) H' := by
  obtain ⟨h1x, ⟨rfl, rfl, rfl⟩ | ⟨b, cap, pre, sp, fr, rfl, rfl, hc, hs, ht⟩⟩ := ho
  · intro w hm
    refine (h0 none 0 w).mono ?_
    rintro e' w' ⟨rfl, rfl⟩
    exact ⟨_, _, rfl, ⟨rfl, [], rfl, by simp; exact Own.nil⟩, hm⟩
  · intro w hm
    have em : ∀ l : List Int, l.flatMap encI = l.map (Value.int .i64) := by
      intro l
      induction l with
      | nil => rfl
      | cons x l ih => simpa using ih
    rw [em] at hm ht
    have hb := hm.heap (b := b) Has.one
    have hlen : (xs.mergeSort fun x y => decide (x ≤ y)).length = xs.length := List.length_mergeSort _
    refine (h1 b pre.length cap xs w (hm.holds ht) (Array.getElem?_eq_some_iff.1 hb).1 (by omega)).mono ?_
    rintro e' w' ⟨rfl, n, os, hw⟩
    refine ⟨_, _, rfl, ⟨rfl, _, rfl, ?_⟩, hm.putRow hlen hw⟩
    refine ⟨fun _ _ => rfl, .inr ⟨b, cap, pre, sp, fr, by rw [hlen], by rw [em], by rw [hlen]; exact hc, by rw [hlen]; exact hs, ?_⟩⟩
    rw [em]
    unfold thawed at ht ⊢
    simp only [List.length_append, List.length_map] at ht ⊢
    rw [hlen]
    exact ht
end Go.Sx
end

section
namespace Go.Proofs.Ytoalhcodigpgkaa.Sx
open Go Go.Sx Go.Pl
variable [Outer]

theorem sl_Sort {v : Value} {xs : List Int} {H : Chunk} {r : List Chunk} (ho : Own Go.Sx.encI 1 3 v xs H) (hl : xs.length ≤ 1073741824) :
    Fun Try.prog 39 [v] (H :: r) (fun v' hs' => v' = .tuple #[] ∧ ∃ H', hs' = H' :: r ∧ Own Go.Sx.encI 1 3 v (xs.mergeSort fun x y => decide (x ≤ y)) H') :=
  sorted_of ho hl Try.slices_Sort_int_none (fun b off cap zs w h1 h2 h3 => Try.slices_Sort_int b off cap zs w h1 h2 h3)

set_option maxHeartbeats 2000000 in
set_option maxRecDepth 100000 in
theorem buf_Dirty {p pd pw : Value} {fs : List Fr} {H : Chunk} {r : List Chunk} (hp : IsPool 5 79 75 76 p pd pw fs H) : Fun Try.prog 18 [p] (H :: r) (fun v' hs' => ∃ H', hs' = H' :: H :: r ∧ Own Go.Sx.encI 1 3 v' (poolDirty fs) H') := by
  refine Fun.enter 32 Try.func18 rfl Try.ntmps18 rfl ?_
  obtain ⟨b, v, ts, Kl, hpp, hfe, hP, hH⟩ := hp.is
  subst hpp
  subst hH
  subst hfe
  have hfl := frs_length ts
  have hplen := ptrs_length ts
  obtain ⟨av, cv, hv⟩ := (hP.own.row (hs := r)).len
  subst hv
  refine TT.perm perm3 ?_
  have hfew := hP.few
  refine TT.seq (.region (.pures hT 1 rfl (.nil (.seq (.seq (.seq (.region (.pures hT 2 rfl (.nil (.seq (.cond_false rfl (.skip (.seq (.seq (.region (.pures hT 1 rfl (.nil (.seq (.seq (.seq (.region (.pures hT 3 rfl (.load rfl rfl (Ld.slc hT rfl hz rfl) rfl ?_)))))))))))))))))))))))
  refine OT.pures hT 2 rfl (.nil (.seq (.block (.chunk0 (.loop (ι := Nat × Value × Chunk) (fun j => (j.1) ≤ ts.length ∧ Own Go.Sx.encI 1 3 (j.2.1) (dirties ((frs ts).take (j.1))) (j.2.2)) (fun j => ts.length - (j.1)) (fun j => [(0, .pointer (some ⟨b, 0, none⟩)), (3, (j.2.1)), (11, .slice av (ptrs ts).length cv), (12, .int .i64 (ptrs ts).length), (13, .int .i64 ((j.1) : Nat))]) (fun j => (j.2.2) :: [(b, blk [pd, pw, (.slice av (ptrs ts).length cv)] 75 (0, 0))] :: Kl :: chunk ts :: r) (0, .slice none 0 0, []) ?_ (SubR.cons rfl (SubR.cons rfl (SubR.cons rfl (SubR.cons rfl (SubR.cons rfl (SubR.nil _)))))) sl ?_)))))
  · dsimp only
    exact ⟨by omega, Own.nil⟩
  rintro ⟨i, w, W⟩ hI
  dsimp only at hI
  obtain ⟨hi, hW⟩ := hI
  show TT _ _ _ [(0, .pointer (some ⟨b, 0, none⟩)), (3, w), (11, .slice av (ptrs ts).length cv), (12, .int .i64 (ptrs ts).length), (13, .int .i64 (i : Nat))] (W :: [(b, blk [pd, pw, (.slice av (ptrs ts).length cv)] 75 (0, 0))] :: Kl :: chunk ts :: r)
  have hdl : (dirties ((frs ts).take i)).length ≤ i := by unfold dirties; rw [List.length_map]; exact Nat.le_trans (List.length_filter_le _ _) (List.length_take_le _ _)
  refine TT.seq (.region (.pures hT 1 rfl (.nil (.seq (.seq (.cond rfl (fun c14 => ?_) (fun c14 => ?_)))))))
  ·
    have c14 := of_decide_eq_true c14
    obtain ⟨t, ht⟩ := nth (l := ts) (i := i) (by omega)
    have hpt := ptrs_at ht
    have hft := frs_at ht
    obtain ⟨bf, vb, Kb, hq1, hq2, hq3, hq4, hq5⟩ := chunk_has hP.all (List.mem_of_getElem? ht)
    refine TT.skip (.seq (.seq (.block (.seq (.region (.index hT rfl rfl rfl rfl (hP.own.row.there.there) (by omega) hpt rfl (fun ad_15 hel_15 => ?_)))))))
    refine OT.load rfl rfl (hel_15.ld_one hT rfl rfl) rfl (.reg 16 rfl (v := .pointer (some ⟨bf, 0, none⟩)) hq1 (.pures hT 1 rfl (.nil (.seq (.seq (.region (.pures hT 3 rfl (.load rfl rfl (Ld.one hT rfl (.there (.there (.there (.here hq5)))) rfl) rfl (.nil (.seq (.cond rfl (fun c20 => ?_) (fun c20 => ?_))))))))))))
    ·
      have hds : dirties ((frs ts).take (i + 1)) = dirties ((frs ts).take i) ++ [t.2.1.no] := by unfold dirties; rw [take_succ hft, List.filter_append, List.map_append]; simp [show t.2.1.dirty = true from c20]
      refine TT.region (.pures hT 4 rfl (.load rfl rfl (Ld.one hT rfl (.there (.there (.there (.here hq5)))) rfl) rfl ?_))
      refine OT.buildSlice (enc := Go.Sx.encI) (xs := [t.2.1.no]) (xos := [.tmp 25]) el46 rfl rfl rfl rfl rfl (by simp [Value.cells]) (fun _ _ => rfl) rfl (by decide) rfl (fun v_26 H_26 ho_26 => ?_)
      refine OT.append hT el46 rfl rfl rfl rfl pl hW ro rfl (by simp only [List.length_cons, List.length_nil]; omega) rfl (fun v_27 H_27 ho_27 => ?_)
      refine OT.pures hT 1 rfl (.nil (.blk (.seq (.region (.pures hT 2 rfl (.nil (.loop (i + 1, v_27, H_27) ?_ ?_ (SubR.cons rfl (SubR.cons rfl (SubR.cons rfl (SubR.cons rfl (SubR.cons' rfl (by (try dsimp only); exact (int_eq (by rw [wrap_i64 (by omega) (by omega)]; omega))) (SubR.nil _)))))) sl)))))))
      · dsimp only
        exact ⟨by omega, by rw [hds]; exact ho_27⟩
      · dsimp only
        omega
    ·
      have hds : dirties ((frs ts).take (i + 1)) = dirties ((frs ts).take i) := by unfold dirties; rw [take_succ hft, List.filter_append, List.map_append]; simp [show t.2.1.dirty = false from c20]
      refine TT.skip (.blk (.seq (.region (.pures hT 2 rfl (.nil (.loop (i + 1, w, W) ?_ ?_ (SubR.cons rfl (SubR.cons rfl (SubR.cons rfl (SubR.cons rfl (SubR.cons' rfl (by (try dsimp only); exact (int_eq (by rw [wrap_i64 (by omega) (by omega)]; omega))) (SubR.nil _)))))) sl))))))
      · dsimp only
        exact ⟨by omega, by rw [hds]; exact hW⟩
      · dsimp only
        omega
  ·
    have c14 := of_decide_eq_false c14
    obtain rfl : i = ts.length := by omega
    rw [show (frs ts).take ts.length = frs ts by rw [← hfl, List.take_length]] at hW hdl
    refine TT.exit (.seq (.loop (.here (.seq (.seq (.region (.pures hT 1 rfl (.call Try.call39 rfl rfl rfl rfl (sl_Sort hW (by omega)) ?_))))))))
    rintro v_30 hs_30 ⟨rfl, H2, rfl, ho2⟩
    refine OT.nil (.seq (.seq (.region (.pures hT 2 rfl (.nil (.seq (.ret (.of (rs := [.tmp 2]) [_] (H2 :: ([(b, blk [pd, pw, (.slice av (ptrs ts).length cv)] 75 (0, 0))] ++ (Kl ++ chunk ts)) :: r) rfl (.tmp rfl .nil) sl ?_))))))))
    dsimp only [one]
    exact ⟨_, rfl, ho2⟩

set_option maxHeartbeats 1000000 in
set_option maxRecDepth 100000 in
theorem buf_Page0 {no : Int} {r : List Chunk} : Fun Try.prog 14 [.pointer none, .int .i64 no] r (fun v' hs' => v' = .tuple ⟨[.slice none 0 0, .int .i64 5]⟩ ∧ r = hs') := by
  refine Fun.enter 72 Try.func14 rfl Try.ntmps14 rfl ?_
  refine TT.seq (.region (.pures hT 2 rfl (.nil (.seq (.seq (.seq (.region (.pures hT 2 rfl (.call Try.call30 rfl rfl rfl rfl (buf_may0) ?_)))))))))
  rintro v_13 hs_13 ⟨rfl, rfl⟩
  refine OT.pures hT 1 rfl (.nil (.seq (.seq (.region (.pures hT 2 rfl (.nil (.seq (.cond rfl (fun c15 => ?_) (fun c15 => ?_)))))))))
  ·
    refine TT.seq (.region (.pures hT 3 rfl (.nil (.seq (.ret (.of (rs := [.tmp 4, .tmp 5]) [_, _] r rfl (.tmp rfl (.tmp rfl .nil)) sl ?_))))))
    dsimp only [one]
    exact ⟨rfl, rfl⟩
  ·
    exact absurd c15 (by decide)

set_option maxHeartbeats 1000000 in
set_option maxRecDepth 100000 in
theorem buf_Put0 {no : Int} {vb : Value} {lsn : Int} {r : List Chunk} : Fun Try.prog 13 [.pointer none, .int .i64 no, vb, .int .i64 lsn] r (fun v' hs' => v' = .int .i64 5 ∧ r = hs') := by
  refine Fun.enter 57 Try.func13 rfl Try.ntmps13 rfl ?_
  refine TT.seq (.region (.pures hT 1 rfl (.nil (.seq (.seq (.seq (.region (.pures hT 2 rfl (.call Try.call30 rfl rfl rfl rfl (buf_may0) ?_)))))))))
  rintro v_13 hs_13 ⟨rfl, rfl⟩
  refine OT.pures hT 1 rfl (.nil (.seq (.seq (.region (.pures hT 2 rfl (.nil (.seq (.cond rfl (fun c15 => ?_) (fun c15 => ?_)))))))))
  ·
    refine TT.seq (.region (.pures hT 2 rfl (.nil (.seq (.ret (.of (rs := [.tmp 8]) [_] r rfl (.tmp rfl .nil) sl ?_))))))
    dsimp only [one]
    exact ⟨rfl, rfl⟩
  ·
    exact absurd c15 (by decide)

set_option maxHeartbeats 1000000 in
set_option maxRecDepth 100000 in
theorem buf_Flush0 {no : Int} {r : List Chunk} : Fun Try.prog 16 [.pointer none, .int .i64 no] r (fun v' hs' => v' = .int .i64 5 ∧ r = hs') := by
  refine Fun.enter 31 Try.func16 rfl Try.ntmps16 rfl ?_
  refine TT.seq (.region (.box rfl rfl rfl (fun b_3 => ?_)))
  refine OT.pures hT 1 rfl (.nil (.seq (.seq (.seq (.region (.pures hT 1 rfl (.load rfl rfl (Ld.one hT rfl hz rfl) rfl ?_)))))))
  refine OT.call Try.call30 rfl rfl rfl rfl (buf_may0) ?_
  rintro v_9 hs_9 ⟨rfl, rfl⟩
  refine OT.pures hT 1 rfl (.nil (.seq (.seq (.region (.pures hT 2 rfl (.nil (.seq (.cond rfl (fun c11 => ?_) (fun c11 => ?_)))))))))
  ·
    refine TT.seq (.region (.pures hT 2 rfl (.nil (.seq (.ret (.of (rs := [.tmp 4]) [_] r rfl (.tmp rfl .nil) sl ?_))))))
    dsimp only [one]
    exact ⟨rfl, rfl⟩
  ·
    exact absurd c11 (by decide)

set_option maxHeartbeats 1000000 in
set_option maxRecDepth 100000 in
theorem buf_All0 {r : List Chunk} : Fun Try.prog 17 [.pointer none] r (fun v' hs' => v' = .int .i64 5 ∧ r = hs') := by
  refine Fun.enter 29 Try.func17 rfl Try.ntmps17 rfl ?_
  refine TT.seq (.region (.pures hT 1 rfl (.nil (.seq (.seq (.seq (.region (.pures hT 2 rfl (.nil (.seq (.cond_true rfl (.seq (.region (.pures hT 1 rfl (.nil (.seq (.ret (.of (rs := [.tmp 2]) [_] r rfl (.tmp rfl .nil) sl ?_))))))))))))))))))
  dsimp only [one]
  exact ⟨rfl, rfl⟩

set_option maxHeartbeats 1000000 in
set_option maxRecDepth 100000 in
theorem buf_Dirty0 {r : List Chunk} : Fun Try.prog 18 [.pointer none] r (fun v' hs' => v' = .slice none 0 0 ∧ r = hs') := by
  refine Fun.enter 32 Try.func18 rfl Try.ntmps18 rfl ?_
  refine TT.seq (.region (.pures hT 1 rfl (.nil (.seq (.seq (.seq (.region (.pures hT 2 rfl (.nil (.seq (.cond_true rfl (.seq (.region (.pures hT 1 rfl (.nil (.seq (.ret (.of (rs := [.tmp 2]) [_] r rfl (.tmp rfl .nil) sl ?_))))))))))))))))))
  dsimp only [one]
  exact ⟨rfl, rfl⟩

set_option maxHeartbeats 1000000 in
set_option maxRecDepth 100000 in
theorem buf_Held0 {r : List Chunk} : Fun Try.prog 20 [.pointer none] r (fun v' hs' => v' = .int .i64 0 ∧ r = hs') := by
  refine Fun.enter 10 Try.func20 rfl Try.ntmps20 rfl ?_
  refine TT.seq (.region (.pures hT 1 rfl (.nil (.seq (.seq (.seq (.region (.pures hT 2 rfl (.nil (.seq (.cond_true rfl (.seq (.region (.pures hT 1 rfl (.nil (.seq (.ret (.of (rs := [.tmp 2]) [_] r rfl (.tmp rfl .nil) sl ?_))))))))))))))))))
  dsimp only [one]
  exact ⟨rfl, rfl⟩

end Go.Proofs.Ytoalhcodigpgkaa.Sx
end

section
namespace Go.Proofs.Ytoalhcodigpgkaa.Sx
open Go Go.Sx Go.Pl
variable [Outer]

set_option maxHeartbeats 8000000 in
set_option maxRecDepth 100000 in
theorem law18_begun {hs : List Chunk} : Fun Try.prog 8 [] hs (fun v' hs' => v' = .bool true ∧ hs = hs') := by
  refine Fun.enter 115 Try.func8 rfl Try.ntmps8 rfl ?_
  obtain ⟨l0, d1, l1, l2, d2, hm, ha, hput, hpage, hread, hflush, hread2, hforced, he0, ht1, ht2, hput96⟩ := begun_facts
  refine TT.seq (.region (.pures hT 1 rfl (.nil (.seq (.seq (.region (.call Try.call9 rfl rfl rfl rfl (dev_New (n := 1410)) ?_)))))))
  rintro v_16 hs_16 ⟨HD, rfl, hd⟩
  obtain ⟨bd, hpd⟩ := hd.ptr
  subst hpd
  refine OT.pures hT 1 rfl (.nil (.seq (.seq (.region (.pures hT 1 rfl (.call Try.call10 rfl rfl rfl rfl (wal_Make hd) ?_))))))
  rintro v_19 hs_19 ⟨q, HL, HD1, rfl, rfl, hopt, hd1⟩
  rw [hm] at hopt hd1 ⊢
  have hl : IsLog 5 2 98 72 q (.pointer (some ⟨bd, 0, none⟩)) l0 HL := hopt
  obtain ⟨bl, hql⟩ := hl.ptr
  subst hql
  refine OT.pures hT 5 rfl (.nil (.seq (.seq (.region (.pures hT 2 rfl (.call Try.call11 rfl rfl rfl rfl (buf_New) ?_))))))
  rintro v_24 hs_24 ⟨HP, rfl, hp⟩
  obtain ⟨bp, _, _, _, hpp, _⟩ := hp.is
  subst hpp
  refine OT.pures hT 1 rfl (.nil (.seq (.seq (.seq (.region (.pures hT 3 rfl (.pures hT 3 rfl (.nil (.seq (.cond_false rfl (.skip (.seq (.seq (.region (.pures hT 1 rfl (.buildSlice_raw (enc := Go.Sx.encB) (xs := ([120] : List UInt8)) (xos := [.const (.int .u8 (120))]) el31 rfl rfl rfl rfl rfl (by simp [Value.cells]) (fun _ _ => rfl) rfl (by decide) rfl (fun b_33 => ?_)))))))))))))))))
  refine OT.conv_same hT rfl rfl rfl rfl pl rfl ?_
  have ho34 : Own Go.Sx.encB 1 5 (.slice (some ⟨b_33, 0, none⟩) 1 1) [120] [(b_33, blk (([120] : List UInt8).flatMap Go.Sx.encB) 5 ((([120] : List UInt8).flatMap Go.Sx.encB).length, (([120] : List UInt8).flatMap Go.Sx.encB).length + 1))] := Own.marked (e := 5) (fun _ _ => rfl) rfl
  refine OT.call Try.call15 rfl rfl rfl rfl (Fun.pull (A := HL) pl (wal_Append hl ho34.row (by decide) (by rw [he0]; decide))) ?_
  rintro v_35 hs_35 ⟨HL1, rfl, rfl, hl1⟩
  rw [ha] at hl1 ⊢
  refine OT.pures hT 5 rfl (.nil (.seq (.seq (.region (.pures hT 1 rfl (.buildSlice_raw (enc := Go.Sx.encB) (xs := ([97] : List UInt8)) (xos := [.const (.int .u8 (97))]) el31 rfl rfl rfl rfl rfl (by simp [Value.cells]) (fun _ _ => rfl) rfl (by decide) rfl (fun b_39 => ?_)))))))
  refine OT.conv_same hT rfl rfl rfl rfl pl rfl ?_
  have ho40 : Own Go.Sx.encB 1 5 (.slice (some ⟨b_39, 0, none⟩) 1 1) [97] [(b_39, blk (([97] : List UInt8).flatMap Go.Sx.encB) 5 ((([97] : List UInt8).flatMap Go.Sx.encB).length, (([97] : List UInt8).flatMap Go.Sx.encB).length + 1))] := Own.marked (e := 5) (fun _ _ => rfl) rfl
  refine OT.call Try.call12 rfl rfl rfl rfl (law9_Of ho40.row (by decide)) ?_
  rintro v_41 hs_41 ⟨HB, rfl, hoB⟩
  refine OT.pures hT 1 rfl (.call Try.call13 rfl rfl rfl rfl (Fun.weaken (hs' := HP :: HL1 :: HD1 :: HB :: hs) sl (buf_Put hp hl1 hd1 (by simp only [List.length_nil]; omega) (by simp) hoB.row (by rw [pageOf_length (by decide)]; decide))) ?_)
  rintro v_43 hs_43 ⟨HP1, HL2, HD2, rfl, rfl, hp1, hl2, hd2⟩
  rw [hput] at hp1 hl2 hd2 ⊢
  refine OT.pures hT 1 rfl (.nil (.seq (.seq (.region (.pures hT 1 rfl (.call Try.call14 rfl rfl rfl rfl (buf_Page hp1 hl2 hd2 (by simp only [List.length_cons, List.length_nil]; omega) (by simp)) ?_))))))
  rintro v_46 hs_46 ⟨w8, HW, HP2, HL3, HD3, rfl, rfl, hoW, hp2, hl3, hd3⟩
  rw [hpage] at hoW hp2 hl3 hd3 ⊢
  dsimp only at hoW hp2 hl3 hd3 ⊢
  obtain ⟨a8, c8, hv8⟩ := (hoW.row (hs := hs)).len
  subst hv8
  refine OT.pures hT 5 rfl (.nil (.seq (.seq (.region (.pures hT 1 rfl (.call Try.call24 rfl rfl rfl rfl (Fun.pull (A := HD3) pl (page_Read hd3)) ?_))))))
  rintro v_51 hs_51 ⟨w10, HC, rfl, rfl, hoC⟩
  rw [hread] at hoC ⊢
  dsimp only at hoC ⊢
  obtain ⟨a10, c10, hv10⟩ := (hoC.row (hs := hs)).len
  subst hv10
  refine OT.pures hT 5 rfl (.nil (.seq (.seq (.region (.pures hT 1 rfl (.call Try.call18 rfl rfl rfl rfl (Fun.pull (A := HP2) pl (buf_Dirty hp2)) ?_))))))
  rintro v_55 hs_55 ⟨HI, rfl, hoI⟩
  rw [dirty_one] at hoI
  obtain ⟨a12, c12, hv12⟩ := (hoI.row (hs := hs)).len
  subst hv12
  refine OT.pures hT 2 rfl (.nil (.seq (.seq (.region (.pures hT 1 rfl (.call Try.call16 rfl rfl rfl rfl (Fun.weaken (hs' := HP2 :: HL3 :: HD3 :: HW :: HC :: HI :: hs) sl (buf_Flush hp2 hl3 hd3 (by simp only [List.length_cons, List.length_nil]; omega) (by simp))) ?_))))))
  rintro v_58 hs_58 ⟨HP3, HL4, HD4, rfl, rfl, hp3, hl4, hd4⟩
  rw [hflush] at hp3 hl4 hd4 ⊢
  dsimp only at hp3 hl4 hd4 ⊢
  refine OT.pures hT 1 rfl (.nil (.seq (.seq (.region (.pures hT 1 rfl (.call Try.call21 rfl rfl rfl rfl (Fun.pull (A := HD4) pl (dev_Crash hd4 (ks := []) Row.nil)) ?_))))))
  rintro v_61 hs_61 ⟨HX, rfl, hdx⟩
  obtain ⟨bx, hpx⟩ := hdx.ptr
  subst hpx
  refine OT.call Try.call24 rfl rfl rfl rfl (page_Read hdx) ?_
  rintro v_62 hs_62 ⟨w14, HH, rfl, rfl, hoH⟩
  rw [hread2] at hoH ⊢
  dsimp only at hoH ⊢
  obtain ⟨a14, c14, hv14⟩ := (hoH.row (hs := hs)).len
  subst hv14
  refine OT.pures hT 5 rfl (.nil (.seq (.seq (.region (.pures hT 3 rfl (.split 67 rfl (fun g67 => ?_) (fun g67 => ?_)))))))
  ·
    refine OT.pures hT 4 rfl (.split 71 rfl (fun g71 => ?_) (fun g71 => ?_))
    ·
      refine OT.pures hT 1 rfl (.index hT rfl rfl rfl rfl ro (by omega) (show (pageOf [97])[0]? = some 97 from rfl) rfl (fun ad_73 hel_73 => ?_))
      refine OT.load rfl rfl (hel_73.ld_one hT rfl rfl) rfl (.pures hT 3 rfl (.split 77 rfl (fun g77 => ?_) (fun g77 => ?_)))
      ·
        refine OT.pures hT 1 rfl (.index hT rfl rfl rfl rfl ro (by omega) (show (noughts 256)[0]? = some 0 from rfl) rfl (fun ad_79 hel_79 => ?_))
        refine OT.load rfl rfl (hel_79.ld_one hT rfl rfl) rfl (.pures hT 3 rfl (.split 83 rfl (fun g83 => ?_) (fun g83 => ?_)))
        ·
          refine OT.pures hT 4 rfl (.split 87 rfl (fun g87 => ?_) (fun g87 => ?_))
          ·
            refine OT.pures hT 4 rfl (.split 91 rfl (fun g91 => ?_) (fun g91 => ?_))
            ·
              refine OT.pures hT 1 rfl (.index hT rfl rfl rfl rfl ro (by omega) (show (pageOf [97])[0]? = some 97 from rfl) rfl (fun ad_93 hel_93 => ?_))
              refine OT.load rfl rfl (hel_93.ld_one hT rfl rfl) rfl (.pures hT 3 rfl (.split 97 rfl (fun g97 => ?_) (fun g97 => ?_)))
              ·
                refine OT.pures hT 1 rfl (.call Try.call18 rfl rfl rfl rfl (Fun.pull (A := HP3) pl (buf_Dirty hp3)) ?_)
                rintro v_99 hs_99 ⟨HJ, rfl, hoJ⟩
                rw [dirty_none] at hoJ
                obtain ⟨a99, c99, hv99⟩ := (hoJ.row (hs := hs)).len
                subst hv99
                refine OT.pures hT 4 rfl (.split 103 rfl (fun g103 => ?_) (fun g103 => ?_))
                ·
                  refine OT.pures hT 1 rfl (.call Try.call25 rfl rfl rfl rfl (Fun.pull (A := HL4) pl (wal_Forced hl4)) ?_)
                  rintro v_105 hs_105 ⟨rfl, rfl⟩
                  rw [hforced]
                  refine OT.pures hT 4 rfl (.split 109 rfl (fun g109 => ?_) (fun g109 => ?_))
                  ·
                    refine OT.pures hT 2 rfl (.call Try.call13 rfl rfl rfl rfl (Fun.weaken (hs' := HP3 :: HL4 :: HD4 :: HH :: hs) sl (buf_Put hp3 hl4 hd4 (by simp only [List.length_cons, List.length_nil]; omega) (by simp) hoH.row (by rw [pageOf_length (by decide)]; decide))) ?_)
                    rintro v_112 hs_112 ⟨HP5, HL5, HD5, rfl, rfl, hp5, hl5, hd5⟩
                    rw [hput96] at hp5 hl5 hd5 ⊢
                    dsimp only at hp5 hl5 hd5 ⊢
                    refine OT.pures hT 3 rfl (.nil (.seq (.ret (.of (rs := [.tmp 0]) [_] hs rfl (.tmp rfl .nil) sl ?_))))
                    dsimp only [one]
                    exact ⟨rfl, rfl⟩
                  ·
                    exact absurd g109 (by decide)
                ·
                  exact absurd g103 (by decide)
              ·
                exact absurd g97 (by decide)
            ·
              exact absurd g91 (by decide)
          ·
            exact absurd g87 (by decide)
        ·
          exact absurd g83 (by decide)
      ·
        exact absurd g77 (by decide)
    ·
      exact absurd g71 (by decide)
  ·
    exact absurd g67 (by decide)

set_option maxHeartbeats 2000000 in
set_option maxRecDepth 100000 in
theorem law_BufNone {hs : List Chunk} : Fun Try.prog 5 [] hs (fun v' hs' => v' = .bool true ∧ hs = hs') := by
  refine Fun.enter 41 Try.func5 rfl Try.ntmps5 rfl ?_
  refine TT.seq (.region (.pures hT 1 rfl (.nil (.seq (.seq (.region (.pures hT 1 rfl (.nil (.seq (.seq (.region (.pures hT 1 rfl (.call Try.call14 rfl rfl rfl rfl (buf_Page0) ?_)))))))))))))
  rintro v_6 hs_6 ⟨rfl, rfl⟩
  refine OT.pures hT 5 rfl (.nil (.seq (.seq (.region (.call Try.call8 rfl rfl rfl rfl (law18_begun) ?_)))))
  rintro v_9 hs_9 ⟨rfl, rfl⟩
  refine OT.pures hT 1 rfl (.split 10 rfl (fun g10 => ?_) (fun g10 => ?_))
  ·
    refine OT.pures hT 4 rfl (.split 14 rfl (fun g14 => ?_) (fun g14 => ?_))
    ·
      refine OT.pures hT 1 rfl ?_
      refine OT.make (enc := Go.Sx.encB) (z0 := (0 : UInt8)) (n := 256) el31 Try.zeroValue5 rfl rfl rfl rfl rfl (by decide) rfl (fun v_16 H_16 ho_16 => ?_)
      refine OT.call Try.call13 rfl rfl rfl rfl (buf_Put0) ?_
      rintro v_17 hs_17 ⟨rfl, rfl⟩
      refine OT.pures hT 3 rfl (.split 20 rfl (fun g20 => ?_) (fun g20 => ?_))
      ·
        refine OT.pures hT 1 rfl (.call Try.call16 rfl rfl rfl rfl (buf_Flush0) ?_)
        rintro v_22 hs_22 ⟨rfl, rfl⟩
        refine OT.pures hT 3 rfl (.split 25 rfl (fun g25 => ?_) (fun g25 => ?_))
        ·
          refine OT.pures hT 1 rfl (.call Try.call17 rfl rfl rfl rfl (buf_All0) ?_)
          rintro v_27 hs_27 ⟨rfl, rfl⟩
          refine OT.pures hT 3 rfl (.split 30 rfl (fun g30 => ?_) (fun g30 => ?_))
          ·
            refine OT.pures hT 1 rfl (.call Try.call18 rfl rfl rfl rfl (buf_Dirty0) ?_)
            rintro v_32 hs_32 ⟨rfl, rfl⟩
            refine OT.pures hT 4 rfl (.split 36 rfl (fun g36 => ?_) (fun g36 => ?_))
            ·
              refine OT.pures hT 1 rfl (.call Try.call20 rfl rfl rfl rfl (buf_Held0) ?_)
              rintro v_38 hs_38 ⟨rfl, rfl⟩
              refine OT.pures hT 3 rfl (.nil (.seq (.ret (.of (rs := [.tmp 0]) [_] hs rfl (.tmp rfl .nil) sl ?_))))
              dsimp only [one]
              exact ⟨rfl, rfl⟩
            ·
              exact absurd g36 (by decide)
          ·
            exact absurd g30 (by decide)
        ·
          exact absurd g25 (by decide)
      ·
        exact absurd g20 (by decide)
    ·
      exact absurd g14 (by decide)
  ·
    exact absurd g10 (by decide)

set_option maxHeartbeats 4000000 in
set_option maxRecDepth 100000 in
theorem law_BufOwn {x : UInt8} {hs : List Chunk} : Fun Try.prog 3 [.int .u8 x.toNat] hs (fun v' hs' => v' = .bool true ∧ hs = hs') := by
  refine Fun.enter 66 Try.func3 rfl Try.ntmps3 rfl ?_
  obtain ⟨l0, d1, hm, ht1, hput, hpage, hput255⟩ := own_facts x
  refine TT.seq (.region (.pures hT 1 rfl (.nil (.seq (.seq (.region (.call Try.call8 rfl rfl rfl rfl (law18_begun) ?_)))))))
  rintro v_13 hs_13 ⟨rfl, rfl⟩
  refine OT.pures hT 1 rfl (.nil (.seq (.seq (.seq (.region (.pures hT 2 rfl (.nil (.seq (.cond_false rfl (.skip (.seq (.seq (.region (.call Try.call9 rfl rfl rfl rfl (dev_New (n := 1410)) ?_))))))))))))))
  rintro v_16 hs_16 ⟨HD, rfl, hd⟩
  obtain ⟨bd, hpd⟩ := hd.ptr
  subst hpd
  refine OT.pures hT 1 rfl (.nil (.seq (.seq (.region (.pures hT 1 rfl (.call Try.call10 rfl rfl rfl rfl (wal_Make hd) ?_))))))
  rintro v_19 hs_19 ⟨q, HL, HD1, rfl, rfl, hopt, hd1⟩
  rw [hm] at hopt hd1 ⊢
  have hl : IsLog 5 2 98 72 q (.pointer (some ⟨bd, 0, none⟩)) l0 HL := hopt
  obtain ⟨bl, hql⟩ := hl.ptr
  subst hql
  refine OT.pures hT 5 rfl (.nil (.seq (.seq (.region (.pures hT 2 rfl (.call Try.call11 rfl rfl rfl rfl (buf_New) ?_))))))
  rintro v_24 hs_24 ⟨HP, rfl, hp⟩
  obtain ⟨bp, _, _, _, hpp, _⟩ := hp.is
  subst hpp
  refine OT.pures hT 1 rfl (.nil (.seq (.seq (.region (.pures hT 1 rfl ?_)))))
  refine OT.buildSlice (enc := Go.Sx.encB) (xs := [x]) (xos := [.tmp 25]) el31 rfl rfl rfl rfl rfl (by simp [Value.cells]) (fun _ _ => rfl) rfl (by decide) rfl (fun v_26 H_26 ho_26 => ?_)
  refine OT.call Try.call12 rfl rfl rfl rfl (law9_Of ho_26.row (by simp)) ?_
  rintro v_27 hs_27 ⟨HB, rfl, hoB⟩
  obtain ⟨eb, eo, ec, _, _, hvb, _⟩ := hoB.over (by rw [pageOf_length (by simp)]; decide)
  subst hvb
  have hbl : (pageOf [x]).length = 256 := pageOf_length (by simp)
  have hb0 : (pageOf [x])[0]? = some x := rfl
  refine OT.pures hT 1 rfl (.nil (.seq (.seq (.region (.pures hT 2 rfl (.call Try.call13 rfl rfl rfl rfl (Fun.weaken (hs' := HP :: HL :: HD1 :: HB :: hs) sl (buf_Put hp hl hd1 (by simp only [List.length_nil]; omega) (by simp) hoB.row (by omega))) ?_))))))
  rintro v_30 hs_30 ⟨HP1, HL2, HD2, rfl, rfl, hp1, hl2, hd2⟩
  rw [hput] at hp1 hl2 hd2 ⊢
  dsimp only at hp1 hl2 hd2 ⊢
  refine OT.nil (.seq (.seq (.region (.pures hT 1 rfl (.index_raw hT rfl rfl rfl rfl (by decide) (by omega) rfl (.load rfl rfl ((hoB.el_at (hs := hs) hb0).there.there.there.ld_one hT rfl rfl) rfl (.pures hT 1 rfl (.index_raw hT rfl rfl rfl rfl (by decide) (by omega) rfl (.reg 34 rfl (v := .int .u8 ((UInt8.ofNat (x.toNat + 1)).toNat : Int)) (int_eq (byte_of (x.toNat + 1))) (.store_el 0 0 hT rfl rfl rfl rfl pl hoB hb0 (by rfl) rfl (by decide) rfl (z' := UInt8.ofNat (x.toNat + 1)) (by rfl) (fun H_y ho_y => ?_)))))))))))
  refine OT.nil (.seq (.seq (.region (.pures hT 1 rfl (.call Try.call14 rfl rfl rfl rfl (Fun.weaken (hs' := HP1 :: HL2 :: HD2 :: hs) sl (buf_Page hp1 hl2 hd2 (by simp only [List.length_cons, List.length_nil]; omega) (by simp))) ?_)))))
  rintro v_38 hs_38 ⟨w9, HW, HP2, HL3, HD3, rfl, rfl, hoW, hp2, hl3, hd3⟩
  rw [hpage] at hoW hp2 hl3 hd3 ⊢
  dsimp only at hoW hp2 hl3 hd3 ⊢
  obtain ⟨fb, fo, fc, _, _, hvw, _⟩ := hoW.over (by omega)
  subst hvw
  refine OT.pures hT 5 rfl (.nil (.seq (.seq (.region (.pures hT 1 rfl (.index_raw hT rfl rfl rfl rfl (by decide) (by omega) rfl (.load rfl rfl ((hoW.el_at (hs := HP2 :: HL3 :: HD3 :: hs) hb0).ld_one hT rfl rfl) rfl (.pures hT 1 rfl (.index_raw hT rfl rfl rfl rfl (by decide) (by omega) rfl (.reg 44 rfl (v := .int .u8 ((UInt8.ofNat (x.toNat + 2)).toNat : Int)) (int_eq (byte_of (x.toNat + 2))) (.store_el 0 0 hT rfl rfl rfl rfl pl hoW hb0 (by rfl) rfl (by decide) rfl (z' := UInt8.ofNat (x.toNat + 2)) (by rfl) (fun H_z ho_z => ?_))))))))))))
  refine OT.nil (.seq (.seq (.region (.pures hT 1 rfl (.call Try.call14 rfl rfl rfl rfl (Fun.weaken (hs' := HP2 :: HL3 :: HD3 :: hs) sl (buf_Page hp2 hl3 hd3 (by simp only [List.length_cons, List.length_nil]; omega) (by simp))) ?_)))))
  rintro v_48 hs_48 ⟨w11, HV, HP3, HL4, HD4, rfl, rfl, hoV, hp3, hl4, hd4⟩
  rw [hpage] at hoV hp3 hl4 hd4 ⊢
  dsimp only at hoV hp3 hl4 hd4 ⊢
  obtain ⟨a11, c11, hv11⟩ := (hoV.row (hs := hs)).len
  subst hv11
  refine OT.pures hT 5 rfl (.nil (.seq (.seq (.region (.pures hT 3 rfl (.split 53 rfl (fun g53 => ?_) (fun g53 => ?_)))))))
  ·
    refine OT.pures hT 1 rfl (.index hT rfl rfl rfl rfl ro (by omega) hb0 rfl (fun ad_55 hel_55 => ?_))
    refine OT.load rfl rfl (hel_55.ld_one hT rfl rfl) rfl (.pures hT 4 rfl (.split 60 rfl (fun g60 => ?_) (fun g60 => ?_)))
    ·
      refine OT.pures hT 1 rfl ?_
      refine OT.make (enc := Go.Sx.encB) (z0 := (0 : UInt8)) (n := 255) el31 Try.zeroValue5 rfl rfl rfl rfl rfl (by decide) rfl (fun v_62 H_62 ho_62 => ?_)
      refine OT.call Try.call13 rfl rfl rfl rfl (Fun.weaken (hs' := HP3 :: HL4 :: HD4 :: H_62 :: hs) sl (buf_Put hp3 hl4 hd4 (by simp only [List.length_cons, List.length_nil]; omega) (by simp) ho_62.row (by simp))) ?_
      rintro v_63 hs_63 ⟨HP5, HL5, HD5, rfl, rfl, hp5, hl5, hd5⟩
      rw [hput255 _ (by simp)] at hp5 hl5 hd5 ⊢
      dsimp only at hp5 hl5 hd5 ⊢
      refine OT.pures hT 3 rfl (.nil (.seq (.ret (.of (rs := [.tmp 2]) [_] hs rfl (.tmp rfl .nil) sl ?_))))
      dsimp only [one]
      exact ⟨rfl, rfl⟩
    ·
      exact absurd g60 (by simp)
  ·
    exact absurd g53 (by simp)

end Go.Proofs.Ytoalhcodigpgkaa.Sx
end

section
namespace Go.Proofs.Ytoalhcodigpgkaa.Sx
open Go Go.Sx Go.Pl
variable [Outer]

set_option maxHeartbeats 16000000 in
set_option maxRecDepth 100000 in
theorem law_BufAhead {v0 v2 : Value} {ns : List Int} {x1 : Int} {ks : List Bool} {hs : List Chunk} (hy : Row Go.Sx.encI 1 hs v0 ns) (hyl : ns.length ≤ 9223372036854775807) (hyr : ∀ n ∈ ns, -9223372036854775808 ≤ n ∧ n ≤ 9223372036854775807) (hx1 : x1 ≤ 9223372036854775807) (hk : Row Go.Sx.encBool 1 hs v2 ks) : Fun Try.prog 7 [v0, .int .i64 x1, v2] hs (fun v' hs' => v' = .bool true ∧ hs = hs') := by
  refine Fun.enter 146 Try.func7 rfl Try.ntmps7 rfl ?_
  obtain ⟨a0, c0, hv0⟩ := hy.len
  subst hv0
  obtain ⟨l0, d1, hm, hinv0, ht0, he0⟩ := hinv_zero hx1
  refine TT.seq (.region (.pures hT 1 rfl (.nil (.seq (.seq (.region (.call Try.call8 rfl rfl rfl rfl (law18_begun) ?_)))))))
  rintro v_23 hs_23 ⟨rfl, rfl⟩
  refine OT.pures hT 1 rfl (.nil (.seq (.seq (.seq (.region (.pures hT 2 rfl (.nil (.seq (.cond_false rfl (.skip (.seq (.seq (.seq (.region (.pures hT 3 rfl (.split 28 rfl (fun g28 => ?_) (fun g28 => ?_)))))))))))))))))
  ·
    refine OT.pures hT 3 rfl (.nil (.seq (.cond_true rfl (.seq (.region (.pures hT 1 rfl (.nil (.seq (.ret (.of (rs := [.tmp 6]) [_] hs rfl (.tmp rfl .nil) sl ?_))))))))))
    dsimp only [one]
    exact ⟨rfl, rfl⟩
  ·
    refine OT.pures hT 3 rfl (.nil (.seq (.cond rfl (fun c31 => ?_) (fun c31 => ?_))))
    ·
      refine TT.seq (.region (.pures hT 1 rfl (.nil (.seq (.ret (.of (rs := [.tmp 6]) [_] hs rfl (.tmp rfl .nil) sl ?_))))))
      dsimp only [one]
      exact ⟨rfl, rfl⟩
    ·
      refine TT.skip (.seq (.seq (.region (.call Try.call9 rfl rfl rfl rfl (dev_New (n := 1410)) ?_))))
      rintro v_32 hs_32 ⟨HD, rfl, hd⟩
      obtain ⟨bd, hpd⟩ := hd.ptr
      subst hpd
      refine OT.pures hT 1 rfl (.nil (.seq (.seq (.region (.pures hT 1 rfl (.call Try.call10 rfl rfl rfl rfl (wal_Make hd) ?_))))))
      rintro v_35 hs_35 ⟨q, HL, HD1, rfl, rfl, hopt, hd1⟩
      rw [hm] at hopt hd1 ⊢
      have hl : IsLog 5 2 98 72 q (.pointer (some ⟨bd, 0, none⟩)) l0 HL := hopt
      obtain ⟨bl, hql⟩ := hl.ptr
      subst hql
      refine OT.pures hT 5 rfl (.nil (.seq (.seq (.region (.pures hT 2 rfl (.call Try.call11 rfl rfl rfl rfl (buf_New) ?_))))))
      rintro v_40 hs_40 ⟨HP, rfl, hp⟩
      obtain ⟨bp, _, _, _, hpp, _⟩ := hp.is
      subst hpp
      refine OT.pures hT 1 rfl (.nil (.seq (.seq (.region (.pures hT 2 rfl (.call Try.call22 rfl rfl rfl rfl (Fun.pull pl (dev_Fuse hd1 hx1)) ?_))))))
      rintro v_43 hs_43 ⟨HD2, rfl, rfl, hd2⟩
      refine OT.nil (.seq (.seq (.region (.pures hT 1 rfl (.nil (.seq (.cut (ι := Dev × Chunk × Nat × Value × (List Nat) × Chunk) (fun j => HEnd (j.2.2.1) (j.1) ∧ IsDev 89 65 (.pointer (some ⟨bd, 0, none⟩)) (j.1) (j.2.1) ∧ Own encN 1 2 (j.2.2.2.1) (j.2.2.2.2.1) (j.2.2.2.2.2) ∧ (j.2.2.2.2.1).length = (j.2.2.1) ∧ (j.2.2.1) ≤ 20) (fun j => [(2, v2), (8, .pointer (some ⟨bd, 0, none⟩)), (12, (j.2.2.2.1))]) (fun j => (j.2.1) :: (j.2.2.2.2.2) :: hs) ?_ ?_)))))))
      ·
        refine TT.seq (.region (.pures hT 1 rfl (.nil (.seq (.block (.chunk0 (.loop (ι := Nat × Nat × (Int → List UInt8) × (List Fr) × Log × Dev × Chunk × Chunk × Chunk × Chunk × Value × (List Nat)) (fun j => (j.1) ≤ 20 ∧ (j.1) ≤ ns.length ∧ (j.2.1) ≤ 2 * (j.1) ∧ HInv (j.1) (j.2.1) (j.2.2.1) (j.2.2.2.1) (j.2.2.2.2.1) (j.2.2.2.2.2.1) ∧ IsPool 5 79 75 76 (.pointer (some ⟨bp, 0, none⟩)) (.pointer (some ⟨bd, 0, none⟩)) (.pointer (some ⟨bl, 0, none⟩)) (j.2.2.2.1) (j.2.2.2.2.2.2.1) ∧ IsLog 5 2 98 72 (.pointer (some ⟨bl, 0, none⟩)) (.pointer (some ⟨bd, 0, none⟩)) (j.2.2.2.2.1) (j.2.2.2.2.2.2.2.1) ∧ IsDev 89 65 (.pointer (some ⟨bd, 0, none⟩)) (j.2.2.2.2.2.1) (j.2.2.2.2.2.2.2.2.1) ∧ Own encN 1 2 (j.2.2.2.2.2.2.2.2.2.2.1) (j.2.2.2.2.2.2.2.2.2.2.2) (j.2.2.2.2.2.2.2.2.2.1) ∧ (j.2.2.2.2.2.2.2.2.2.2.2).length = (j.1)) (fun j => ns.length - (j.1)) (fun j => [(0, .slice a0 ns.length c0), (2, v2), (8, .pointer (some ⟨bd, 0, none⟩)), (9, .pointer (some ⟨bl, 0, none⟩)), (11, .pointer (some ⟨bp, 0, none⟩)), (12, (j.2.2.2.2.2.2.2.2.2.2.1)), (13, .int .i64 ((j.1) : Nat))]) (fun j => (j.2.2.2.2.2.2.1) :: (j.2.2.2.2.2.2.2.1) :: (j.2.2.2.2.2.2.2.2.1) :: (j.2.2.2.2.2.2.2.2.2.1) :: hs) (0, 0, (fun _ => noughts 256), [], l0, d1.light x1, HP, HL, HD2, [], .slice none 0 0, []) ?_ (SubR.cons rfl (SubR.cons rfl (SubR.cons rfl (SubR.cons rfl (SubR.cons rfl (SubR.cons rfl (SubR.cons rfl (SubR.nil _)))))))) sl ?_)))))))
        · dsimp only
          exact ⟨by omega, by omega, by omega, hinv0, hp, hl, hd2, Own.nil, rfl⟩
        rintro ⟨i, m, now, fs, l, d, P, L, D, E, w, es⟩ hI
        dsimp only at hI
        obtain ⟨hi20, hi, hmi, hI, hp, hl, hd, hO, hle⟩ := hI
        show TT _ _ _ [(0, .slice a0 ns.length c0), (2, v2), (8, .pointer (some ⟨bd, 0, none⟩)), (9, .pointer (some ⟨bl, 0, none⟩)), (11, .pointer (some ⟨bp, 0, none⟩)), (12, w), (13, .int .i64 (i : Nat))] (P :: L :: D :: E :: hs)
        refine TT.seq (.seq (.region (.pures hT 5 rfl (.split 48 rfl (fun g48 => ?_) (fun g48 => ?_)))))
        ·
          have g48 := of_decide_eq_true g48
          refine OT.pures hT 3 rfl (.nil (.seq (.cond rfl (fun c51 => ?_) (fun c51 => ?_))))
          ·
            have c51 := of_decide_eq_true c51
            refine TT.skip (.seq (.seq (.block (.seq (.region (.pures hT 3 rfl (.reg 57 rfl (v := .int .u8 ((UInt8.ofNat i).toNat : Int)) (int_eq (byte_of i)) ?_)))))))
            obtain ⟨l', ha, hI1, hmem⟩ := hI.append (by omega)
            have hlen := hI.log_end
            refine OT.buildSlice (enc := Go.Sx.encB) (xs := [UInt8.ofNat i]) (xos := [.tmp 57]) el31 rfl rfl rfl rfl rfl (by simp [Value.cells]) (fun _ _ => rfl) rfl (by decide) rfl (fun v_58 H_58 ho_58 => ?_)
            refine OT.call Try.call15 rfl rfl rfl rfl (Fun.pull (A := L) pl (wal_Append hl ho_58.row (by simp) (by omega))) ?_
            rintro v_59 hs_59 ⟨L1, rfl, rfl, hl1⟩
            rw [ha] at hl1 ⊢
            dsimp only at hl1 ⊢
            refine OT.pures hT 5 rfl (.nil (.seq (.seq (.seq (.region (.pures hT 2 rfl (.nil (.seq (.cond rfl (fun c63 => ?_) (fun c63 => ?_))))))))))
            ·
              exact absurd c63 (by decide)
            ·
              refine TT.skip (.seq (.seq (.region (.pures hT 2 rfl ?_))))
              refine OT.buildSlice (enc := encN) (xs := [5 * (i + 1)]) (xos := [.tmp 65]) el56 rfl rfl rfl rfl rfl (by simp [Value.cells]) (fun _ _ => rfl) rfl (by decide) rfl (fun v_66 H_66 ho_66 => ?_)
              refine OT.append hT el56 rfl rfl rfl rfl pl hO ro rfl (by simp only [List.length_cons, List.length_nil]; omega) rfl (fun v_67 H_67 ho_67 => ?_)
              obtain ⟨y, hyk⟩ := nth (l := ns) (i := i) (by omega)
              obtain ⟨hy0, hy1⟩ := hyr y (List.mem_of_getElem? hyk)
              obtain ⟨k, hk10, hke⟩ := mod10 y hy0 hy1
              have htu := hI1.turn
              have hfw := hI1.few
              have hres := hI1.put (by omega) (by omega) (no := (k : Nat)) (by omega) (by omega) hmem
              refine OT.pures hT 1 rfl (.nil (.seq (.seq (.seq (.draw (_) mixed (.takes (fuel := 9) hT [0, 1, 2, 8, 9, 10, 13] kr kr rfl (.index (fuel := 8) hT 3 rfl kr kr kr rfl rfl rfl rfl ro (by omega) hyk rfl (fun ad_71 hel_71 => ?_))))))))
              refine AT.take (fuel := 7) hT 4 rfl rfl kr kr kr rfl (.load rfl (hel_71.ld_one hT rfl rfl)) rfl (.takes (fuel := 4) hT [5, 6, 7] kr kr rfl (.op (fuel := 3) 11 kr rfl sl (.reg 78 rfl (v := .int .u8 ((UInt8.ofNat (i + 1)).toNat : Int)) (int_eq (by rw [wrap_i64 (by omega) (by omega)]; exact byte_of (i + 1))) ?_)))
              refine OT.buildSlice (enc := Go.Sx.encB) (xs := [UInt8.ofNat (i + 1), 9]) (xos := [.tmp 78, .const (.int .u8 (9))]) el31 rfl rfl rfl rfl rfl (by simp [Value.cells]) (fun _ _ => rfl) rfl (by decide) rfl (fun v_79 H_79 ho_79 => ?_)
              refine OT.nil (.any (.op (fuel := 2) 12 kr rfl sl (.call Try.call12 rfl rfl rfl rfl (law9_Of ho_79.row (by simp)) ?_)))
              rintro v_80 hs_80 ⟨HB, rfl, hoB⟩
              refine OT.nil (.any (.op (fuel := 1) 14 kr rfl sl (.reg 75 rfl (v := .int .i64 (k : Nat)) (int_eq hke) (.call Try.call13 rfl rfl rfl rfl (Fun.weaken (hs' := P :: L1 :: D :: HB :: H_67 :: hs) sl (buf_Put hp hl1 hd (by omega) (by omega) hoB.row (by rw [pageOf_length (by simp)]; omega))) ?_))))
              rintro v_82 hs_82 ⟨P1, L2, D1, rfl, rfl, hp1, hl2, hd1'⟩
              refine OT.nil (.any (.takes (fuel := 0) hT [15] kr kr rfl (.done kr sl (.seq (.cond rfl (fun c83 => ?_) (fun c83 => ?_))))))
              ·
                have c83 : (poolPut fs l' d (k : Nat) (pageOf [UInt8.ofNat (i + 1), 9]) ((5 * (i + 1) : Nat) : Int)).1 ≠ 0 := by simpa using c83
                obtain ⟨_, hend⟩ := hres.resolve_left fun h => c83 h.1
                refine TT.exit (.seq (.blk rfl (.seq (.loop (.here (.cut ((poolPut fs l' d (k : Nat) (pageOf [UInt8.ofNat (i + 1), 9]) ((5 * (i + 1) : Nat) : Int)).2.2.2, D1, i + 1, v_67, (es ++ [5 * (i + 1)]), H_67) ?_ (SubR.cons rfl (SubR.cons rfl (SubR.cons rfl (SubR.nil _)))) sl))))))
                · dsimp only
                  exact ⟨hend, hd1', ho_67, by rw [List.length_append]; simp [hle], by omega⟩
              ·
                have c83 : (poolPut fs l' d (k : Nat) (pageOf [UInt8.ofNat (i + 1), 9]) ((5 * (i + 1) : Nat) : Int)).1 = 0 := by simpa using c83
                obtain ⟨_, hI2⟩ := hres.resolve_right fun h => by omega
                have htu2 := hI2.turn
                have hfw2 := hI2.few
                have hres2 := hI2.flush (by omega) (no := (k : Nat)) (by omega) (by omega)
                refine TT.skip (.seq (.seq (.region (.pures hT 4 rfl (.split 87 rfl (fun g87 => ?_) (fun g87 => ?_))))))
                ·
                  refine OT.pures hT 3 rfl (.index hT rfl rfl rfl rfl ro (by omega) hyk rfl (fun ad_91 hel_91 => ?_))
                  refine OT.load rfl rfl (hel_91.ld_one hT rfl rfl) rfl (.pures hT 3 rfl (.reg 95 rfl (v := .int .i64 (k : Nat)) (int_eq hke) (.call Try.call16 rfl rfl rfl rfl (Fun.weaken (hs' := P1 :: L2 :: D1 :: H_67 :: hs) sl (buf_Flush hp1 hl2 hd1' (by omega) (by omega))) ?_)))
                  rintro v_96 hs_96 ⟨P2, L3, D2, rfl, rfl, hp2, hl3, hd2'⟩
                  refine OT.pures hT 2 rfl (.nil (.seq (.cond rfl (fun c98 => ?_) (fun c98 => ?_))))
                  ·
                    have c98 : (poolFlush (poolPut fs l' d (k : Nat) (pageOf [UInt8.ofNat (i + 1), 9]) ((5 * (i + 1) : Nat) : Int)).2.1 (poolPut fs l' d (k : Nat) (pageOf [UInt8.ofNat (i + 1), 9]) ((5 * (i + 1) : Nat) : Int)).2.2.1 (poolPut fs l' d (k : Nat) (pageOf [UInt8.ofNat (i + 1), 9]) ((5 * (i + 1) : Nat) : Int)).2.2.2 (k : Nat)).1 ≠ 0 := by simpa using c98
                    obtain ⟨_, hend⟩ := hres2.resolve_left fun h => c98 h.1
                    refine TT.exit (.blk rfl (.seq (.loop (.here (.cut ((poolFlush (poolPut fs l' d (k : Nat) (pageOf [UInt8.ofNat (i + 1), 9]) ((5 * (i + 1) : Nat) : Int)).2.1 (poolPut fs l' d (k : Nat) (pageOf [UInt8.ofNat (i + 1), 9]) ((5 * (i + 1) : Nat) : Int)).2.2.1 (poolPut fs l' d (k : Nat) (pageOf [UInt8.ofNat (i + 1), 9]) ((5 * (i + 1) : Nat) : Int)).2.2.2 (k : Nat)).2.2.2, D2, i + 1, v_67, (es ++ [5 * (i + 1)]), H_67) ?_ (SubR.cons rfl (SubR.cons rfl (SubR.cons rfl (SubR.nil _)))) sl)))))
                    · dsimp only
                      exact ⟨hend, hd2', ho_67, by rw [List.length_append]; simp [hle], by omega⟩
                  ·
                    have c98 : (poolFlush (poolPut fs l' d (k : Nat) (pageOf [UInt8.ofNat (i + 1), 9]) ((5 * (i + 1) : Nat) : Int)).2.1 (poolPut fs l' d (k : Nat) (pageOf [UInt8.ofNat (i + 1), 9]) ((5 * (i + 1) : Nat) : Int)).2.2.1 (poolPut fs l' d (k : Nat) (pageOf [UInt8.ofNat (i + 1), 9]) ((5 * (i + 1) : Nat) : Int)).2.2.2 (k : Nat)).1 = 0 := by simpa using c98
                    obtain ⟨_, hI3⟩ := hres2.resolve_right fun h => by omega
                    refine TT.skip (.blk (.seq (.region (.pures hT 3 rfl (.nil (.loop (i + 1, m + 1 + 1, upd now (k : Nat) (pageOf [UInt8.ofNat (i + 1), 9]), (poolFlush (poolPut fs l' d (k : Nat) (pageOf [UInt8.ofNat (i + 1), 9]) ((5 * (i + 1) : Nat) : Int)).2.1 (poolPut fs l' d (k : Nat) (pageOf [UInt8.ofNat (i + 1), 9]) ((5 * (i + 1) : Nat) : Int)).2.2.1 (poolPut fs l' d (k : Nat) (pageOf [UInt8.ofNat (i + 1), 9]) ((5 * (i + 1) : Nat) : Int)).2.2.2 (k : Nat)).2.1, (poolFlush (poolPut fs l' d (k : Nat) (pageOf [UInt8.ofNat (i + 1), 9]) ((5 * (i + 1) : Nat) : Int)).2.1 (poolPut fs l' d (k : Nat) (pageOf [UInt8.ofNat (i + 1), 9]) ((5 * (i + 1) : Nat) : Int)).2.2.1 (poolPut fs l' d (k : Nat) (pageOf [UInt8.ofNat (i + 1), 9]) ((5 * (i + 1) : Nat) : Int)).2.2.2 (k : Nat)).2.2.1, (poolFlush (poolPut fs l' d (k : Nat) (pageOf [UInt8.ofNat (i + 1), 9]) ((5 * (i + 1) : Nat) : Int)).2.1 (poolPut fs l' d (k : Nat) (pageOf [UInt8.ofNat (i + 1), 9]) ((5 * (i + 1) : Nat) : Int)).2.2.1 (poolPut fs l' d (k : Nat) (pageOf [UInt8.ofNat (i + 1), 9]) ((5 * (i + 1) : Nat) : Int)).2.2.2 (k : Nat)).2.2.2, P2, L3, D2, H_67, v_67, (es ++ [5 * (i + 1)])) ?_ ?_ (SubR.cons rfl (SubR.cons rfl (SubR.cons rfl (SubR.cons rfl (SubR.cons rfl (SubR.cons rfl (SubR.cons' rfl (by (try dsimp only); exact (int_eq (by rw [wrap_i64 (by omega) (by omega)]; omega))) (SubR.nil _)))))))) sl))))))
                    · dsimp only
                      exact ⟨by omega, by omega, by omega, hI3, hp2, hl3, hd2', ho_67, by rw [List.length_append]; simp [hle]⟩
                    · dsimp only
                      omega
                ·
                  refine OT.pures hT 11 rfl (.nil (.seq (.cond_false rfl (.skip (.blk (.seq (.region (.pures hT 3 rfl (.nil (.loop (i + 1, m + 1, upd now (k : Nat) (pageOf [UInt8.ofNat (i + 1), 9]), (poolPut fs l' d (k : Nat) (pageOf [UInt8.ofNat (i + 1), 9]) ((5 * (i + 1) : Nat) : Int)).2.1, (poolPut fs l' d (k : Nat) (pageOf [UInt8.ofNat (i + 1), 9]) ((5 * (i + 1) : Nat) : Int)).2.2.1, (poolPut fs l' d (k : Nat) (pageOf [UInt8.ofNat (i + 1), 9]) ((5 * (i + 1) : Nat) : Int)).2.2.2, P1, L2, D1, H_67, v_67, (es ++ [5 * (i + 1)])) ?_ ?_ (SubR.cons rfl (SubR.cons rfl (SubR.cons rfl (SubR.cons rfl (SubR.cons rfl (SubR.cons rfl (SubR.cons' rfl (by (try dsimp only); exact (int_eq (by rw [wrap_i64 (by omega) (by omega)]; omega))) (SubR.nil _)))))))) sl))))))))))
                  · dsimp only
                    exact ⟨by omega, by omega, by omega, hI2, hp1, hl2, hd1', ho_67, by rw [List.length_append]; simp [hle]⟩
                  · dsimp only
                    omega
          ·
            have c51 := of_decide_eq_false c51
            refine TT.exit (.seq (.loop (.here (.cut (d, D, i, w, es, E) ?_ (SubR.cons rfl (SubR.cons rfl (SubR.cons rfl (SubR.nil _)))) sl))))
            · dsimp only
              exact ⟨hI.end_, hd, hO, hle, hi20⟩
        ·
          have g48 := of_decide_eq_false g48
          refine OT.pures hT 3 rfl (.nil (.seq (.cond_false rfl (.exit (.seq (.loop (.here (.cut (d, D, i, w, es, E) ?_ (SubR.cons rfl (SubR.cons rfl (SubR.cons rfl (SubR.nil _)))) sl))))))))
          · dsimp only
            exact ⟨hI.end_, hd, hO, hle, hi20⟩
      ·
        rintro ⟨d, D, n, w, es, E⟩ hI
        dsimp only at hI
        obtain ⟨hH, hd, hO, hle, hn20⟩ := hI
        show TT _ _ _ [(2, v2), (8, .pointer (some ⟨bd, 0, none⟩)), (12, w)] (D :: E :: hs)
        obtain ⟨aw, cw, hw⟩ := (hO.row (hs := hs)).len
        subst hw
        obtain ⟨s, base, end_, rs, ho, hrl, hpg⟩ := hH.opens ks
        refine TT.seq (.region (.pures hT 2 rfl (.call Try.call21 rfl rfl rfl rfl (dev_Crash hd hk.there) ?_)))
        rintro v_101 hs_101 ⟨X, rfl, hdx⟩
        obtain ⟨bx, hpx⟩ := hdx.ptr
        subst hpx
        refine OT.pures hT 1 rfl (.nil (.seq (.seq (.region (.pures hT 1 rfl (.call Try.call23 rfl rfl rfl rfl (wal_Open hdx ho) ?_))))))
        rintro v_104 hs_104 ⟨q, wr, HL2, HR, rfl, rfl, hl2, hrows⟩
        obtain ⟨ts, Kr, hts, htm, hOr, hHR⟩ := hrows.is
        obtain ⟨ar, cr, hwr⟩ := (hOr.row (hs := hs)).len
        subst hwr
        have hrn : (ts.map (·.1)).length = rs.length := by rw [← htm, List.length_map, List.length_map]
        refine OT.pures hT 7 rfl (.nil (.seq (.seq (.seq (.region (.pures hT 2 rfl (.nil (.seq (.cond rfl (fun c109 => ?_) (fun c109 => ?_))))))))))
        ·
          exact absurd c109 (by decide)
        ·
          refine TT.skip (.seq (.seq (.seq (.region (.pures hT 1 rfl (.nil (.seq (.block (.loop (ι := Nat) (fun j => (j) ≤ 10) (fun j => 10 - (j)) (fun j => [(12, .slice aw es.length cw), (16, .pointer (some ⟨bx, 0, none⟩)), (18, .slice ar (ts.map (·.1)).length cr), (20, .int .i64 ((j) : Nat))]) (fun j => X :: hs) (0) ?_ (SubR.cons rfl (SubR.cons rfl (SubR.cons rfl (SubR.cons rfl (SubR.nil _))))) sl ?_)))))))))
          · omega
          rintro j2 hj
          show TT _ _ _ [(12, .slice aw es.length cw), (16, .pointer (some ⟨bx, 0, none⟩)), (18, .slice ar (ts.map (·.1)).length cr), (20, .int .i64 (j2 : Nat))] (X :: hs)
          refine TT.seq (.seq (.region (.pures hT 2 rfl (.nil (.seq (.cond rfl (fun c111 => ?_) (fun c111 => ?_)))))))
          ·
            have c111 := of_decide_eq_true c111
            obtain ⟨pg, c, hrd, hbl, hb0, hcr⟩ := hpg (j2 : Nat) (by omega) (by omega)
            have hc256 := c.toNat_lt
            refine TT.skip (.seq (.seq (.block (.seq (.region (.pures hT 2 rfl (.call Try.call24 rfl rfl rfl rfl (page_Read hdx) ?_)))))))
            rintro v_117 hs_117 ⟨wp, HB, rfl, rfl, hob⟩
            rw [hrd] at hob ⊢
            dsimp only at hob ⊢
            obtain ⟨ap, cp, hwp⟩ := (hob.row (hs := hs)).len
            subst hwp
            refine OT.pures hT 5 rfl (.nil (.seq (.seq (.region (.pures hT 3 rfl (.split 122 rfl (fun g122 => ?_) (fun g122 => ?_)))))))
            ·
              exact absurd g122 (by decide)
            ·
              refine OT.pures hT 1 rfl (.index hT rfl rfl rfl rfl ro (by omega) hb0 rfl (fun ad_124 hel_124 => ?_))
              refine OT.load rfl rfl (hel_124.ld_one hT rfl rfl) rfl (.pures hT 6 rfl (.split 131 rfl (fun g131 => ?_) (fun g131 => ?_)))
              ·
                exact absurd (of_decide_eq_true g131) (by rw [wrap_i64 (by omega) (by omega), hrn]; omega)
              ·
                refine OT.pures hT 1 rfl (.index hT rfl rfl rfl rfl ro (by omega) hb0 rfl (fun ad_133 hel_133 => ?_))
                refine OT.load rfl rfl (hel_133.ld_one hT rfl rfl) rfl (.pures hT 2 rfl (.split 136 rfl (fun g136 => ?_) (fun g136 => ?_)))
                ·
                  refine OT.pures hT 1 rfl (.index hT rfl rfl rfl rfl ro (by omega) hb0 rfl (fun ad_138 hel_138 => ?_))
                  refine OT.load rfl rfl (hel_138.ld_one hT rfl rfl) rfl (.pures hT 6 rfl (.nil (.seq (.cond rfl (fun c145 => ?_) (fun c145 => ?_)))))
                  ·
                    exact absurd (of_decide_eq_true c145) (by rw [wrap_i64 (by omega) (by omega)]; omega)
                  ·
                    refine TT.skip (.blk (.seq (.region (.pures hT 3 rfl (.nil (.loop (j2 + 1) ?_ ?_ (SubR.cons rfl (SubR.cons rfl (SubR.cons rfl (SubR.cons' rfl (by (try dsimp only); exact (int_eq (by rw [wrap_i64 (by omega) (by omega)]; omega))) (SubR.nil _))))) sl))))))
                    · omega
                    · omega
                ·
                  refine OT.pures hT 9 rfl (.nil (.seq (.cond_false rfl (.skip (.blk (.seq (.region (.pures hT 3 rfl (.nil (.loop (j2 + 1) ?_ ?_ (SubR.cons rfl (SubR.cons rfl (SubR.cons rfl (SubR.cons' rfl (by (try dsimp only); exact (int_eq (by rw [wrap_i64 (by omega) (by omega)]; omega))) (SubR.nil _))))) sl))))))))))
                  · omega
                  · omega
          ·
            refine TT.exit (.seq (.loop (.here (.seq (.seq (.region (.pures hT 1 rfl (.nil (.seq (.ret (.of (rs := [.tmp 6]) [_] hs rfl (.tmp rfl .nil) sl ?_)))))))))))
            dsimp only [one]
            exact ⟨rfl, rfl⟩

end Go.Proofs.Ytoalhcodigpgkaa.Sx
end
