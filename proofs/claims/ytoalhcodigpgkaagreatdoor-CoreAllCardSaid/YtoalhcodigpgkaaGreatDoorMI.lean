/- Several texts in one. slices.Sort of whole numbers, in the words of the small logic: the shelf's contract is turned. The pool: what is dirty; no pool. Printed by a program of ours off the loaded program and our notes; Lean checks it. What is dirty behind a check: nothing. CoreFlush: it answers true. Printed by a program of ours off the loaded program and our notes; Lean checks it. CoreAll: it answers true. Printed by a program of ours off the loaded program and our notes; Lean checks it. -/
import Derived.Test.YtoalhcodigpgkaaGreatDoorMA
import Derived.Test.YtoalhcodigpgkaaGreatDoorShelf
import Derived.Sort.Grow
import Derived.Test.YtoalhcodigpgkaaGreatDoorMC
import Derived.Test.YtoalhcodigpgkaaGreatDoorMF
import Derived.Test.YtoalhcodigpgkaaGreatDoorMG
import Derived.Test.YtoalhcodigpgkaaGreatDoorMB
import Derived.Test.YtoalhcodigpgkaaGreatDoorME
import Derived.Test.YtoalhcodigpgkaaGreatDoorMH

section
namespace Go.Sx
open Go Go.Sort
variable [Outer]

omit [Outer] in
theorem putCells_row (pre sp : List Value) (xs ys : List Int) (h : ys.length = xs.length) :
    putCells (Value.int .i64) pre.length ys.toArray ⟨pre ++ xs.map (Value.int .i64) ++ sp⟩ = ⟨pre ++ ys.map (Value.int .i64) ++ sp⟩ := by
  apply Array.ext_getElem?
  intro k
  unfold putCells
  rw [Array.getElem?_mapIdx]
  rw [List.getElem?_toArray, List.getElem?_toArray]
  rw [List.append_assoc, List.append_assoc]
  by_cases h1 : k < pre.length
  · rw [List.getElem?_append_left h1, List.getElem?_append_left h1]
    cases pre[k]? with
    | none => rfl
    | some v => rw [Option.map_some, if_neg (by omega)]
  · have key : ∀ zs : List Int, (pre ++ (zs.map (Value.int .i64) ++ sp))[k]? = if k < pre.length + zs.length then (zs[k - pre.length]?).map (Value.int .i64) else sp[k - pre.length - zs.length]? := by
      intro zs
      rw [List.getElem?_append_right (by omega)]
      by_cases h2 : k < pre.length + zs.length
      · rw [if_pos h2, List.getElem?_append_left (by rw [List.length_map]; omega), List.getElem?_map]
      · rw [if_neg h2, List.getElem?_append_right (by rw [List.length_map]; omega), List.length_map]
    rw [key xs, key ys, h]
    by_cases h2 : k < pre.length + xs.length
    · rw [if_pos h2, if_pos h2, List.getElem?_eq_getElem (by omega : k - pre.length < xs.length), List.getElem?_eq_getElem (by omega : k - pre.length < ys.length)]
      rw [Option.map_some, Option.map_some, Option.map_some, if_pos ⟨by omega, by rw [List.size_toArray]; omega⟩]
      rw [getElem!_pos ys.toArray (k - pre.length) (by rw [List.size_toArray]; omega)]
      rfl
    · rw [if_neg h2, if_neg h2]
      cases sp[k - pre.length - xs.length]? with
      | none => rfl
      | some v => rw [Option.map_some, if_neg (by rw [List.size_toArray]; omega)]

theorem Mem.putRow {w w' : World} {b : Nat} {pre sp : List Value} {xs ys : List Int} {e : Nat} {fr : Nat × Nat} {r : List Chunk} {n : Nat} {os : Array Obj}
    (hm : Mem ([(b, blk (pre ++ xs.map (Value.int .i64) ++ sp) e fr)] :: r) w) (hl : ys.length = xs.length)
    (hw : w' = grow (Go.Sort.putRow (Value.int .i64) (Go.Sort.ahead w n) b pre.length ys.toArray) os) : Mem ([(b, blk (pre ++ ys.map (Value.int .i64) ++ sp) e fr)] :: r) w' := by
  have hb := hm.heap (b := b) Has.one
  have hn := hm.nodup
  simp only [List.flatten_cons, List.singleton_append, List.map_cons, List.nodup_cons] at hn
  have hsz : (Go.Sort.putRow (Value.int .i64) (Go.Sort.ahead w n) b pre.length ys.toArray).heap.size = w.heap.size := by
    unfold Go.Sort.putRow mapBlock Go.Sort.ahead
    simp
  refine ⟨?_, ?_, by rw [hw]; exact hm.outer⟩
  · simp only [List.flatten_cons, List.singleton_append, List.map_cons, List.nodup_cons]
    exact hn
  · intro c oc hc
    simp only [List.flatten_cons, List.singleton_append, List.mem_cons, Prod.mk.injEq] at hc
    have hold : w.heap[c]? ≠ none → w'.heap[c]? = (if b = c then w.heap[c]?.map (onCells (putCells (Value.int .i64) pre.length ys.toArray)) else w.heap[c]?) := by
      intro h
      have hlt : c < w.heap.size := by
        rw [Ne, Array.getElem?_eq_none_iff] at h; omega
      rw [hw, heap_grow_old _ _ (by rw [hsz]; exact hlt)]
      unfold Go.Sort.putRow mapBlock Go.Sort.ahead
      exact Array.getElem?_modify ..
    rcases hc with ⟨rfl, rfl⟩ | hc
    · rw [hold (by rw [hb]; intro h; cases h), if_pos rfl, hb, Option.map_some]
      unfold onCells blk
      simp only [putCells_row pre sp xs ys hl]
    · have hne : b ≠ c := by
        intro e
        subst e
        exact hn.1 (List.mem_map.2 ⟨(b, oc), hc, rfl⟩)
      have ho := hm.has c oc (by simp [hc])
      rw [hold (by rw [ho]; intro h; cases h), if_neg hne, ho]

theorem Mem.holds {w : World} {b : Nat} {pre sp : List Value} {xs : List Int} {e : Nat} {fr : Nat × Nat} {r : List Chunk}
    (hm : Mem ([(b, blk (pre ++ xs.map (Value.int .i64) ++ sp) e fr)] :: r) w) (ht : thawed (pre ++ xs.map (Value.int .i64) ++ sp) fr) : Holds (Value.int .i64) w b pre.length xs.toArray := by
  intro j hj
  rw [List.size_toArray] at hj
  have hb := hm.heap (b := b) Has.one
  constructor
  · rw [hm.cell (b := b) Has.one (pre.length + j)]
    rw [List.append_assoc, List.getElem?_append_right (by omega), List.getElem?_append_left (by rw [List.length_map]; omega), List.getElem?_map]
    rw [show pre.length + j - pre.length = j by omega, List.getElem?_eq_getElem hj, Option.map_some, getElem!_pos xs.toArray j (by rw [List.size_toArray]; omega)]
    rfl
  · simp only [World.frozen?, hb]
    rcases ht with ht | ht
    · simp; omega
    · simp only [List.length_append, List.length_map] at ht
      simp; omega

theorem sorted_of {P : Program} {f : Nat} {v : Value} {xs : List Int} {H : Chunk} {r : List Chunk} {e : Nat} (ho : Own encI 1 e v xs H) (hl : xs.length ≤ 1073741824)
    (h0 : ∀ (p : Option Addr) (cap : Nat) (w : World), Calls P f #[.slice p 0 cap] w fun e w' => e = .returned (.tuple #[]) ∧ w' = w)
    (h1 : ∀ (b off cap : Nat) (zs : List Int) (w : World), Holds (Value.int .i64) w b off zs.toArray → b < w.heap.size → zs.length < 4611686018427387904 →
      Calls P f #[.slice (some ⟨b, off, none⟩) zs.length cap] w fun e w' => e = .returned (.tuple #[]) ∧ ∃ n os, w' = grow (Go.Sort.putRow (Value.int .i64) (Go.Sort.ahead w n) b off (zs.mergeSort fun x y => decide (x ≤ y)).toArray) os) :
    Fun P f [v] (H :: r) fun v' hs' => v' = .tuple #[] ∧ ∃ H', hs' = H' :: r ∧ Own encI 1 e v (xs.mergeSort fun x y => decide (x ≤ y)) H' := by
  obtain ⟨h1x, ⟨rfl, rfl, rfl⟩ | ⟨b, cap, pre, sp, fr, rfl, rfl, hc, hs, ht⟩⟩ := ho
  · intro w hm
    refine (h0 none 0 w).mono ?_
    rintro e' w' ⟨rfl, rfl⟩
    exact ⟨_, _, rfl, ⟨rfl, [], rfl, by simp; exact Own.nil⟩, hm⟩
  · intro w hm
    have em : ∀ l : List Int, l.flatMap encI = l.map (Value.int .i64) := by
      intro l
      induction l with
      | nil => rfl
      | cons x l ih => simpa using ih
    rw [em] at hm ht
    have hb := hm.heap (b := b) Has.one
    have hlen : (xs.mergeSort fun x y => decide (x ≤ y)).length = xs.length := List.length_mergeSort _
    refine (h1 b pre.length cap xs w (hm.holds ht) (Array.getElem?_eq_some_iff.1 hb).1 (by omega)).mono ?_
    rintro e' w' ⟨rfl, n, os, hw⟩
    refine ⟨_, _, rfl, ⟨rfl, _, rfl, ?_⟩, hm.putRow hlen hw⟩
    refine ⟨fun _ _ => rfl, .inr ⟨b, cap, pre, sp, fr, by rw [hlen], by rw [em], by rw [hlen]; exact hc, by rw [hlen]; exact hs, ?_⟩⟩
    rw [em]
    unfold thawed at ht ⊢
    simp only [List.length_append, List.length_map] at ht ⊢
    rw [hlen]
    exact ht
end Go.Sx
end

section
namespace Go.Proofs.YtoalhcodigpgkaaGreatDoor.Sx
open Go Go.Sx Go.Pl
variable [Outer]

theorem sl_Sort {v : Value} {xs : List Int} {H : Chunk} {r : List Chunk} (ho : Own Go.Sx.encI 1 3 v xs H) (hl : xs.length ≤ 1073741824) :
    Fun Tryz.prog 63 [v] (H :: r) (fun v' hs' => v' = .tuple #[] ∧ ∃ H', hs' = H' :: r ∧ Own Go.Sx.encI 1 3 v (xs.mergeSort fun x y => decide (x ≤ y)) H') :=
  sorted_of ho hl Tryz.slices_Sort_int_none (fun b off cap zs w h1 h2 h3 => Tryz.slices_Sort_int b off cap zs w h1 h2 h3)

set_option maxHeartbeats 2000000 in
set_option maxRecDepth 100000 in
theorem buf_Dirty {p pd pw : Value} {fs : List Fr} {H : Chunk} {r : List Chunk} (hp : IsPool 5 109 100 106 p pd pw fs H) : Fun Tryz.prog 37 [p] (H :: r) (fun v' hs' => ∃ H', hs' = H' :: H :: r ∧ Own Go.Sx.encI 1 3 v' (poolDirty fs) H') := by
  refine Fun.enter 32 Tryz.func37 rfl Tryz.ntmps37 rfl ?_
  obtain ⟨b, v, ts, Kl, hpp, hfe, hP, hH⟩ := hp.is
  subst hpp
  subst hH
  subst hfe
  have hfl := frs_length ts
  have hplen := ptrs_length ts
  obtain ⟨av, cv, hv⟩ := (hP.own.row (hs := r)).len
  subst hv
  refine TT.perm perm3 ?_
  have hfew := hP.few
  refine TT.seq (.region (.pures hT 1 rfl (.nil (.seq (.seq (.seq (.region (.pures hT 2 rfl (.nil (.seq (.cond_false rfl (.skip (.seq (.seq (.region (.pures hT 1 rfl (.nil (.seq (.seq (.seq (.region (.pures hT 3 rfl (.load rfl rfl (Ld.slc hT rfl hz rfl) rfl ?_)))))))))))))))))))))))
  refine OT.pures hT 2 rfl (.nil (.seq (.block (.chunk0 (.loop (ι := Nat × Value × Chunk) (fun j => (j.1) ≤ ts.length ∧ Own Go.Sx.encI 1 3 (j.2.1) (dirties ((frs ts).take (j.1))) (j.2.2)) (fun j => ts.length - (j.1)) (fun j => [(0, .pointer (some ⟨b, 0, none⟩)), (3, (j.2.1)), (11, .slice av (ptrs ts).length cv), (12, .int .i64 (ptrs ts).length), (13, .int .i64 ((j.1) : Nat))]) (fun j => (j.2.2) :: [(b, blk [pd, pw, (.slice av (ptrs ts).length cv)] 100 (0, 0))] :: Kl :: chunk ts :: r) (0, .slice none 0 0, []) ?_ (SubR.cons rfl (SubR.cons rfl (SubR.cons rfl (SubR.cons rfl (SubR.cons rfl (SubR.nil _)))))) sl ?_)))))
  · dsimp only
    exact ⟨by omega, Own.nil⟩
  rintro ⟨i, w, W⟩ hI
  dsimp only at hI
  obtain ⟨hi, hW⟩ := hI
  show TT _ _ _ [(0, .pointer (some ⟨b, 0, none⟩)), (3, w), (11, .slice av (ptrs ts).length cv), (12, .int .i64 (ptrs ts).length), (13, .int .i64 (i : Nat))] (W :: [(b, blk [pd, pw, (.slice av (ptrs ts).length cv)] 100 (0, 0))] :: Kl :: chunk ts :: r)
  have hdl : (dirties ((frs ts).take i)).length ≤ i := by unfold dirties; rw [List.length_map]; exact Nat.le_trans (List.length_filter_le _ _) (List.length_take_le _ _)
  refine TT.seq (.region (.pures hT 1 rfl (.nil (.seq (.seq (.cond rfl (fun c14 => ?_) (fun c14 => ?_)))))))
  ·
    have c14 := of_decide_eq_true c14
    obtain ⟨t, ht⟩ := nth (l := ts) (i := i) (by omega)
    have hpt := ptrs_at ht
    have hft := frs_at ht
    obtain ⟨bf, vb, Kb, hq1, hq2, hq3, hq4, hq5⟩ := chunk_has hP.all (List.mem_of_getElem? ht)
    refine TT.skip (.seq (.seq (.block (.seq (.region (.index hT rfl rfl rfl rfl (hP.own.row.there.there) (by omega) hpt rfl (fun ad_15 hel_15 => ?_)))))))
    refine OT.load rfl rfl (hel_15.ld_one hT rfl rfl) rfl (.reg 16 rfl (v := .pointer (some ⟨bf, 0, none⟩)) hq1 (.pures hT 1 rfl (.nil (.seq (.seq (.region (.pures hT 3 rfl (.load rfl rfl (Ld.one hT rfl (.there (.there (.there (.here hq5)))) rfl) rfl (.nil (.seq (.cond rfl (fun c20 => ?_) (fun c20 => ?_))))))))))))
    ·
      have hds : dirties ((frs ts).take (i + 1)) = dirties ((frs ts).take i) ++ [t.2.1.no] := by unfold dirties; rw [take_succ hft, List.filter_append, List.map_append]; simp [show t.2.1.dirty = true from c20]
      refine TT.region (.pures hT 4 rfl (.load rfl rfl (Ld.one hT rfl (.there (.there (.there (.here hq5)))) rfl) rfl ?_))
      refine OT.buildSlice (enc := Go.Sx.encI) (xs := [t.2.1.no]) (xos := [.tmp 25]) el22 rfl rfl rfl rfl rfl (by simp [Value.cells]) (fun _ _ => rfl) rfl (by decide) rfl (fun v_26 H_26 ho_26 => ?_)
      refine OT.append hT el22 rfl rfl rfl rfl pl hW ro rfl (by simp only [List.length_cons, List.length_nil]; omega) rfl (fun v_27 H_27 ho_27 => ?_)
      refine OT.pures hT 1 rfl (.nil (.blk (.seq (.region (.pures hT 2 rfl (.nil (.loop (i + 1, v_27, H_27) ?_ ?_ (SubR.cons rfl (SubR.cons rfl (SubR.cons rfl (SubR.cons rfl (SubR.cons' rfl (by (try dsimp only); exact (int_eq (by rw [wrap_i64 (by omega) (by omega)]; omega))) (SubR.nil _)))))) sl)))))))
      · dsimp only
        exact ⟨by omega, by rw [hds]; exact ho_27⟩
      · dsimp only
        omega
    ·
      have hds : dirties ((frs ts).take (i + 1)) = dirties ((frs ts).take i) := by unfold dirties; rw [take_succ hft, List.filter_append, List.map_append]; simp [show t.2.1.dirty = false from c20]
      refine TT.skip (.blk (.seq (.region (.pures hT 2 rfl (.nil (.loop (i + 1, w, W) ?_ ?_ (SubR.cons rfl (SubR.cons rfl (SubR.cons rfl (SubR.cons rfl (SubR.cons' rfl (by (try dsimp only); exact (int_eq (by rw [wrap_i64 (by omega) (by omega)]; omega))) (SubR.nil _)))))) sl))))))
      · dsimp only
        exact ⟨by omega, by rw [hds]; exact hW⟩
      · dsimp only
        omega
  ·
    have c14 := of_decide_eq_false c14
    obtain rfl : i = ts.length := by omega
    rw [show (frs ts).take ts.length = frs ts by rw [← hfl, List.take_length]] at hW hdl
    refine TT.exit (.seq (.loop (.here (.seq (.seq (.region (.pures hT 1 rfl (.call Tryz.call63 rfl rfl rfl rfl (sl_Sort hW (by omega)) ?_))))))))
    rintro v_30 hs_30 ⟨rfl, H2, rfl, ho2⟩
    refine OT.nil (.seq (.seq (.region (.pures hT 2 rfl (.nil (.seq (.ret (.of (rs := [.tmp 2]) [_] (H2 :: ([(b, blk [pd, pw, (.slice av (ptrs ts).length cv)] 100 (0, 0))] ++ (Kl ++ chunk ts)) :: r) rfl (.tmp rfl .nil) sl ?_))))))))
    dsimp only [one]
    exact ⟨_, rfl, ho2⟩

set_option maxHeartbeats 1000000 in
set_option maxRecDepth 100000 in
theorem buf_Page0 {no : Int} {r : List Chunk} : Fun Tryz.prog 38 [.pointer none, .int .i64 no] r (fun v' hs' => v' = .tuple ⟨[.slice none 0 0, .int .i64 5]⟩ ∧ r = hs') := by
  refine Fun.enter 72 Tryz.func38 rfl Tryz.ntmps38 rfl ?_
  refine TT.seq (.region (.pures hT 2 rfl (.nil (.seq (.seq (.seq (.region (.pures hT 2 rfl (.call Tryz.call55 rfl rfl rfl rfl (buf_may0) ?_)))))))))
  rintro v_13 hs_13 ⟨rfl, rfl⟩
  refine OT.pures hT 1 rfl (.nil (.seq (.seq (.region (.pures hT 2 rfl (.nil (.seq (.cond rfl (fun c15 => ?_) (fun c15 => ?_)))))))))
  ·
    refine TT.seq (.region (.pures hT 3 rfl (.nil (.seq (.ret (.of (rs := [.tmp 4, .tmp 5]) [_, _] r rfl (.tmp rfl (.tmp rfl .nil)) sl ?_))))))
    dsimp only [one]
    exact ⟨rfl, rfl⟩
  ·
    exact absurd c15 (by decide)

set_option maxHeartbeats 1000000 in
set_option maxRecDepth 100000 in
theorem buf_Put0 {no : Int} {vb : Value} {lsn : Int} {r : List Chunk} : Fun Tryz.prog 33 [.pointer none, .int .i64 no, vb, .int .i64 lsn] r (fun v' hs' => v' = .int .i64 5 ∧ r = hs') := by
  refine Fun.enter 57 Tryz.func33 rfl Tryz.ntmps33 rfl ?_
  refine TT.seq (.region (.pures hT 1 rfl (.nil (.seq (.seq (.seq (.region (.pures hT 2 rfl (.call Tryz.call55 rfl rfl rfl rfl (buf_may0) ?_)))))))))
  rintro v_13 hs_13 ⟨rfl, rfl⟩
  refine OT.pures hT 1 rfl (.nil (.seq (.seq (.region (.pures hT 2 rfl (.nil (.seq (.cond rfl (fun c15 => ?_) (fun c15 => ?_)))))))))
  ·
    refine TT.seq (.region (.pures hT 2 rfl (.nil (.seq (.ret (.of (rs := [.tmp 8]) [_] r rfl (.tmp rfl .nil) sl ?_))))))
    dsimp only [one]
    exact ⟨rfl, rfl⟩
  ·
    exact absurd c15 (by decide)

set_option maxHeartbeats 1000000 in
set_option maxRecDepth 100000 in
theorem buf_Flush0 {no : Int} {r : List Chunk} : Fun Tryz.prog 34 [.pointer none, .int .i64 no] r (fun v' hs' => v' = .int .i64 5 ∧ r = hs') := by
  refine Fun.enter 31 Tryz.func34 rfl Tryz.ntmps34 rfl ?_
  refine TT.seq (.region (.box rfl rfl rfl (fun b_3 => ?_)))
  refine OT.pures hT 1 rfl (.nil (.seq (.seq (.seq (.region (.pures hT 1 rfl (.load rfl rfl (Ld.one hT rfl hz rfl) rfl ?_)))))))
  refine OT.call Tryz.call55 rfl rfl rfl rfl (buf_may0) ?_
  rintro v_9 hs_9 ⟨rfl, rfl⟩
  refine OT.pures hT 1 rfl (.nil (.seq (.seq (.region (.pures hT 2 rfl (.nil (.seq (.cond rfl (fun c11 => ?_) (fun c11 => ?_)))))))))
  ·
    refine TT.seq (.region (.pures hT 2 rfl (.nil (.seq (.ret (.of (rs := [.tmp 4]) [_] r rfl (.tmp rfl .nil) sl ?_))))))
    dsimp only [one]
    exact ⟨rfl, rfl⟩
  ·
    exact absurd c11 (by decide)

set_option maxHeartbeats 1000000 in
set_option maxRecDepth 100000 in
theorem buf_All0 {r : List Chunk} : Fun Tryz.prog 35 [.pointer none] r (fun v' hs' => v' = .int .i64 5 ∧ r = hs') := by
  refine Fun.enter 29 Tryz.func35 rfl Tryz.ntmps35 rfl ?_
  refine TT.seq (.region (.pures hT 1 rfl (.nil (.seq (.seq (.seq (.region (.pures hT 2 rfl (.nil (.seq (.cond_true rfl (.seq (.region (.pures hT 1 rfl (.nil (.seq (.ret (.of (rs := [.tmp 2]) [_] r rfl (.tmp rfl .nil) sl ?_))))))))))))))))))
  dsimp only [one]
  exact ⟨rfl, rfl⟩

set_option maxHeartbeats 1000000 in
set_option maxRecDepth 100000 in
theorem buf_Dirty0 {r : List Chunk} : Fun Tryz.prog 37 [.pointer none] r (fun v' hs' => v' = .slice none 0 0 ∧ r = hs') := by
  refine Fun.enter 32 Tryz.func37 rfl Tryz.ntmps37 rfl ?_
  refine TT.seq (.region (.pures hT 1 rfl (.nil (.seq (.seq (.seq (.region (.pures hT 2 rfl (.nil (.seq (.cond_true rfl (.seq (.region (.pures hT 1 rfl (.nil (.seq (.ret (.of (rs := [.tmp 2]) [_] r rfl (.tmp rfl .nil) sl ?_))))))))))))))))))
  dsimp only [one]
  exact ⟨rfl, rfl⟩


end Go.Proofs.YtoalhcodigpgkaaGreatDoor.Sx
end

section
namespace Go.Proofs.YtoalhcodigpgkaaGreatDoor.Sx
open Go Go.Sx Go.Pl
variable [Outer]

set_option maxHeartbeats 2000000 in
set_option maxRecDepth 100000 in
theorem core_Dirty {p pd : Value} {c : Cor} {H : Chunk} {r : List Chunk} (hc : IsCor 5 2 125 97 109 100 106 66 p pd c H) (hup : c.down = false) : Fun Tryz.prog 12 [p] (H :: r) (fun v' hs' => ∃ H1, hs' = H1 :: H :: r ∧ Own Go.Sx.encI 1 3 v' (poolDirty c.fs) H1) := by
  refine Fun.enter 10 Tryz.func12 rfl Tryz.ntmps12 rfl ?_
  obtain ⟨b, pw, pp, HP, HL, hpp, hP, hL, hH⟩ := hc.is
  subst hpp
  subst hH
  obtain ⟨bw, hpw⟩ := hL.ptr
  obtain ⟨bq, _, _, _, hpq, _⟩ := hP.is
  subst hpw
  subst hpq
  refine TT.perm perm3 (.seq (.region (.pures hT 1 rfl (.nil (.seq (.seq (.seq (.region (.pures hT 1 rfl (.call Tryz.call14 rfl rfl rfl rfl (core_Down) ?_))))))))))
  rintro v_4 hs_4 ⟨rfl, rfl⟩
  refine OT.nil (.seq (.cond rfl (fun c4 => ?_) (fun c4 => ?_)))
  ·
    exact absurd c4 (by rw [hup]; decide)
  ·
    refine TT.skip (.seq (.seq (.region (.pures hT 3 rfl (.load rfl rfl (Ld.one hT rfl hz rfl) rfl ?_)))))
    refine OT.call Tryz.call37 rfl rfl rfl rfl (Fun.pull pl (buf_Dirty hP)) ?_
    rintro v_9 hs_9 ⟨HI, rfl, hoI⟩
    refine OT.pures hT 1 rfl (.nil (.seq (.ret (.of (rs := [.tmp 2]) [_] (HI :: ([(b, blk [.pointer (some ⟨bw, 0, none⟩), .pointer (some ⟨bq, 0, none⟩), .bool c.down] 66 (0, 0))] ++ (HP ++ HL)) :: r) rfl (.tmp rfl .nil) sl ?_))))
    dsimp only [one]
    exact ⟨_, rfl, hoI⟩

omit [Outer] in
/-- a core that is up, all its pages clean -/
structure CleanAt (Can : Pages → Prop) (now : Pages) (n : Nat) (cm : Prop) (p pd : Value) (H HD : Chunk) : Prop where
  is : ∃ c, IsCor 5 2 125 97 109 100 106 66 p pd c H ∧ IsDev 83 69 pd c.d HD ∧ CorI Can now c n ∧ CalmIf cm c.d ∧ ∀ f ∈ c.fs, f.dirty = false

section
variable {Can Can' : Pages → Prop} {now now' : Pages} {n n' : Nat} {cm cm' : Prop} {p pd : Value} {H HD : Chunk} {r : List Chunk}

omit [Outer] in
theorem CleanAt.at (h : CleanAt Can now n cm p pd H HD) : CoreAt Can now n cm p pd H HD := by
  obtain ⟨c, h1, h2, h3, h4, _⟩ := h.is; exact ⟨c, h1, h2, h3, h4⟩

theorem up_CheckC (h : CoreAt Can now n cm p pd H HD) (hn : n ≤ 100000000000) : Fun Tryz.prog 11 [p] (H :: HD :: r) (fun v' hs' => ∃ e H' HD', hs' = H' :: HD' :: r ∧ v' = .int .i64 e ∧ ((e = 0 ∧ CleanAt (fun P => EqP P now) now (n + 1) cm p pd H' HD') ∨ (e = 5 ∧ ¬ cm ∧ DownAt Can (n + 1) p pd H' HD'))) := by
  obtain ⟨c, h1, h2, h3, h4⟩ := h.is
  refine (core_Check h1 h2 (fun _ => h3.fine hn) (fun _ => h3.cutOk hn)).mono ?_
  rintro v' hs' ⟨H', HD', rfl, rfl, k2, k3⟩
  refine ⟨_, H', HD', rfl, rfl, ?_⟩
  have hk := (calmIf_kept cm).ccheck c h4
  obtain ⟨e0, q, qd, _⟩ | ⟨e5, q1, q2, q3⟩ := h3.check hn
  · exact .inl ⟨e0, ⟨_, k2, k3, q, hk, qd⟩⟩
  · exact .inr ⟨e5, gone_not hk q2, ⟨_, k2, k3, q1, q2, q3⟩⟩

theorem up_Dirty (h : CleanAt Can now n cm p pd H HD) : Fun Tryz.prog 12 [p] (H :: r) (fun v' hs' => ∃ H1, hs' = H1 :: H :: r ∧ Own Go.Sx.encI 1 3 v' [] H1) := by
  obtain ⟨c, h1, h2, h3, h4, h5⟩ := h.is
  have := core_Dirty (r := r) h1 h3.up
  rw [poolDirty_nil h5] at this
  exact this

end

set_option maxHeartbeats 8000000 in
set_option maxRecDepth 100000 in
theorem law_CoreFlush {v0 v1 v2 : Value} {ns fs : List Int} {ks : List Bool} {hs : List Chunk} (hn : Row Go.Sx.encI 1 hs v0 ns) (hnr : ∀ z ∈ ns, -9223372036854775808 ≤ z ∧ z ≤ 9223372036854775807) (hnl : ns.length ≤ 9223372036854775807) (hf : Row Go.Sx.encI 1 hs v1 fs) (hfr : ∀ z ∈ fs, -9223372036854775808 ≤ z ∧ z ≤ 9223372036854775807) (hk : Row Go.Sx.encBool 1 hs v2 ks) : Fun Tryz.prog 3 [v0, v1, v2] hs (fun v' hs' => v' = .bool true ∧ hs = hs') := by
  refine Fun.enter 117 Tryz.func3 rfl Tryz.ntmps3 rfl ?_
  obtain ⟨a0, c0, hv0⟩ := hn.len
  subst hv0
  obtain ⟨a1, c1, hv1⟩ := hf.len
  subst hv1
  obtain ⟨a2, c2, hv2⟩ := hk.len
  subst hv2
  have hzero : (Value.agg Tryz.zeroCells31).cells.toList = (noughts 96).flatMap Go.Sx.encB := by kernel_rfl
  refine TT.seq (.region (.pures hT 1 rfl (.nil (.seq (.seq (.region (.call Tryz.call5 rfl rfl rfl rfl (law19_begun) ?_)))))))
  rintro v_16 hs_16 ⟨rfl, rfl⟩
  refine OT.pures hT 1 rfl (.nil (.seq (.seq (.seq (.region (.pures hT 2 rfl (.nil (.seq (.cond_false rfl (.skip (.seq (.seq (.region (.call Tryz.call7 rfl rfl rfl rfl (dev_New (n := 1410)) ?_))))))))))))))
  rintro v_20 hs_20 ⟨HD, rfl, hd⟩
  obtain ⟨bd, hpd⟩ := hd.ptr
  subst hpd
  refine OT.call Tryz.call6 rfl rfl rfl rfl (up_Make hd) ?_
  rintro v_21 hs_21 ⟨q, HC, HD1, rfl, rfl, hc⟩
  obtain ⟨bc, hq⟩ := hc.ptr
  subst hq
  refine OT.pures hT 5 rfl (.nil (.seq (.seq (.seq (.region (.pures hT 2 rfl (.nil (.seq (.cond_false rfl (.skip (.seq (.seq (.region (.alloc Tryz.zeroValue31 rfl rfl (fun b_10 => ?_)))))))))))))))
  refine OT.nil (.seq (.seq (.seq (.region (.pures hT 1 rfl (.nil (.seq (.block (.loop (ι := Nat × (List UInt8) × (Pages → Prop) × Pages × Chunk × Chunk) (fun j => (j.1) ≤ ns.length ∧ (j.1) ≤ 25 ∧ (j.2.1).length = 96 ∧ Firsts (j.2.2.2.1) (j.2.1) ∧ CoreAt (j.2.2.1) (j.2.2.2.1) (1 + 10 * (j.1)) True (.pointer (some ⟨bc, 0, none⟩)) (.pointer (some ⟨bd, 0, none⟩)) (j.2.2.2.2.1) (j.2.2.2.2.2)) (fun j => ns.length - (j.1)) (fun j => [(0, .slice a0 ns.length c0), (1, .slice a1 fs.length c1), (2, .slice a2 ks.length c2), (8, .pointer (some ⟨bc, 0, none⟩)), (10, .pointer (some ⟨b_10, 0, none⟩)), (11, .int .i64 ((j.1) : Nat))]) (fun j => [(b_10, blk ((j.2.1).flatMap Go.Sx.encB) 31 (0, 0))] :: (j.2.2.2.2.1) :: (j.2.2.2.2.2) :: hs) (0, noughts 96, (fun P => EqP P zeroP), zeroP, HC, HD1) ?_ (SubR.cons rfl (SubR.cons rfl (SubR.cons rfl (SubR.cons rfl (SubR.cons rfl (SubR.cons rfl (SubR.nil _))))))) (by rw [hzero]; exact sl) ?_)))))))))
  · dsimp only
    exact ⟨by omega, by omega, by simp [noughts], Firsts.zero, hc⟩
  rintro ⟨i, nb, Can, P, HC, HD⟩ hI
  dsimp only at hI
  obtain ⟨hi, hi25, hnb, hF, hc⟩ := hI
  show TT _ _ _ [(0, .slice a0 ns.length c0), (1, .slice a1 fs.length c1), (2, .slice a2 ks.length c2), (8, .pointer (some ⟨bc, 0, none⟩)), (10, .pointer (some ⟨b_10, 0, none⟩)), (11, .int .i64 (i : Nat))] ([(b_10, blk (nb.flatMap Go.Sx.encB) 31 (0, 0))] :: HC :: HD :: hs)
  refine TT.seq (.seq (.region (.pures hT 5 rfl (.split 30 rfl (fun g30 => ?_) (fun g30 => ?_)))))
  ·
    have g30 := of_decide_eq_true g30
    refine OT.pures hT 3 rfl (.nil (.seq (.cond rfl (fun c33 => ?_) (fun c33 => ?_))))
    ·
      have c33 := of_decide_eq_true c33
      obtain ⟨y, hyk⟩ := nth (l := ns) (i := i) (by omega)
      obtain ⟨hy0, hy1⟩ := hnr y (List.mem_of_getElem? hyk)
      have hyd : ns.getD i 0 = y := by rw [List.getD_eq_getElem?_getD, hyk]; rfl
      obtain ⟨hm1, hm2⟩ := modOf_eq (m := 96) (y := y) (by omega) hy0 hy1
      rw [← hyd] at hm1 hm2
      refine TT.skip (.seq (.seq (.block (.seq (.region (.pures hT 2 rfl (.index hT rfl rfl rfl rfl hn.there.there.there (by omega) hyk rfl (fun ad_38 hel_38 => ?_))))))))
      refine OT.load rfl rfl (hel_38.ld_one hT rfl rfl) rfl (.pures hT 4 rfl (.nil (.seq (.seq (.region (.pures hT 4 rfl (.reg 43 rfl (v := .int .i64 ((modOf 96 (ns.getD i 0)) : Nat)) (int_eq (by rw [← hyd]; exact hm1)) (.reg 12 rfl (v := .int .i64 ((modOf 96 (ns.getD i 0)) : Nat)) (int_eq (by rw [← hyd]; exact hm1)) (.reg 46 rfl (v := .int .u8 ((UInt8.ofNat (i + 1)).toNat : Int)) (int_eq (by rw [wrap_i64 (by omega) (by omega)]; exact byte_of (i + 1))) (.index_at hT rfl rfl rfl rfl (by omega) (by omega) rfl (.store hT rfl rfl rfl rfl pl rfl (by rw [length_bytes, hnb]; show 0 + (((modOf 96 (ns.getD i 0)) : Nat) : Int).toNat * 1 + 1 ≤ 96; omega) rfl (.inl (Nat.le_refl _)) (cs' := (nb.set (modOf 96 (ns.getD i 0)) (UInt8.ofNat (i + 1))).flatMap Go.Sx.encB) (bytes_set (k := (modOf 96 (ns.getD i 0))) (by omega) _ (by omega)) ?_)))))))))))
      refine OT.nil (.seq (.seq (.seq (.region (.pures hT 3 rfl (.index_at hT rfl rfl rfl rfl (by omega) (by omega) rfl (.load rfl rfl (Ld.one hT rfl hz (bytes_at (k := (modOf 96 (ns.getD i 0))) (c := (UInt8.ofNat (i + 1))) (List.getElem?_set_self (by omega)) (by omega))) rfl ?_)))))))
      refine OT.buildSlice (enc := Go.Sx.encB) (xs := [(UInt8.ofNat (i + 1))]) (xos := [.tmp 52]) el33 rfl rfl rfl rfl rfl (by simp [Value.cells]) (fun _ _ => rfl) rfl (by decide) rfl (fun v_53 H_53 ho_53 => ?_)
      refine OT.call Tryz.call9 rfl rfl rfl rfl (law9_Of ho_53.row (by simp)) ?_
      rintro v_54 hs_54 ⟨HB, rfl, hoB⟩
      obtain ⟨aB, cB, hvB⟩ := (hoB.row (hs := hs)).len
      subst hvB
      have hpl : (pageOf [(UInt8.ofNat (i + 1))]).length = 256 := pageOf_length (by simp)
      have hmp : mayPage ((modOf 96 (ns.getD i 0)) : Nat) := ⟨by omega, by omega⟩
      refine OT.build (cs := [.int .i64 ((modOf 96 (ns.getD i 0)) : Nat), .slice aB (pageOf [(UInt8.ofNat (i + 1))]).length cB]) hT rfl Tryz.zeroValue36 rfl rfl rfl rfl ?_
      refine OT.buildSlice (enc := encIm) (xs := [(⟨((modOf 96 (ns.getD i 0)) : Nat), .slice aB (pageOf [(UInt8.ofNat (i + 1))]).length cB, (pageOf [(UInt8.ofNat (i + 1))])⟩ : Im)]) (xos := [.tmp 55]) el37 rfl rfl rfl rfl rfl (by simp [Value.cells]) (fun _ _ => rfl) rfl (by decide) rfl (fun v_56 H_56 ho_56 => ?_)
      refine OT.call Tryz.call8 rfl rfl rfl rfl (Fun.weaken (hs' := HC :: HD :: H_56 :: HB :: [(b_10, blk ((nb.set (modOf 96 (ns.getD i 0)) (UInt8.ofNat (i + 1))).flatMap Go.Sx.encB) 31 (0, 0))] :: hs) sl (up_Apply hc (by omega) (ims_of ho_56.row (fun t ht => by
              rw [List.mem_singleton] at ht; subst ht
              exact ⟨hoB.row.there, hpl⟩) (by simp)) (one_may hmp hpl))) ?_
      rintro v_57 hs_57 ⟨e1, HC1, HD2, rfl, rfl, hres1⟩
      obtain ⟨rfl, hc1⟩ := up_ok hres1
      refine OT.pures hT 1 rfl (.nil (.seq (.cond_false rfl (.skip (.seq (.cut (ι := Chunk × Chunk) (fun j => CoreAt (fun P' => Can P' ∨ EqP P' (upd P ((modOf 96 (ns.getD i 0)) : Nat) (pageOf [(UInt8.ofNat (i + 1))]))) (upd P ((modOf 96 (ns.getD i 0)) : Nat) (pageOf [(UInt8.ofNat (i + 1))])) (1 + 10 * i + 3) True (.pointer (some ⟨bc, 0, none⟩)) (.pointer (some ⟨bd, 0, none⟩)) (j.1) (j.2)) (fun j => [(0, .slice a0 ns.length c0), (1, .slice a1 fs.length c1), (2, .slice a2 ks.length c2), (8, .pointer (some ⟨bc, 0, none⟩)), (10, .pointer (some ⟨b_10, 0, none⟩)), (11, .int .i64 (i : Nat))]) (fun j => [(b_10, blk ((nb.set (modOf 96 (ns.getD i 0)) (UInt8.ofNat (i + 1))).flatMap Go.Sx.encB) 31 (0, 0))] :: (j.1) :: (j.2) :: hs) ?_ ?_))))))
      ·
        refine TT.seq (.region (.pures hT 5 rfl (.split 63 rfl (fun g63 => ?_) (fun g63 => ?_))))
        ·
          have g63 := of_decide_eq_true g63
          obtain ⟨y2, hyk2⟩ := nth (l := fs) (i := i) (by omega)
          obtain ⟨hy20, hy21⟩ := hfr y2 (List.mem_of_getElem? hyk2)
          have hyd2 : fs.getD i 0 = y2 := by rw [List.getD_eq_getElem?_getD, hyk2]; rfl
          obtain ⟨hm3, hm4⟩ := modOf_eq (m := 96) (y := y2) (by omega) hy20 hy21
          rw [← hyd2] at hm3 hm4
          refine OT.pures hT 3 rfl (.index hT rfl rfl rfl rfl (hf.mono fun _ _ => Has.sel sl) (by omega) hyk2 rfl (fun ad_67 hel_67 => ?_))
          refine OT.load rfl rfl (hel_67.ld_one hT rfl rfl) rfl (.pures hT 3 rfl (.reg 71 rfl (v := .int .i64 ((modOf 96 (fs.getD i 0)) : Nat)) (int_eq (by rw [← hyd2]; exact hm3)) (.call Tryz.call10 rfl rfl rfl rfl (up_Flush hc1 (by omega) (no := ((modOf 96 (fs.getD i 0)) : Nat)) ⟨by omega, by omega⟩) ?_)))
          rintro v_72 hs_72 ⟨e2, HC2, HD3, rfl, rfl, hres2⟩
          obtain ⟨rfl, hc2⟩ := up_ok hres2
          refine OT.pures hT 2 rfl (.nil (.seq (.cond_false rfl (.skip (.cut (HC2, HD3) ?_ (SubR.cons rfl (SubR.cons rfl (SubR.cons rfl (SubR.cons rfl (SubR.cons rfl (SubR.cons rfl (SubR.nil _))))))) sl)))))
          · dsimp only
            exact hc2.mono (fun _ h => h) (by omega) id
        ·
          refine OT.pures hT 11 rfl (.nil (.seq (.cond_false rfl (.skip (.cut (HC1, HD2) ?_ (SubR.cons rfl (SubR.cons rfl (SubR.cons rfl (SubR.cons rfl (SubR.cons rfl (SubR.cons rfl (SubR.nil _))))))) sl)))))
          · dsimp only
            exact hc1.mono (fun _ h => h) (by omega) id
      ·
        rintro ⟨HC, HD⟩ hI
        dsimp only at hI
        have hc2 := hI
        show TT _ _ _ [(0, .slice a0 ns.length c0), (1, .slice a1 fs.length c1), (2, .slice a2 ks.length c2), (8, .pointer (some ⟨bc, 0, none⟩)), (10, .pointer (some ⟨b_10, 0, none⟩)), (11, .int .i64 (i : Nat))] ([(b_10, blk ((nb.set (modOf 96 (ns.getD i 0)) (UInt8.ofNat (i + 1))).flatMap Go.Sx.encB) 31 (0, 0))] :: HC :: HD :: hs)
        refine TT.seq (.region (.pures hT 5 rfl (.split 79 rfl (fun g79 => ?_) (fun g79 => ?_))))
        ·
          have g79 := of_decide_eq_true g79
          obtain ⟨y3, hyk3⟩ := nth (l := ks) (i := i) (by omega)
          refine OT.pures hT 2 rfl (.index hT rfl rfl rfl rfl hk.there.there.there (by omega) hyk3 rfl (fun ad_82 hel_82 => ?_))
          refine OT.load rfl rfl (hel_82.ld_one hT rfl rfl) rfl (.pures hT 2 rfl (.split 85 rfl (fun g85 => ?_) (fun g85 => ?_)))
          ·
            refine OT.pures hT 1 rfl (.call Tryz.call11 rfl rfl rfl rfl (Fun.weaken (hs' := HC :: HD :: [(b_10, blk ((nb.set (modOf 96 (ns.getD i 0)) (UInt8.ofNat (i + 1))).flatMap Go.Sx.encB) 31 (0, 0))] :: hs) sl (up_CheckC hc2 (by omega))) ?_)
            rintro v_87 hs_87 ⟨e4, HC4, HD4, rfl, rfl, hres4⟩
            obtain ⟨rfl, hc4⟩ := up_ok hres4
            refine OT.pures hT 2 rfl (.pures hT 1 rfl (.call Tryz.call12 rfl rfl rfl rfl (up_Dirty hc4) ?_))
            rintro v_91 hs_91 ⟨HI, rfl, hoI⟩
            obtain ⟨aI, cI, hvI⟩ := (hoI.row (hs := hs)).len
            subst hvI
            refine OT.pures hT 4 rfl (.nil (.seq (.cond_false rfl (.skip (.blk (.seq (.region (.pures hT 3 rfl (.nil (.loop (i + 1, nb.set (modOf 96 (ns.getD i 0)) (UInt8.ofNat (i + 1)), (fun P' => EqP P' (upd P ((modOf 96 (ns.getD i 0)) : Nat) (pageOf [(UInt8.ofNat (i + 1))]))), (upd P ((modOf 96 (ns.getD i 0)) : Nat) (pageOf [(UInt8.ofNat (i + 1))])), HC4, HD4) ?_ ?_ (SubR.cons rfl (SubR.cons rfl (SubR.cons rfl (SubR.cons rfl (SubR.cons rfl (SubR.cons' rfl (by (try dsimp only); exact (int_eq (by rw [wrap_i64 (by omega) (by omega)]; omega))) (SubR.nil _))))))) sl))))))))))
            · dsimp only
              exact ⟨by omega, by omega, by rw [List.length_set]; exact hnb, hF.set hnb (by omega) rfl, hc4.at.mono (fun _ h => h) (by omega) id⟩
            · dsimp only
              omega
          ·
            refine OT.pures hT 10 rfl (.nil (.seq (.cond_false rfl (.skip (.blk (.seq (.region (.pures hT 3 rfl (.nil (.loop (i + 1, nb.set (modOf 96 (ns.getD i 0)) (UInt8.ofNat (i + 1)), (fun P' => Can P' ∨ EqP P' (upd P ((modOf 96 (ns.getD i 0)) : Nat) (pageOf [(UInt8.ofNat (i + 1))]))), (upd P ((modOf 96 (ns.getD i 0)) : Nat) (pageOf [(UInt8.ofNat (i + 1))])), HC, HD) ?_ ?_ (SubR.cons rfl (SubR.cons rfl (SubR.cons rfl (SubR.cons rfl (SubR.cons rfl (SubR.cons' rfl (by (try dsimp only); exact (int_eq (by rw [wrap_i64 (by omega) (by omega)]; omega))) (SubR.nil _))))))) sl))))))))))
            · dsimp only
              exact ⟨by omega, by omega, by rw [List.length_set]; exact hnb, hF.set hnb (by omega) rfl, hc2.mono (fun _ h => h) (by omega) id⟩
            · dsimp only
              omega
        ·
          refine OT.pures hT 16 rfl (.nil (.seq (.cond_false rfl (.skip (.blk (.seq (.region (.pures hT 3 rfl (.nil (.loop (i + 1, nb.set (modOf 96 (ns.getD i 0)) (UInt8.ofNat (i + 1)), (fun P' => Can P' ∨ EqP P' (upd P ((modOf 96 (ns.getD i 0)) : Nat) (pageOf [(UInt8.ofNat (i + 1))]))), (upd P ((modOf 96 (ns.getD i 0)) : Nat) (pageOf [(UInt8.ofNat (i + 1))])), HC, HD) ?_ ?_ (SubR.cons rfl (SubR.cons rfl (SubR.cons rfl (SubR.cons rfl (SubR.cons rfl (SubR.cons' rfl (by (try dsimp only); exact (int_eq (by rw [wrap_i64 (by omega) (by omega)]; omega))) (SubR.nil _))))))) sl))))))))))
          · dsimp only
            exact ⟨by omega, by omega, by rw [List.length_set]; exact hnb, hF.set hnb (by omega) rfl, hc2.mono (fun _ h => h) (by omega) id⟩
          · dsimp only
            omega
    ·
      refine TT.exit (.seq (.loop (.here (.seq (.seq (.seq (.region (.pures hT 1 rfl (.nil (.seq (.block (.loop (ι := Nat × Chunk × Chunk) (fun j => (j.1) ≤ 96 ∧ CoreAt Can P (1000 + (j.1)) True (.pointer (some ⟨bc, 0, none⟩)) (.pointer (some ⟨bd, 0, none⟩)) (j.2.1) (j.2.2)) (fun j => 96 - (j.1)) (fun j => [(8, .pointer (some ⟨bc, 0, none⟩)), (10, .pointer (some ⟨b_10, 0, none⟩)), (13, .int .i64 ((j.1) : Nat))]) (fun j => [(b_10, blk (nb.flatMap Go.Sx.encB) 31 (0, 0))] :: (j.2.1) :: (j.2.2) :: hs) (0, HC, HD) ?_ (SubR.cons rfl (SubR.cons rfl (SubR.cons rfl (SubR.nil _)))) sl ?_))))))))))))
      · dsimp only
        exact ⟨by omega, hc.mono (fun _ h => h) (by omega) id⟩
      rintro ⟨k, HC, HD⟩ hI
      dsimp only at hI
      obtain ⟨hk96, hc⟩ := hI
      show TT _ _ _ [(8, .pointer (some ⟨bc, 0, none⟩)), (10, .pointer (some ⟨b_10, 0, none⟩)), (13, .int .i64 (k : Nat))] ([(b_10, blk (nb.flatMap Go.Sx.encB) 31 (0, 0))] :: HC :: HD :: hs)
      refine TT.seq (.seq (.region (.pures hT 2 rfl (.nil (.seq (.cond rfl (fun c97 => ?_) (fun c97 => ?_)))))))
      ·
        have c97 := of_decide_eq_true c97
        obtain ⟨z, hzz⟩ := nth (l := nb) (i := k) (by omega)
        have hPz : (P (k : Nat))[0]? = some z := by rw [hF k (by omega)]; exact hzz
        refine TT.skip (.seq (.seq (.block (.seq (.region (.pures hT 2 rfl (.call Tryz.call13 rfl rfl rfl rfl (Fun.weaken (hs' := HC :: HD :: [(b_10, blk (nb.flatMap Go.Sx.encB) 31 (0, 0))] :: hs) sl (up_Page hc (no := (k : Nat)) (by omega) ⟨by omega, by omega⟩)) ?_)))))))
        rintro v_103 hs_103 ⟨w5, e5, H5, HC5, HD5, rfl, rfl, hres5⟩
        obtain ⟨rfl, ho5, hc5⟩ := up_ok hres5
        obtain ⟨a5, c5, hv5⟩ := (ho5.row (hs := hs)).len
        subst hv5
        refine OT.pures hT 5 rfl (.nil (.seq (.seq (.draw (H5 :: HC5 :: HD5 :: [(b_10, blk (nb.flatMap Go.Sx.encB) 31 (0, 0))] :: hs) mixed (.takes (fuel := 8) hT [0, 1, 2] kr kr rfl (.takes (fuel := 6) hT [3, 6] kr kr rfl (.index (fuel := 5) hT 4 rfl kr kr kr rfl rfl rfl rfl ho5.row (by omega) hPz rfl (fun ad_110 hel_110 => ?_))))))))
        refine AT.take (fuel := 4) hT 5 rfl rfl kr kr kr rfl (.load rfl (hel_110.ld_one hT rfl rfl)) rfl (.index_at (fuel := 3) hT 7 rfl kr kr kr rfl rfl rfl rfl (by omega) (by omega) rfl (.take (fuel := 2) hT 8 rfl rfl kr kr kr rfl (.load rfl (Ld.one hT rfl hz (bytes_at (k := k) hzz (by omega)))) rfl ?_))
        refine AT.takes (fuel := 0) hT [9, 10] kr kr rfl (.done kr sl (.seq (.cond rfl (fun c116 => ?_) (fun c116 => ?_))))
        ·
          exact absurd c116 (by simp)
        ·
          refine TT.skip (.blk (.seq (.region (.pures hT 3 rfl (.nil (.loop (k + 1, HC5, HD5) ?_ ?_ (SubR.cons rfl (SubR.cons rfl (SubR.cons' rfl (by (try dsimp only); exact (int_eq (by rw [wrap_i64 (by omega) (by omega)]; omega))) (SubR.nil _)))) sl))))))
          · dsimp only
            exact ⟨by omega, hc5⟩
          · dsimp only
            omega
      ·
        refine TT.exit (.seq (.loop (.here (.seq (.seq (.region (.pures hT 1 rfl (.nil (.seq (.ret (.of (rs := [.tmp 6]) [_] hs rfl (.tmp rfl .nil) sl ?_)))))))))))
        dsimp only [one]
        exact ⟨rfl, rfl⟩
  ·
    have g30 := of_decide_eq_false g30
    refine OT.pures hT 3 rfl (.nil (.seq (.cond_false rfl (.exit (.seq (.loop (.here (.seq (.seq (.seq (.region (.pures hT 1 rfl (.nil (.seq (.block (.loop (ι := Nat × Chunk × Chunk) (fun j => (j.1) ≤ 96 ∧ CoreAt Can P (1000 + (j.1)) True (.pointer (some ⟨bc, 0, none⟩)) (.pointer (some ⟨bd, 0, none⟩)) (j.2.1) (j.2.2)) (fun j => 96 - (j.1)) (fun j => [(8, .pointer (some ⟨bc, 0, none⟩)), (10, .pointer (some ⟨b_10, 0, none⟩)), (13, .int .i64 ((j.1) : Nat))]) (fun j => [(b_10, blk (nb.flatMap Go.Sx.encB) 31 (0, 0))] :: (j.2.1) :: (j.2.2) :: hs) (0, HC, HD) ?_ (SubR.cons rfl (SubR.cons rfl (SubR.cons rfl (SubR.nil _)))) sl ?_))))))))))))))))
    · dsimp only
      exact ⟨by omega, hc.mono (fun _ h => h) (by omega) id⟩
    rintro ⟨k, HC, HD⟩ hI
    dsimp only at hI
    obtain ⟨hk96, hc⟩ := hI
    show TT _ _ _ [(8, .pointer (some ⟨bc, 0, none⟩)), (10, .pointer (some ⟨b_10, 0, none⟩)), (13, .int .i64 (k : Nat))] ([(b_10, blk (nb.flatMap Go.Sx.encB) 31 (0, 0))] :: HC :: HD :: hs)
    refine TT.seq (.seq (.region (.pures hT 2 rfl (.nil (.seq (.cond rfl (fun c97 => ?_) (fun c97 => ?_)))))))
    ·
      have c97 := of_decide_eq_true c97
      obtain ⟨z, hzz⟩ := nth (l := nb) (i := k) (by omega)
      have hPz : (P (k : Nat))[0]? = some z := by rw [hF k (by omega)]; exact hzz
      refine TT.skip (.seq (.seq (.block (.seq (.region (.pures hT 2 rfl (.call Tryz.call13 rfl rfl rfl rfl (Fun.weaken (hs' := HC :: HD :: [(b_10, blk (nb.flatMap Go.Sx.encB) 31 (0, 0))] :: hs) sl (up_Page hc (no := (k : Nat)) (by omega) ⟨by omega, by omega⟩)) ?_)))))))
      rintro v_103 hs_103 ⟨w5, e5, H5, HC5, HD5, rfl, rfl, hres5⟩
      obtain ⟨rfl, ho5, hc5⟩ := up_ok hres5
      obtain ⟨a5, c5, hv5⟩ := (ho5.row (hs := hs)).len
      subst hv5
      refine OT.pures hT 5 rfl (.nil (.seq (.seq (.draw (H5 :: HC5 :: HD5 :: [(b_10, blk (nb.flatMap Go.Sx.encB) 31 (0, 0))] :: hs) mixed (.takes (fuel := 8) hT [0, 1, 2] kr kr rfl (.takes (fuel := 6) hT [3, 6] kr kr rfl (.index (fuel := 5) hT 4 rfl kr kr kr rfl rfl rfl rfl ho5.row (by omega) hPz rfl (fun ad_110 hel_110 => ?_))))))))
      refine AT.take (fuel := 4) hT 5 rfl rfl kr kr kr rfl (.load rfl (hel_110.ld_one hT rfl rfl)) rfl (.index_at (fuel := 3) hT 7 rfl kr kr kr rfl rfl rfl rfl (by omega) (by omega) rfl (.take (fuel := 2) hT 8 rfl rfl kr kr kr rfl (.load rfl (Ld.one hT rfl hz (bytes_at (k := k) hzz (by omega)))) rfl ?_))
      refine AT.takes (fuel := 0) hT [9, 10] kr kr rfl (.done kr sl (.seq (.cond rfl (fun c116 => ?_) (fun c116 => ?_))))
      ·
        exact absurd c116 (by simp)
      ·
        refine TT.skip (.blk (.seq (.region (.pures hT 3 rfl (.nil (.loop (k + 1, HC5, HD5) ?_ ?_ (SubR.cons rfl (SubR.cons rfl (SubR.cons' rfl (by (try dsimp only); exact (int_eq (by rw [wrap_i64 (by omega) (by omega)]; omega))) (SubR.nil _)))) sl))))))
        · dsimp only
          exact ⟨by omega, hc5⟩
        · dsimp only
          omega
    ·
      refine TT.exit (.seq (.loop (.here (.seq (.seq (.region (.pures hT 1 rfl (.nil (.seq (.ret (.of (rs := [.tmp 6]) [_] hs rfl (.tmp rfl .nil) sl ?_)))))))))))
      dsimp only [one]
      exact ⟨rfl, rfl⟩

end Go.Proofs.YtoalhcodigpgkaaGreatDoor.Sx
end

section
namespace Go.Proofs.YtoalhcodigpgkaaGreatDoor.Sx
open Go Go.Sx Go.Pl
variable [Outer]

theorem up_ApplyAny {Can : Pages → Prop} {now : Pages} {n : Nat} {cm : Prop} {p pd : Value} {H HD : Chunk} {r : List Chunk} (h : CoreAt Can now n cm p pd H HD) (hn : n < 100000000000) {v : Value} {ts : List Im} (hi : ImsAt r v ts) : Fun Tryz.prog 8 [p, v] (H :: HD :: r) (fun v' hs' => ∃ e H' HD', hs' = H' :: HD' :: r ∧ v' = .int .i64 e ∧ ((e = 0 ∧ MayImgs (imgs ts) ∧ CoreAt (fun P => Can P ∨ EqP P (lay now (imgs ts))) (lay now (imgs ts)) (n + 2) cm p pd H' HD') ∨ (e = 1 ∧ ¬ MayImgs (imgs ts) ∧ CoreAt Can now n cm p pd H' HD') ∨ (e = 5 ∧ MayImgs (imgs ts) ∧ ¬ cm ∧ DownAt (fun P => Can P ∨ EqP P (lay now (imgs ts))) (n + 2) p pd H' HD'))) := by
  by_cases hm : MayImgs (imgs ts)
  · refine (up_Apply h hn hi hm).mono ?_
    rintro v' hs' ⟨e, H', HD', rfl, rfl, h1 | h1⟩
    · exact ⟨e, H', HD', rfl, rfl, .inl ⟨h1.1, hm, h1.2⟩⟩
    · exact ⟨e, H', HD', rfl, rfl, .inr (.inr ⟨h1.1, hm, h1.2⟩)⟩
  · refine (up_ApplyNo h hn hi hm).mono ?_
    rintro v' hs' ⟨H', HD', rfl, rfl, h1⟩
    exact ⟨1, H', HD', rfl, rfl, .inr (.inl ⟨rfl, hm, h1⟩)⟩

omit [Outer] in
/-- a core, up or down, by its history -/
structure SyAt (A : List Pages) (now : Pages) (n : Nat) (dn : Bool) (p pd : Value) (H HD : Chunk) : Prop where
  is : (dn = false ∧ CoreAt (canOf A) now n False p pd H HD) ∨ (dn = true ∧ DownAt (canOf A) n p pd H HD)

section
variable {A : List Pages} {now : Pages} {n n' : Nat} {dn : Bool} {p pd : Value} {H HD : Chunk} {r : List Chunk}

omit [Outer] in
theorem SyAt.dev (h : SyAt A now n dn p pd H HD) : DevAt (canOf A) n pd HD := by
  rcases h.is with ⟨_, h⟩ | ⟨_, h⟩
  · exact h.dev
  · exact h.dev

omit [Outer] in
theorem SyAt.mono (h : SyAt A now n dn p pd H HD) (hn : n ≤ n') : SyAt A now n' dn p pd H HD := by
  rcases h.is with ⟨h1, h⟩ | ⟨h1, h⟩
  · exact ⟨.inl ⟨h1, h.mono (fun _ h => h) hn id⟩⟩
  · exact ⟨.inr ⟨h1, h.mono (fun _ h => h) hn⟩⟩

theorem sy_Down (h : SyAt A now n dn p pd H HD) : Fun Tryz.prog 14 [p] (H :: r) (fun v' hs' => v' = .bool dn ∧ H :: r = hs') := by
  obtain ⟨⟨rfl, h⟩ | ⟨rfl, h⟩⟩ := h
  · exact up_Down h
  · exact dn_Down h

omit [Outer] in
/-- what a change tells -/
def ApR (A : List Pages) (now : Pages) (l : List Img) (n : Nat) (dn : Bool) (e : Int) (dn' : Bool) (p pd : Value) (H HD : Chunk) : Prop :=
  (e = 0 ∧ MayImgs l ∧ dn = false ∧ dn' = false ∧ SyAt (A ++ [lay now l]) (lay now l) (n + 2) dn' p pd H HD) ∨ (e = 1 ∧ ¬ MayImgs l ∧ dn = false ∧ dn' = false ∧ SyAt A now (n + 2) dn' p pd H HD) ∨
  (e = 5 ∧ MayImgs l ∧ dn = false ∧ dn' = true ∧ SyAt (A ++ [lay now l]) (lay now l) (n + 2) dn' p pd H HD) ∨ (e = 5 ∧ dn = true ∧ dn' = true ∧ SyAt A now (n + 2) dn' p pd H HD)

omit [Outer] in
theorem ApR.some {l : List Img} {e : Int} {dn' : Bool} (h : ApR A now l n dn e dn' p pd H HD) : ∃ A' P' m, SyAt A' P' m dn' p pd H HD := by
  rcases h with h | h | h | h
  · exact ⟨_, _, _, h.2.2.2.2⟩
  · exact ⟨_, _, _, h.2.2.2.2⟩
  · exact ⟨_, _, _, h.2.2.2.2⟩
  · exact ⟨_, _, _, h.2.2.2⟩

omit [Outer] in
theorem ApR.cmp {l : List Img} {e : Int} {dn' : Bool} (h : ApR A now l n dn e dn' p pd H HD) (hd : dn' = false) : e = 0 ↔ MayImgs l := by
  subst hd
  rcases h with h | h | h | h
  · exact ⟨fun _ => h.2.1, fun _ => h.1⟩
  · exact ⟨fun x => by have := h.1; omega, fun x => absurd x h.2.1⟩
  · cases h.2.2.2.1
  · cases h.2.2.1

omit [Outer] in
theorem ApR.one {l : List Img} {e : Int} {dn' : Bool} (h : ApR A now l n dn e dn' p pd H HD) (h0 : e ≠ 0) (h5 : e ≠ 5) : e = 1 ∧ ¬ MayImgs l := by
  rcases h with h | h | h | h
  · exact absurd h.1 h0
  · exact ⟨h.1, h.2.1⟩
  · exact absurd h.1 h5
  · exact absurd h.1 h5

omit [Outer] in
theorem ApR.five {l : List Img} {e : Int} {dn' : Bool} (h : ApR A now l n dn e dn' p pd H HD) (hd : dn' = true) : e = 5 := by
  subst hd
  rcases h with h | h | h | h
  · cases h.2.2.2.1
  · cases h.2.2.2.1
  · exact h.1
  · exact h.1

omit [Outer] in
theorem ApR.more {l : List Img} {e : Int} {dn' : Bool} (h : ApR A now l n dn e dn' p pd H HD) (h1 : MayImgs l) (h2 : dn = false ∨ e = 0) : SyAt (A ++ [lay now l]) (lay now l) (n + 2) dn' p pd H HD := by
  rcases h with h | h | h | h
  · exact h.2.2.2.2
  · exact absurd h1 h.2.1
  · exact h.2.2.2.2
  · rcases h2 with h2 | h2
    · rw [h.2.1] at h2; cases h2
    · have := h.1; omega

omit [Outer] in
theorem ApR.same {l : List Img} {e : Int} {dn' : Bool} (h : ApR A now l n dn e dn' p pd H HD) (h1 : ¬ MayImgs l ∨ dn = true) : SyAt A now (n + 2) dn' p pd H HD := by
  rcases h with h | h | h | h
  · rcases h1 with h1 | h1
    · exact absurd h.2.1 h1
    · rw [h.2.2.1] at h1; cases h1
  · exact h.2.2.2.2
  · rcases h1 with h1 | h1
    · exact absurd h.2.1 h1
    · rw [h.2.2.1] at h1; cases h1
  · exact h.2.2.2

theorem dn_Apply (h : DownAt (canOf A) n p pd H HD) {v : Value} {ts : List Im} (hi : ImsAt r v ts) : Fun Tryz.prog 8 [p, v] (H :: HD :: r) (fun v' hs' => ∃ H' HD', hs' = H' :: HD' :: r ∧ v' = .int .i64 5 ∧ DownAt (canOf A) n p pd H' HD') := by
  obtain ⟨c, h1, h2, h3, h4, h5⟩ := h.is
  refine (core_Apply h1 h2 (fun x => by rw [h3] at x; cases x) (fun x => by rw [h3] at x; cases x) hi).mono ?_
  rintro v' hs' ⟨H', HD', rfl, rfl, k2, k3⟩
  have hw : c.apply (imgs ts) = (5, c) := by unfold Cor.apply; rw [if_pos h3]
  rw [hw] at k2 k3 ⊢
  exact ⟨H', HD', rfl, rfl, ⟨c, k2, k3, h3, h4, h5⟩⟩

theorem dn_Force (h : DownAt (canOf A) n p pd H HD) : Fun Tryz.prog 18 [p] (H :: HD :: r) (fun v' hs' => ∃ H' HD', hs' = H' :: HD' :: r ∧ v' = .int .i64 5 ∧ DownAt (canOf A) n p pd H' HD') := by
  obtain ⟨c, h1, h2, h3, h4, h5⟩ := h.is
  refine (core_Force h1 h2 (fun x => by rw [h3] at x; cases x)).mono ?_
  rintro v' hs' ⟨H', HD', rfl, rfl, k2, k3⟩
  have hw : c.force = (5, c) := by unfold Cor.force; rw [if_pos h3]
  rw [hw] at k2 k3 ⊢
  exact ⟨H', HD', rfl, rfl, ⟨c, k2, k3, h3, h4, h5⟩⟩

theorem dn_Check (h : DownAt (canOf A) n p pd H HD) : Fun Tryz.prog 11 [p] (H :: HD :: r) (fun v' hs' => ∃ H' HD', hs' = H' :: HD' :: r ∧ v' = .int .i64 5 ∧ DownAt (canOf A) n p pd H' HD') := by
  obtain ⟨c, h1, h2, h3, h4, h5⟩ := h.is
  refine (core_Check h1 h2 (fun x => by rw [h3] at x; cases x) (fun x => by rw [h3] at x; cases x)).mono ?_
  rintro v' hs' ⟨H', HD', rfl, rfl, k2, k3⟩
  have hw : c.check = (5, c) := by unfold Cor.check; rw [if_pos h3]
  rw [hw] at k2 k3 ⊢
  exact ⟨H', HD', rfl, rfl, ⟨c, k2, k3, h3, h4, h5⟩⟩

theorem dn_Flush (h : DownAt (canOf A) n p pd H HD) {no : Int} : Fun Tryz.prog 10 [p, .int .i64 no] (H :: HD :: r) (fun v' hs' => ∃ H' HD', hs' = H' :: HD' :: r ∧ v' = .int .i64 5 ∧ DownAt (canOf A) n p pd H' HD') := by
  obtain ⟨c, h1, h2, h3, h4, h5⟩ := h.is
  refine (core_Flush h1 h2 (fun x => by rw [h3] at x; cases x) (no := no)).mono ?_
  rintro v' hs' ⟨H', HD', rfl, rfl, k2, k3⟩
  have hw : (c.flush no) = (5, c) := by unfold Cor.flush; rw [if_pos h3]
  rw [hw] at k2 k3 ⊢
  exact ⟨H', HD', rfl, rfl, ⟨c, k2, k3, h3, h4, h5⟩⟩

theorem sy_Apply (h : SyAt A now n dn p pd H HD) (hn : n < 100000000000) {v : Value} {ts : List Im} (hi : ImsAt r v ts) : Fun Tryz.prog 8 [p, v] (H :: HD :: r) (fun v' hs' => ∃ e dn' H' HD', hs' = H' :: HD' :: r ∧ v' = .int .i64 e ∧ ApR A now (imgs ts) n dn e dn' p pd H' HD') := by
  obtain ⟨⟨rfl, h⟩ | ⟨rfl, h⟩⟩ := h
  · refine (up_ApplyAny h hn hi).mono ?_
    rintro v' hs' ⟨e, H', HD', rfl, rfl, h1 | h1 | h1⟩
    · exact ⟨e, false, H', HD', rfl, rfl, .inl ⟨h1.1, h1.2.1, rfl, rfl, ⟨.inl ⟨rfl, h1.2.2.mono (fun _ => canOf_snoc.1) (Nat.le_refl _) id⟩⟩⟩⟩
    · exact ⟨e, false, H', HD', rfl, rfl, .inr (.inl ⟨h1.1, h1.2.1, rfl, rfl, ⟨.inl ⟨rfl, h1.2.2.mono (fun _ h => h) (by omega) id⟩⟩⟩)⟩
    · exact ⟨e, true, H', HD', rfl, rfl, .inr (.inr (.inl ⟨h1.1, h1.2.1, rfl, rfl, ⟨.inr ⟨rfl, h1.2.2.2.mono (fun _ => canOf_snoc.1) (Nat.le_refl _)⟩⟩⟩))⟩
  · refine (dn_Apply h hi).mono ?_
    rintro v' hs' ⟨H', HD', rfl, rfl, h1⟩
    exact ⟨5, true, H', HD', rfl, rfl, .inr (.inr (.inr ⟨rfl, rfl, rfl, ⟨.inr ⟨rfl, h1.mono (fun _ h => h) (by omega)⟩⟩⟩))⟩

omit [Outer] in
/-- what a force tells, or a check -/
def FcR (A : List Pages) (now : Pages) (n : Nat) (e : Int) (dn' : Bool) (cl : Prop) (p pd : Value) (H HD : Chunk) : Prop :=
  (e = 0 ∧ dn' = false ∧ SyAt [now] now (n + 1) dn' p pd H HD ∧ (cl → CleanAt (canOf [now]) now (n + 1) False p pd H HD)) ∨ (e = 5 ∧ dn' = true ∧ SyAt A now (n + 1) dn' p pd H HD)

omit [Outer] in
theorem CleanAt.mono {Can Can' : Pages → Prop} {cm : Prop} (h : CleanAt Can now n cm p pd H HD) (hc : ∀ P, Can P → Can' P) : CleanAt Can' now n cm p pd H HD := by
  obtain ⟨c, h1, h2, h3, h4, h5⟩ := h.is; exact ⟨c, h1, h2, h3.mono hc (Nat.le_refl _), h4, h5⟩

theorem sy_Force (h : SyAt A now n dn p pd H HD) (hn : n ≤ 100000000000) : Fun Tryz.prog 18 [p] (H :: HD :: r) (fun v' hs' => ∃ e dn' H' HD', hs' = H' :: HD' :: r ∧ v' = .int .i64 e ∧ FcR A now n e dn' False p pd H' HD') := by
  obtain ⟨⟨rfl, h⟩ | ⟨rfl, h⟩⟩ := h
  · refine (up_Force h hn).mono ?_
    rintro v' hs' ⟨e, H', HD', rfl, rfl, h1 | h1⟩
    · exact ⟨e, false, H', HD', rfl, rfl, .inl ⟨h1.1, rfl, ⟨.inl ⟨rfl, h1.2.mono (fun _ => canOf_one.2) (Nat.le_refl _) id⟩⟩, False.elim⟩⟩
    · exact ⟨e, true, H', HD', rfl, rfl, .inr ⟨h1.1, rfl, ⟨.inr ⟨rfl, h1.2.2⟩⟩⟩⟩
  · refine (dn_Force h).mono ?_
    rintro v' hs' ⟨H', HD', rfl, rfl, h1⟩
    exact ⟨5, true, H', HD', rfl, rfl, .inr ⟨rfl, rfl, ⟨.inr ⟨rfl, h1.mono (fun _ h => h) (by omega)⟩⟩⟩⟩

theorem sy_Check (h : SyAt A now n dn p pd H HD) (hn : n ≤ 100000000000) : Fun Tryz.prog 11 [p] (H :: HD :: r) (fun v' hs' => ∃ e dn' H' HD', hs' = H' :: HD' :: r ∧ v' = .int .i64 e ∧ FcR A now n e dn' True p pd H' HD') := by
  obtain ⟨⟨rfl, h⟩ | ⟨rfl, h⟩⟩ := h
  · refine (up_CheckC h hn).mono ?_
    rintro v' hs' ⟨e, H', HD', rfl, rfl, h1 | h1⟩
    · exact ⟨e, false, H', HD', rfl, rfl, .inl ⟨h1.1, rfl, ⟨.inl ⟨rfl, h1.2.at.mono (fun _ => canOf_one.2) (Nat.le_refl _) id⟩⟩, fun _ => h1.2.mono fun _ => canOf_one.2⟩⟩
    · exact ⟨e, true, H', HD', rfl, rfl, .inr ⟨h1.1, rfl, ⟨.inr ⟨rfl, h1.2.2⟩⟩⟩⟩
  · refine (dn_Check h).mono ?_
    rintro v' hs' ⟨H', HD', rfl, rfl, h1⟩
    exact ⟨5, true, H', HD', rfl, rfl, .inr ⟨rfl, rfl, ⟨.inr ⟨rfl, h1.mono (fun _ h => h) (by omega)⟩⟩⟩⟩

theorem sy_Flush (h : SyAt A now n dn p pd H HD) (hn : n ≤ 100000000000) {no : Int} : Fun Tryz.prog 10 [p, .int .i64 no] (H :: HD :: r) (fun v' hs' => ∃ e dn' H' HD', hs' = H' :: HD' :: r ∧ v' = .int .i64 e ∧ ((dn' = false → (e = 0 ↔ mayPage no)) ∧ (dn' = true → e = 5) ∧ SyAt A now (n + 1) dn' p pd H' HD')) := by
  obtain ⟨⟨rfl, h⟩ | ⟨rfl, h⟩⟩ := h
  · by_cases hm : mayPage no
    · refine (up_Flush h hn hm).mono ?_
      rintro v' hs' ⟨e, H', HD', rfl, rfl, h1 | h1⟩
      · exact ⟨e, false, H', HD', rfl, rfl, ⟨fun _ => ⟨fun _ => hm, fun _ => h1.1⟩, fun x => (by cases x), ⟨.inl ⟨rfl, h1.2⟩⟩⟩⟩
      · exact ⟨e, true, H', HD', rfl, rfl, ⟨fun x => (by cases x), fun _ => h1.1, ⟨.inr ⟨rfl, h1.2.2⟩⟩⟩⟩
    · refine (up_FlushNo h hn hm).mono ?_
      rintro v' hs' ⟨H', HD', rfl, rfl, h1⟩
      exact ⟨3, false, H', HD', rfl, rfl, ⟨fun _ => ⟨fun x => by omega, fun x => absurd x hm⟩, fun x => (by cases x), ⟨.inl ⟨rfl, h1.mono (fun _ h => h) (by omega) id⟩⟩⟩⟩
  · refine (dn_Flush h).mono ?_
    rintro v' hs' ⟨H', HD', rfl, rfl, h1⟩
    exact ⟨5, true, H', HD', rfl, rfl, ⟨fun x => (by cases x), fun _ => rfl, ⟨.inr ⟨rfl, h1.mono (fun _ h => h) (by omega)⟩⟩⟩⟩

theorem sy_Fuse (h : SyAt A now n dn p pd H HD) {f : Int} (hf : f ≤ 9223372036854775807) : Fun Tryz.prog 19 [pd, .int .i64 f] (HD :: r) (fun v' hs' => ∃ HD', hs' = HD' :: r ∧ v' = .tuple ⟨[]⟩ ∧ SyAt A now n dn p pd H HD') := by
  obtain ⟨⟨rfl, h⟩ | ⟨rfl, h⟩⟩ := h
  · refine (up_Fuse h hf).mono ?_
    rintro v' hs' ⟨HD', rfl, rfl, h1⟩
    exact ⟨HD', rfl, rfl, ⟨.inl ⟨rfl, h1⟩⟩⟩
  · refine (dn_Fuse h hf).mono ?_
    rintro v' hs' ⟨HD', rfl, rfl, h1⟩
    exact ⟨HD', rfl, rfl, ⟨.inr ⟨rfl, h1⟩⟩⟩

end

set_option maxHeartbeats 16000000 in
set_option maxRecDepth 100000 in
theorem law_CoreAll {v : Value} {os : List COp} {hs : List Chunk} (hy : Row encCOp 4 hs v os) (hyl : os.length ≤ 9223372036854775807) (hyo : ∀ o ∈ os, COpAt hs o) : Fun Tryz.prog 4 [v] hs (fun v' hs' => v' = .bool true ∧ hs = hs') := by
  refine Fun.enter 241 Tryz.func4 rfl Tryz.ntmps4 rfl ?_
  obtain ⟨a0, c0, hv0⟩ := hy.len
  subst hv0
  refine TT.seq (.region (.pures hT 1 rfl (.nil (.seq (.seq (.region (.call Tryz.call5 rfl rfl rfl rfl (law19_begun) ?_)))))))
  rintro v_19 hs_19 ⟨rfl, rfl⟩
  refine OT.pures hT 1 rfl (.nil (.seq (.seq (.seq (.region (.pures hT 2 rfl (.nil (.seq (.cond_false rfl (.skip (.seq (.seq (.region (.call Tryz.call7 rfl rfl rfl rfl (dev_New (n := 1410)) ?_))))))))))))))
  rintro v_22 hs_22 ⟨HD, rfl, hd⟩
  obtain ⟨bd, hpd⟩ := hd.ptr
  subst hpd
  refine OT.pures hT 1 rfl (.nil (.seq (.seq (.region (.pures hT 1 rfl (.call Tryz.call6 rfl rfl rfl rfl (up_Make hd) ?_))))))
  rintro v_25 hs_25 ⟨q, HC, HD1, rfl, rfl, hc⟩
  obtain ⟨bc, hq⟩ := hc.ptr
  subst hq
  refine OT.pures hT 5 rfl (.nil (.seq (.seq (.seq (.region (.pures hT 2 rfl (.nil (.seq (.cond_false rfl (.skip (.seq (.seq (.region (.alloc Tryz.zeroValue46 rfl rfl (fun b_7 => ?_)))))))))))))))
  refine OT.nil (.seq (.seq (.seq (.region (.pures hT 1 rfl (.nil (.seq (.block (.loop (ι := Nat × (List Value)) (fun j => (j.1) ≤ 96 ∧ (j.2).length = 96 ∧ ∀ k, k < (j.1) → (j.2)[k]? = some (.string (txt (noughts 256)))) (fun j => 96 - (j.1)) (fun j => [(0, .slice a0 os.length c0), (4, .pointer (some ⟨bd, 0, none⟩)), (5, .pointer (some ⟨bc, 0, none⟩)), (7, .pointer (some ⟨b_7, 0, none⟩)), (8, .int .i64 ((j.1) : Nat))]) (fun j => [(b_7, blk (j.2) 46 (0, 0))] :: HC :: HD1 :: hs) (0, _) ?_ (SubR.cons rfl (SubR.cons rfl (SubR.cons rfl (SubR.cons rfl (SubR.cons rfl (SubR.nil _)))))) sl ?_)))))))))
  · dsimp only
    exact ⟨by omega, by kernel_rfl, fun k hk => by omega⟩
  rintro ⟨i, cs⟩ hI
  dsimp only at hI
  obtain ⟨hi, hcl, hcs⟩ := hI
  show TT _ _ _ [(0, .slice a0 os.length c0), (4, .pointer (some ⟨bd, 0, none⟩)), (5, .pointer (some ⟨bc, 0, none⟩)), (7, .pointer (some ⟨b_7, 0, none⟩)), (8, .int .i64 (i : Nat))] ([(b_7, blk cs 46 (0, 0))] :: HC :: HD1 :: hs)
  refine TT.seq (.seq (.region (.pures hT 2 rfl (.nil (.seq (.cond rfl (fun c31 => ?_) (fun c31 => ?_)))))))
  ·
    have c31 := of_decide_eq_true c31
    refine TT.skip (.seq (.seq (.block (.region (.pures hT 1 rfl ?_)))))
    refine OT.make (enc := Go.Sx.encB) (z0 := (0 : UInt8)) (n := 256) el33 Tryz.zeroValue5 rfl rfl rfl rfl rfl (by decide) rfl (fun v_35 H_35 ho_35 => ?_)
    refine OT.conv_bs (fun _ => rfl) hT rfl rfl rfl rfl rfl ho_35.row rfl (.index_at hT rfl rfl rfl rfl (by omega) (by omega) rfl (.store hT rfl rfl rfl rfl pl rfl (by rw [hcl]; show 0 + ((i : Nat) : Int).toNat * 1 + 1 ≤ 96; omega) rfl (.inl (Nat.le_refl _)) (cs' := cs.set i (.string (txt (noughts 256)))) (splice_at (by omega) _ (by omega)) ?_))
    refine OT.nil (.blk (.seq (.region (.pures hT 3 rfl (.nil (.loop (i + 1, cs.set i (.string (txt (noughts 256)))) ?_ ?_ (SubR.cons rfl (SubR.cons rfl (SubR.cons rfl (SubR.cons rfl (SubR.cons' rfl (by (try dsimp only); exact (int_eq (by rw [wrap_i64 (by omega) (by omega)]; omega))) (SubR.nil _)))))) sl))))))
    · dsimp only
      refine ⟨by omega, by rw [List.length_set]; exact hcl, fun k hk => ?_⟩
      by_cases he : k = i
      · subst he; rw [List.getElem?_set_self (by omega)]
      · rw [List.getElem?_set_ne (by omega)]; exact hcs k (by omega)
    · dsimp only
      omega
  ·
    have c31 := of_decide_eq_false c31
    obtain rfl : i = 96 := by omega
    obtain rfl : cs = strsOf zeroP := strsOf_all hcl (fun k hk => hcs k hk)
    refine TT.exit (.seq (.loop (.here (.seq (.seq (.region (.load rfl rfl (Ld.arr_all hT rfl hz (by exact strsOf_length _)) rfl ?_)))))))
    refine OT.buildSlice (enc := strsOf) (xs := [zeroP]) (xos := [.tmp 38]) el47 rfl rfl rfl rfl rfl (by simp [Value.cells, strsOf_length]) (fun _ _ => strsOf_length _) rfl (by decide) rfl (fun v_39 H_39 ho_39 => ?_)
    refine OT.pures hT 1 rfl (.nil (.seq (.seq (.seq (.region (.pures hT 1 rfl (.nil (.seq (.block (.loop (ι := Nat × (List Pages) × Pages × Bool × Nat × Nat × Value × Chunk × Chunk × Chunk) (fun j => (j.1) ≤ os.length ∧ (j.1) ≤ 30 ∧ (j.2.1).length ≤ (j.1) + 1 ∧ (j.2.1).getLast? = some (j.2.2.1) ∧ Own strsOf 96 46 ((j.2.2.2.2.2.2.1)) (j.2.1) (j.2.2.2.2.2.2.2.1) ∧ SyAt (j.2.1) (j.2.2.1) (1 + 5000 * (j.1)) (j.2.2.2.1) (.pointer (some ⟨(j.2.2.2.2.1), 0, none⟩)) (.pointer (some ⟨(j.2.2.2.2.2.1), 0, none⟩)) (j.2.2.2.2.2.2.2.2.1) (j.2.2.2.2.2.2.2.2.2)) (fun j => os.length - (j.1)) (fun j => [(0, .slice a0 os.length c0), (4, .pointer (some ⟨(j.2.2.2.2.2.1), 0, none⟩)), (5, .pointer (some ⟨(j.2.2.2.2.1), 0, none⟩)), (9, (j.2.2.2.2.2.2.1)), (10, .int .i64 ((j.1) : Nat))]) (fun j => (j.2.2.2.2.2.2.2.1) :: (j.2.2.2.2.2.2.2.2.1) :: (j.2.2.2.2.2.2.2.2.2) :: hs) (0, [zeroP], zeroP, false, bc, bd, v_39, H_39, HC, HD1) ?_ (SubR.cons rfl (SubR.cons rfl (SubR.cons rfl (SubR.cons rfl (SubR.cons rfl (SubR.nil _)))))) sl ?_))))))))))
    · dsimp only
      exact ⟨by omega, by omega, by simp, rfl, ho_39, ⟨.inl ⟨rfl, hc.mono (fun _ h => canOf_one.2 h) (by omega) (fun _ => trivial)⟩⟩⟩
    rintro ⟨i, A, now, dn, bc, bd, w, K, HC, HD⟩ hI
    dsimp only at hI
    obtain ⟨hi, hi30, hAl, hlast, hO, hsy⟩ := hI
    show TT _ _ _ [(0, .slice a0 os.length c0), (4, .pointer (some ⟨bd, 0, none⟩)), (5, .pointer (some ⟨bc, 0, none⟩)), (9, w), (10, .int .i64 (i : Nat))] (K :: HC :: HD :: hs)
    obtain ⟨a9, c9, hw⟩ := (hO.row (hs := hs)).len
    subst hw
    obtain ⟨hlat, hApos⟩ := last_at hlast
    refine TT.seq (.seq (.region (.pures hT 5 rfl (.split 44 rfl (fun g44 => ?_) (fun g44 => ?_)))))
    ·
      have g44 := of_decide_eq_true g44
      refine OT.pures hT 3 rfl (.nil (.seq (.cond rfl (fun c47 => ?_) (fun c47 => ?_))))
      ·
        have c47 := of_decide_eq_true c47
        obtain ⟨o, ho⟩ := nth (l := os) (i := i) (by omega)
        have hco := hyo o (List.mem_of_getElem? ho)
        obtain ⟨av, cv, hvv⟩ := hco.raws.row.len
        obtain ⟨ak, ck, hvk⟩ := hco.keep.len
        refine TT.skip (.seq (.seq (.block (.seq (.region (.pures hT 2 rfl (.index hT rfl rfl rfl rfl hy.there.there.there (by omega) ho rfl (fun ad_52 hel_52 => ?_))))))))
        refine OT.load rfl rfl (hel_52.ld_struct hT rfl) rfl (.alloc Tryz.zeroValue50 rfl rfl (fun b_11 => ?_))
        refine OT.store_all hT rfl rfl rfl rfl pl rfl rfl (by show ones (encCOp o) = true; unfold encCOp; rw [hvv, hvk]; rfl) (.inl (Nat.le_refl _)) ?_
        dsimp only [Value.cells]
        refine OT.nil (.seq (.seq (.region (.pures hT 1 rfl (.nil (.seq (.seq (.region (.pures hT 1 rfl (.call Tryz.call14 rfl rfl rfl rfl (Fun.weaken (hs' := HC :: HD :: [(b_11, blk (encCOp o) 50 (0, 0))] :: K :: hs) sl (sy_Down hsy)) ?_))))))))))
        rintro v_55 hs_55 ⟨rfl, rfl⟩
        refine OT.pures hT 1 rfl (.nil (.seq (.cut (ι := (List Pages) × Pages × Bool × Int × Nat × Nat × Value × Chunk × Chunk × Chunk) (fun j => (j.1).length ≤ i + 2 ∧ (j.1).getLast? = some (j.2.1) ∧ Own strsOf 96 46 ((j.2.2.2.2.2.2.1)) (j.1) (j.2.2.2.2.2.2.2.1) ∧ SyAt (j.1) (j.2.1) (1 + 5000 * i + 4000) (j.2.2.1) (.pointer (some ⟨(j.2.2.2.2.1), 0, none⟩)) (.pointer (some ⟨(j.2.2.2.2.2.1), 0, none⟩)) (j.2.2.2.2.2.2.2.2.1) (j.2.2.2.2.2.2.2.2.2) ∧ ((j.2.2.1) = true → 0 ≤ o.kind → o.kind < 4 → (j.2.2.2.1) = 5)) (fun j => [(0, .slice a0 os.length c0), (4, .pointer (some ⟨(j.2.2.2.2.2.1), 0, none⟩)), (5, .pointer (some ⟨(j.2.2.2.2.1), 0, none⟩)), (9, (j.2.2.2.2.2.2.1)), (10, .int .i64 (i : Nat)), (11, .pointer (some ⟨b_11, 0, none⟩)), (12, .int .i64 (j.2.2.2.1))]) (fun j => [(b_11, blk (encCOp o) 50 (0, 0))] :: (j.2.2.2.2.2.2.2.1) :: (j.2.2.2.2.2.2.2.2.1) :: (j.2.2.2.2.2.2.2.2.2) :: hs) ?_ ?_)))
        ·
          refine TT.seq (.region (.pures hT 1 rfl (.load rfl rfl (Ld.one hT rfl hz rfl) rfl ?_)))
          refine OT.nil (.seq (.block (.seq (.region (.pures hT 2 rfl (.nil (.seq (.cond rfl (fun c94 => ?_) (fun c94 => ?_)))))))))
          ·
            have c94 := of_decide_eq_true c94
            refine TT.seq (.region (.pures hT 1 rfl (.load rfl rfl (Ld.slc hT rfl hz rfl) rfl ?_)))
            refine OT.call Tryz.call15 rfl rfl rfl rfl (law16_Images (n := 5) hco.raws (fun _ _ => Has.sel sl) (by omega)) ?_
            rintro v_98 hs_98 ⟨KI, EI, rfl, hM⟩
            obtain ⟨us, hus, hAt⟩ := hM.ims (rawImgs_few _ (by omega)) (rawImgs_short _ _)
            obtain ⟨aI, cI, hvI⟩ := hAt.row.len
            subst hvI
            refine OT.pures hT 1 rfl (.nil (.seq (.seq (.region (.pures hT 2 rfl (.call Tryz.call8 rfl rfl rfl rfl (Fun.weaken (hs' := HC :: HD :: KI :: EI :: [(b_11, blk (encCOp o) 50 (0, 0))] :: K :: hs) sl (sy_Apply hsy (by omega) (hAt.mono fun _ _ => Has.sel sl))) ?_))))))
            rintro v_101 hs_101 ⟨e1, dn1, HC1, HD2, rfl, rfl, hap⟩
            obtain ⟨A1, P1, n1, hs1⟩ := hap.some
            refine OT.pures hT 1 rfl (.nil (.seq (.seq (.region (.pures hT 1 rfl (.call Tryz.call16 rfl rfl rfl rfl (ref_MayImages (hAt.mono fun _ _ => Has.sel sl)) ?_))))))
            rintro v_103 hs_103 ⟨rfl, rfl⟩
            refine OT.pures hT 1 rfl (.nil (.seq (.cut (ι := Unit) (fun j => True) (fun j => [(0, .slice a0 os.length c0), (4, .pointer (some ⟨bd, 0, none⟩)), (5, .pointer (some ⟨bc, 0, none⟩)), (9, .slice a9 A.length c9), (10, .int .i64 (i : Nat)), (11, .pointer (some ⟨b_11, 0, none⟩)), (12, .int .i64 e1), (13, .bool dn), (14, .slice aI us.length cI), (15, .bool (decide (MayImgs (imgs us))))]) (fun j => HC1 :: HD2 :: KI :: EI :: [(b_11, blk (encCOp o) 50 (0, 0))] :: K :: hs) ?_ ?_)))
            ·
              refine TT.seq (.region (.pures hT 1 rfl (.call Tryz.call14 rfl rfl rfl rfl (sy_Down hs1) ?_)))
              rintro v_105 hs_105 ⟨rfl, rfl⟩
              refine OT.pures hT 2 rfl (.split 107 rfl (fun g107 => ?_) (fun g107 => ?_))
              ·
                have g107 : dn1 = false := by simpa using g107
                refine OT.pures hT 6 rfl (.split 113 rfl (fun g113 => ?_) (fun g113 => ?_))
                ·
                  exact absurd g113 (by have := hap.cmp g107; by_cases hm : MayImgs (imgs us) <;> simp [hm, this])
                ·
                  refine OT.pures hT 3 rfl (.split 116 rfl (fun g116 => ?_) (fun g116 => ?_))
                  ·
                    have g116 : e1 ≠ 0 := by simpa using g116
                    refine OT.pures hT 4 rfl (.split 120 rfl (fun g120 => ?_) (fun g120 => ?_))
                    ·
                      have g120 : e1 ≠ 5 := by simpa using g120
                      obtain ⟨he1, hnm⟩ := hap.one g116 g120
                      refine OT.pures hT 2 rfl (.split 122 rfl (fun g122 => ?_) (fun g122 => ?_))
                      ·
                        exact absurd (of_decide_eq_true g122) hnm
                      ·
                        refine OT.pures hT 5 rfl (.nil (.seq (.cond rfl (fun c127 => ?_) (fun c127 => ?_))))
                        ·
                          exact absurd c127 (by simp [he1])
                        ·
                          refine TT.skip (.cut (()) ?_ (SubR.cons rfl (SubR.cons rfl (SubR.cons rfl (SubR.cons rfl (SubR.cons rfl (SubR.cons rfl (SubR.cons rfl (SubR.cons rfl (SubR.cons rfl (SubR.cons rfl (SubR.nil _))))))))))) sl)
                          · trivial
                    ·
                      refine OT.pures hT 7 rfl (.nil (.seq (.cond_false rfl (.skip (.cut (()) ?_ (SubR.cons rfl (SubR.cons rfl (SubR.cons rfl (SubR.cons rfl (SubR.cons rfl (SubR.cons rfl (SubR.cons rfl (SubR.cons rfl (SubR.cons rfl (SubR.cons rfl (SubR.nil _))))))))))) sl)))))
                      · trivial
                  ·
                    refine OT.pures hT 11 rfl (.nil (.seq (.cond_false rfl (.skip (.cut (()) ?_ (SubR.cons rfl (SubR.cons rfl (SubR.cons rfl (SubR.cons rfl (SubR.cons rfl (SubR.cons rfl (SubR.cons rfl (SubR.cons rfl (SubR.cons rfl (SubR.cons rfl (SubR.nil _))))))))))) sl)))))
                    · trivial
              ·
                have g107 : dn1 = true := by simpa using g107
                refine OT.pures hT 9 rfl (.split 116 rfl (fun g116 => ?_) (fun g116 => ?_))
                ·
                  have g116 : e1 ≠ 0 := by simpa using g116
                  refine OT.pures hT 4 rfl (.split 120 rfl (fun g120 => ?_) (fun g120 => ?_))
                  ·
                    have g120 : e1 ≠ 5 := by simpa using g120
                    obtain ⟨he1, hnm⟩ := hap.one g116 g120
                    refine OT.pures hT 2 rfl (.split 122 rfl (fun g122 => ?_) (fun g122 => ?_))
                    ·
                      exact absurd (of_decide_eq_true g122) hnm
                    ·
                      refine OT.pures hT 5 rfl (.nil (.seq (.cond rfl (fun c127 => ?_) (fun c127 => ?_))))
                      ·
                        exact absurd c127 (by simp [he1])
                      ·
                        refine TT.skip (.cut (()) ?_ (SubR.cons rfl (SubR.cons rfl (SubR.cons rfl (SubR.cons rfl (SubR.cons rfl (SubR.cons rfl (SubR.cons rfl (SubR.cons rfl (SubR.cons rfl (SubR.cons rfl (SubR.nil _))))))))))) sl)
                        · trivial
                  ·
                    refine OT.pures hT 7 rfl (.nil (.seq (.cond_false rfl (.skip (.cut (()) ?_ (SubR.cons rfl (SubR.cons rfl (SubR.cons rfl (SubR.cons rfl (SubR.cons rfl (SubR.cons rfl (SubR.cons rfl (SubR.cons rfl (SubR.cons rfl (SubR.cons rfl (SubR.nil _))))))))))) sl)))))
                    · trivial
                ·
                  refine OT.pures hT 11 rfl (.nil (.seq (.cond_false rfl (.skip (.cut (()) ?_ (SubR.cons rfl (SubR.cons rfl (SubR.cons rfl (SubR.cons rfl (SubR.cons rfl (SubR.cons rfl (SubR.cons rfl (SubR.cons rfl (SubR.cons rfl (SubR.cons rfl (SubR.nil _))))))))))) sl)))))
                  · trivial
            ·
              rintro _ -
              show TT _ _ _ [(0, .slice a0 os.length c0), (4, .pointer (some ⟨bd, 0, none⟩)), (5, .pointer (some ⟨bc, 0, none⟩)), (9, .slice a9 A.length c9), (10, .int .i64 (i : Nat)), (11, .pointer (some ⟨b_11, 0, none⟩)), (12, .int .i64 e1), (13, .bool dn), (14, .slice aI us.length cI), (15, .bool (decide (MayImgs (imgs us))))] (HC1 :: HD2 :: KI :: EI :: [(b_11, blk (encCOp o) 50 (0, 0))] :: K :: hs)
              refine TT.seq (.region (.pures hT 2 rfl (.split 129 rfl (fun g129 => ?_) (fun g129 => ?_))))
              ·
                have g129 := of_decide_eq_true g129
                refine OT.pures hT 3 rfl (.split 132 rfl (fun g132 => ?_) (fun g132 => ?_))
                ·
                  have g132 := of_decide_eq_true g132
                  refine OT.pures hT 8 rfl (.nil (.seq (.cond_true rfl (.region (.pures hT 5 rfl (.reg 145 rfl (v := .int .i64 ((A.length - 1 : Nat) : Int)) (int_eq (by rw [wrap_i64 (by omega) (by omega)]; omega)) ?_))))))
                  have hmr := hap.more g129 (by first | exact .inr g132 | exact .inl hdn)
                  refine OT.index hT rfl rfl rfl rfl hO.row.there.there.there.there.there (by omega) (by rw [Int.toNat_natCast]; exact hlat) rfl (fun ad_146 hel_146 => ?_)
                  refine OT.load rfl rfl (El.ld_arr (m := 96) (s' := 1) hT hel_146 rfl) rfl (.pures hT 1 rfl (.call Tryz.call17 rfl rfl rfl rfl (law19_lay (hAt.mono fun _ _ => Has.sel sl) (fun x hx => (g129.2.1 x hx).1)) ?_))
                  rintro v_149 hs_149 ⟨rfl, rfl⟩
                  refine OT.buildSlice (enc := strsOf) (xs := [(lay now (imgs us))]) (xos := [.tmp 149]) el47 rfl rfl rfl rfl rfl (by simp [Value.cells, strsOf_length]) (fun _ _ => strsOf_length _) rfl (by decide) rfl (fun v_150 H_150 ho_150 => ?_)
                  refine OT.append hT el47 rfl rfl rfl rfl pl hO ro (by rw [List.flatMap_singleton]; exact strsOf_ones _) (by simp only [List.length_cons, List.length_nil]; omega) rfl (fun v_151 H_151 ho_151 => ?_)
                  refine OT.pures hT 1 rfl (.nil (.blk (.cut ((A ++ [(lay now (imgs us))]), (lay now (imgs us)), dn1, e1, bc, bd, v_151, H_151, HC1, HD2) ?_ (SubR.cons rfl (SubR.cons rfl (SubR.cons rfl (SubR.cons rfl (SubR.cons rfl (SubR.cons rfl (SubR.cons rfl (SubR.nil _)))))))) sl)))
                  · dsimp only
                    exact ⟨by rw [List.length_append, List.length_singleton]; omega, last_snocP _ _, ho_151, hmr.mono (by omega), fun h _ _ => hap.five h⟩
                ·
                  have g132 := of_decide_eq_false g132
                  refine OT.pures hT 1 rfl (.call Tryz.call14 rfl rfl rfl rfl (sy_Down hs1) ?_)
                  rintro v_134 hs_134 ⟨rfl, rfl⟩
                  refine OT.pures hT 1 rfl (.split 135 rfl (fun g135 => ?_) (fun g135 => ?_))
                  ·
                    have g135 : dn1 = true := g135
                    refine OT.pures hT 5 rfl (.nil (.seq (.cond rfl (fun c140 => ?_) (fun c140 => ?_))))
                    ·
                      have hdn : dn = false := by simpa using c140
                      have hmr := hap.more g129 (.inl hdn)
                      refine TT.region (.pures hT 5 rfl (.reg 145 rfl (v := .int .i64 ((A.length - 1 : Nat) : Int)) (int_eq (by rw [wrap_i64 (by omega) (by omega)]; omega)) ?_))
                      have hmr := hap.more g129 (by first | exact .inr g132 | exact .inl hdn)
                      refine OT.index hT rfl rfl rfl rfl hO.row.there.there.there.there.there (by omega) (by rw [Int.toNat_natCast]; exact hlat) rfl (fun ad_146 hel_146 => ?_)
                      refine OT.load rfl rfl (El.ld_arr (m := 96) (s' := 1) hT hel_146 rfl) rfl (.pures hT 1 rfl (.call Tryz.call17 rfl rfl rfl rfl (law19_lay (hAt.mono fun _ _ => Has.sel sl) (fun x hx => (g129.2.1 x hx).1)) ?_))
                      rintro v_149 hs_149 ⟨rfl, rfl⟩
                      refine OT.buildSlice (enc := strsOf) (xs := [(lay now (imgs us))]) (xos := [.tmp 149]) el47 rfl rfl rfl rfl rfl (by simp [Value.cells, strsOf_length]) (fun _ _ => strsOf_length _) rfl (by decide) rfl (fun v_150 H_150 ho_150 => ?_)
                      refine OT.append hT el47 rfl rfl rfl rfl pl hO ro (by rw [List.flatMap_singleton]; exact strsOf_ones _) (by simp only [List.length_cons, List.length_nil]; omega) rfl (fun v_151 H_151 ho_151 => ?_)
                      refine OT.pures hT 1 rfl (.nil (.blk (.cut ((A ++ [(lay now (imgs us))]), (lay now (imgs us)), dn1, e1, bc, bd, v_151, H_151, HC1, HD2) ?_ (SubR.cons rfl (SubR.cons rfl (SubR.cons rfl (SubR.cons rfl (SubR.cons rfl (SubR.cons rfl (SubR.cons rfl (SubR.nil _)))))))) sl)))
                      · dsimp only
                        exact ⟨by rw [List.length_append, List.length_singleton]; omega, last_snocP _ _, ho_151, hmr.mono (by omega), fun h _ _ => hap.five h⟩
                    ·
                      have hdn : dn = true := by simpa using c140
                      have hsm := hap.same (.inr hdn)
                      refine TT.skip (.blk (.cut (A, now, dn1, e1, bc, bd, .slice a9 A.length c9, K, HC1, HD2) ?_ (SubR.cons rfl (SubR.cons rfl (SubR.cons rfl (SubR.cons rfl (SubR.cons rfl (SubR.cons rfl (SubR.cons rfl (SubR.nil _)))))))) sl))
                      · dsimp only
                        exact ⟨by omega, hlast, hO, (by first | exact hsm.mono (by omega) | exact (hap.same (.inl g129)).mono (by omega)), fun h _ _ => hap.five h⟩
                  ·
                    exact absurd ((hap.cmp g135).2 g129) g132
              ·
                have g129 := of_decide_eq_false g129
                refine OT.pures hT 11 rfl (.nil (.seq (.cond_false rfl (.skip (.blk (.cut (A, now, dn1, e1, bc, bd, .slice a9 A.length c9, K, HC1, HD2) ?_ (SubR.cons rfl (SubR.cons rfl (SubR.cons rfl (SubR.cons rfl (SubR.cons rfl (SubR.cons rfl (SubR.cons rfl (SubR.nil _)))))))) sl))))))
                · dsimp only
                  exact ⟨by omega, hlast, hO, (by first | exact hsm.mono (by omega) | exact (hap.same (.inl g129)).mono (by omega)), fun h _ _ => hap.five h⟩
          ·
            have c94 := of_decide_eq_false c94
            refine TT.cut (ι := Unit) (fun j => True) (fun j => [(0, .slice a0 os.length c0), (4, .pointer (some ⟨bd, 0, none⟩)), (5, .pointer (some ⟨bc, 0, none⟩)), (9, .slice a9 A.length c9), (10, .int .i64 (i : Nat)), (11, .pointer (some ⟨b_11, 0, none⟩)), (12, .int .i64 0), (57, .int .i64 o.kind), (152, .bool (decide (o.kind = 1 ∨ o.kind = 3)))]) (fun j => [(b_11, blk (encCOp o) 50 (0, 0))] :: K :: HC :: HD :: hs) ?_ ?_
            ·
              refine TT.seq (.region (.pures hT 2 rfl (.nil (.seq (.cond rfl (fun c152 => ?_) (fun c152 => ?_))))))
              ·
                have c152 := of_decide_eq_true c152
                refine TT.skip (.cut (()) ?_ (SubR.cons rfl (SubR.cons rfl (SubR.cons rfl (SubR.cons rfl (SubR.cons rfl (SubR.cons rfl (SubR.cons rfl (SubR.cons rfl (SubR.cons' rfl (by (try dsimp only); exact (congrArg Value.bool (by simp [c152] <;> rfl))) (SubR.nil _)))))))))) sl)
                · trivial
              ·
                have c152 := of_decide_eq_false c152
                refine TT.region (.pures hT 2 rfl (.nil (.cut (()) ?_ (SubR.cons rfl (SubR.cons rfl (SubR.cons rfl (SubR.cons rfl (SubR.cons rfl (SubR.cons rfl (SubR.cons rfl (SubR.cons rfl (SubR.cons' rfl (by (try dsimp only); exact (congrArg Value.bool (by simp [c152] <;> rfl))) (SubR.nil _)))))))))) sl)))
                · trivial
            ·
              rintro _ -
              show TT _ _ _ [(0, .slice a0 os.length c0), (4, .pointer (some ⟨bd, 0, none⟩)), (5, .pointer (some ⟨bc, 0, none⟩)), (9, .slice a9 A.length c9), (10, .int .i64 (i : Nat)), (11, .pointer (some ⟨b_11, 0, none⟩)), (12, .int .i64 0), (57, .int .i64 o.kind), (152, .bool (decide (o.kind = 1 ∨ o.kind = 3)))] ([(b_11, blk (encCOp o) 50 (0, 0))] :: K :: HC :: HD :: hs)
              refine TT.cond rfl (fun c152 => ?_) (fun c152 => ?_)
              ·
                have c152 := of_decide_eq_true c152
                refine TT.cut (ι := Int × Bool × Chunk × Chunk) (fun j => FcR A now (1 + 5000 * i) (j.1) (j.2.1) (o.kind = 3) (.pointer (some ⟨bc, 0, none⟩)) (.pointer (some ⟨bd, 0, none⟩)) (j.2.2.1) (j.2.2.2)) (fun j => [(0, .slice a0 os.length c0), (4, .pointer (some ⟨bd, 0, none⟩)), (5, .pointer (some ⟨bc, 0, none⟩)), (9, .slice a9 A.length c9), (10, .int .i64 (i : Nat)), (11, .pointer (some ⟨b_11, 0, none⟩)), (12, .int .i64 (j.1))]) (fun j => [(b_11, blk (encCOp o) 50 (0, 0))] :: K :: (j.2.2.1) :: (j.2.2.2) :: hs) ?_ ?_
                ·
                  refine TT.seq (.region (.pures hT 1 rfl (.load rfl rfl (Ld.one hT rfl hz rfl) rfl ?_)))
                  refine OT.pures hT 1 rfl (.nil (.seq (.cond rfl (fun c157 => ?_) (fun c157 => ?_))))
                  ·
                    have c157 := of_decide_eq_true c157
                    refine TT.region (.pures hT 1 rfl (.call Tryz.call18 rfl rfl rfl rfl (Fun.weaken (hs' := HC :: HD :: [(b_11, blk (encCOp o) 50 (0, 0))] :: K :: hs) sl (sy_Force hsy (by omega))) ?_))
                    rintro v_159 hs_159 ⟨e1, dn1, HC1, HD2, rfl, rfl, hfc⟩
                    refine OT.pures hT 1 rfl (.nil (.cut (e1, dn1, HC1, HD2) ?_ (SubR.cons rfl (SubR.cons rfl (SubR.cons rfl (SubR.cons rfl (SubR.cons rfl (SubR.cons rfl (SubR.cons rfl (SubR.nil _)))))))) sl))
                    · dsimp only
                      rcases hfc with h | h
                      · exact .inl ⟨h.1, h.2.1, h.2.2.1, fun x => by omega⟩
                      · exact .inr h
                  ·
                    have c157 := of_decide_eq_false c157
                    refine TT.region (.pures hT 1 rfl (.call Tryz.call11 rfl rfl rfl rfl (Fun.weaken (hs' := HC :: HD :: [(b_11, blk (encCOp o) 50 (0, 0))] :: K :: hs) sl (sy_Check hsy (by omega))) ?_))
                    rintro v_161 hs_161 ⟨e1, dn1, HC1, HD2, rfl, rfl, hfc⟩
                    refine OT.pures hT 1 rfl (.nil (.cut (e1, dn1, HC1, HD2) ?_ (SubR.cons rfl (SubR.cons rfl (SubR.cons rfl (SubR.cons rfl (SubR.cons rfl (SubR.cons rfl (SubR.cons rfl (SubR.nil _)))))))) sl))
                    · dsimp only
                      rcases hfc with h | h
                      · exact .inl ⟨h.1, h.2.1, h.2.2.1, fun _ => h.2.2.2 trivial⟩
                      · exact .inr h
                ·
                  rintro ⟨e1, dn1, HC1, HD2⟩ hI
                  dsimp only at hI
                  have hfc := hI
                  show TT _ _ _ [(0, .slice a0 os.length c0), (4, .pointer (some ⟨bd, 0, none⟩)), (5, .pointer (some ⟨bc, 0, none⟩)), (9, .slice a9 A.length c9), (10, .int .i64 (i : Nat)), (11, .pointer (some ⟨b_11, 0, none⟩)), (12, .int .i64 e1)] ([(b_11, blk (encCOp o) 50 (0, 0))] :: K :: HC1 :: HD2 :: hs)
                  refine TT.seq (.region (.pures hT 2 rfl (.nil (.seq (.cond rfl (fun c163 => ?_) (fun c163 => ?_))))))
                  ·
                    have c163 := of_decide_eq_true c163
                    obtain ⟨_, rfl, hsy1, hcl⟩ := hfc.resolve_right fun h => by have := h.1; omega
                    refine TT.seq (.region (.pures hT 4 rfl (.reg 167 rfl (v := .int .i64 ((A.length - 1 : Nat) : Int)) (int_eq (by rw [wrap_i64 (by omega) (by omega)]; omega)) (.slice_val (A.length - 1) A.length hT rfl rfl rfl rfl rfl (.inr ⟨_, rfl⟩) (.inl ⟨rfl, rfl⟩) (by omega) hO.cap.2 rfl (.pures hT 1 rfl (.nil (.seq (.seq (.region (.pures hT 1 rfl (.load rfl rfl (Ld.one hT rfl hz rfl) rfl ?_)))))))))))
                    refine OT.pures hT 2 rfl (.split 172 rfl (fun g172 => ?_) (fun g172 => ?_))
                    ·
                      have g172 := of_decide_eq_true g172
                      refine OT.pures hT 1 rfl (.call Tryz.call12 rfl rfl rfl rfl (Fun.weaken (hs' := HC1 :: HD2 :: [(b_11, blk (encCOp o) 50 (0, 0))] :: K :: hs) sl (up_Dirty (hcl g172))) ?_)
                      rintro v_174 hs_174 ⟨HI, rfl, hoI⟩
                      obtain ⟨aI, cI, hvI⟩ := (hoI.row (hs := hs)).len
                      subst hvI
                      refine OT.pures hT 3 rfl (.nil (.seq (.cond_false rfl (.skip (.blk (.cut ([now], now, false, e1, bc, bd, (.slice (if c9 = A.length - 1 then a9 else a9.map (·.add ((A.length - 1) * 96))) (A.length - (A.length - 1)) (c9 - (A.length - 1))), K, HC1, HD2) ?_ (SubR.cons rfl (SubR.cons rfl (SubR.cons rfl (SubR.cons rfl (SubR.cons rfl (SubR.cons rfl (SubR.cons rfl (SubR.nil _)))))))) sl))))))
                      · dsimp only
                        exact ⟨by simp, rfl, last_drop hlast ▸ hO.drop (L := A.length - 1) (by omega), hsy1.mono (by omega), fun h => by cases h⟩
                    ·
                      have g172 := of_decide_eq_false g172
                      refine OT.pures hT 5 rfl (.nil (.seq (.cond_false rfl (.skip (.blk (.cut ([now], now, false, e1, bc, bd, (.slice (if c9 = A.length - 1 then a9 else a9.map (·.add ((A.length - 1) * 96))) (A.length - (A.length - 1)) (c9 - (A.length - 1))), K, HC1, HD2) ?_ (SubR.cons rfl (SubR.cons rfl (SubR.cons rfl (SubR.cons rfl (SubR.cons rfl (SubR.cons rfl (SubR.cons rfl (SubR.nil _)))))))) sl))))))
                      · dsimp only
                        exact ⟨by simp, rfl, last_drop hlast ▸ hO.drop (L := A.length - 1) (by omega), hsy1.mono (by omega), fun h => by cases h⟩
                  ·
                    have c163 := of_decide_eq_false c163
                    obtain ⟨he1, rfl, hsy1⟩ := hfc.resolve_left fun h => c163 h.1
                    refine TT.skip (.blk (.cut (A, now, true, e1, bc, bd, .slice a9 A.length c9, K, HC1, HD2) ?_ (SubR.cons rfl (SubR.cons rfl (SubR.cons rfl (SubR.cons rfl (SubR.cons rfl (SubR.cons rfl (SubR.cons rfl (SubR.nil _)))))))) sl))
                    · dsimp only
                      exact ⟨by omega, hlast, hO, hsy1.mono (by omega), fun _ _ _ => he1⟩
              ·
                have c152 := of_decide_eq_false c152
                refine TT.seq (.region (.pures hT 2 rfl (.nil (.seq (.cond rfl (fun c178 => ?_) (fun c178 => ?_))))))
                ·
                  have c178 := of_decide_eq_true c178
                  refine TT.seq (.region (.pures hT 2 rfl (.load rfl rfl (Ld.one hT rfl hz rfl) rfl ?_)))
                  refine OT.call Tryz.call10 rfl rfl rfl rfl (Fun.weaken (hs' := HC :: HD :: [(b_11, blk (encCOp o) 50 (0, 0))] :: K :: hs) sl (sy_Flush hsy (by omega))) ?_
                  rintro v_183 hs_183 ⟨e1, dn1, HC1, HD2, rfl, rfl, hf1, hf2, hsy1⟩
                  refine OT.pures hT 1 rfl (.nil (.seq (.seq (.region (.pures hT 1 rfl (.call Tryz.call14 rfl rfl rfl rfl (sy_Down hsy1) ?_))))))
                  rintro v_185 hs_185 ⟨rfl, rfl⟩
                  refine OT.pures hT 2 rfl (.split 187 rfl (fun g187 => ?_) (fun g187 => ?_))
                  ·
                    have g187 : dn1 = false := by simpa using g187
                    have hf1 := hf1 g187
                    refine OT.pures hT 3 rfl (.load rfl rfl (Ld.one hT rfl hz rfl) rfl ?_)
                    refine OT.pures hT 2 rfl (.split 193 rfl (fun g193 => ?_) (fun g193 => ?_))
                    ·
                      have g193 := of_decide_eq_true g193
                      refine OT.pures hT 1 rfl (.load rfl rfl (Ld.one hT rfl hz rfl) rfl ?_)
                      refine OT.pures hT 4 rfl (.nil (.seq (.cond rfl (fun c199 => ?_) (fun c199 => ?_))))
                      ·
                        exact absurd c199 (by have : e1 = 0 ↔ o.no ≤ 95 := hf1.trans ⟨fun h => (by have := h.2; omega), fun h => ⟨by omega, by omega⟩⟩; by_cases hm : o.no ≤ 95 <;> simp [hm, this])
                      ·
                        refine TT.skip (.blk (.cut (A, now, dn1, e1, bc, bd, .slice a9 A.length c9, K, HC1, HD2) ?_ (SubR.cons rfl (SubR.cons rfl (SubR.cons rfl (SubR.cons rfl (SubR.cons rfl (SubR.cons rfl (SubR.cons rfl (SubR.nil _)))))))) sl))
                        · dsimp only
                          exact ⟨by omega, hlast, hO, hsy1.mono (by omega), fun h _ _ => hf2 h⟩
                    ·
                      have g193 := of_decide_eq_false g193
                      refine OT.pures hT 6 rfl (.nil (.seq (.cond rfl (fun c199 => ?_) (fun c199 => ?_))))
                      ·
                        exact absurd c199 (by have : ¬ e1 = 0 := fun h => (by have := (hf1.1 h).1; omega); simp [this])
                      ·
                        refine TT.skip (.blk (.cut (A, now, dn1, e1, bc, bd, .slice a9 A.length c9, K, HC1, HD2) ?_ (SubR.cons rfl (SubR.cons rfl (SubR.cons rfl (SubR.cons rfl (SubR.cons rfl (SubR.cons rfl (SubR.cons rfl (SubR.nil _)))))))) sl))
                        · dsimp only
                          exact ⟨by omega, hlast, hO, hsy1.mono (by omega), fun h _ _ => hf2 h⟩
                  ·
                    refine OT.pures hT 12 rfl (.nil (.seq (.cond_false rfl (.skip (.blk (.cut (A, now, dn1, e1, bc, bd, .slice a9 A.length c9, K, HC1, HD2) ?_ (SubR.cons rfl (SubR.cons rfl (SubR.cons rfl (SubR.cons rfl (SubR.cons rfl (SubR.cons rfl (SubR.cons rfl (SubR.nil _)))))))) sl))))))
                    · dsimp only
                      exact ⟨by omega, hlast, hO, hsy1.mono (by omega), fun h _ _ => hf2 h⟩
                ·
                  have c178 := of_decide_eq_false c178
                  refine TT.seq (.region (.pures hT 2 rfl (.nil (.seq (.cond rfl (fun c200 => ?_) (fun c200 => ?_))))))
                  ·
                    have c200 := of_decide_eq_true c200
                    refine TT.region (.pures hT 2 rfl (.load rfl rfl (Ld.one hT rfl hz rfl) rfl ?_))
                    refine OT.call Tryz.call19 rfl rfl rfl rfl (Fun.weaken (hs' := HD :: HC :: [(b_11, blk (encCOp o) 50 (0, 0))] :: K :: hs) sl (sy_Fuse hsy (by have := hco.no.2; omega))) ?_
                    rintro v_205 hs_205 ⟨HD2, rfl, rfl, hsy1⟩
                    refine OT.nil (.blk (.cut (A, now, dn, 0, bc, bd, .slice a9 A.length c9, K, HC, HD2) ?_ (SubR.cons rfl (SubR.cons rfl (SubR.cons rfl (SubR.cons rfl (SubR.cons rfl (SubR.cons rfl (SubR.cons rfl (SubR.nil _)))))))) sl))
                    · dsimp only
                      exact ⟨by omega, hlast, hO, hsy1.mono (by omega), fun _ _ h => by omega⟩
                  ·
                    have c200 := of_decide_eq_false c200
                    refine TT.seq (.region (.pures hT 2 rfl (.load rfl rfl (Ld.slc hT rfl hz rfl) rfl ?_)))
                    refine OT.call Tryz.call20 rfl rfl rfl rfl (Fun.weaken (hs' := HD :: [(b_11, blk (encCOp o) 50 (0, 0))] :: K :: hs) sl (up_Crash hsy.dev (hco.keep.mono fun _ _ => Has.sel sl))) ?_
                    rintro v_61 hs_61 ⟨HX, rfl, hx⟩
                    obtain ⟨bx, hpx⟩ := hx.ptr
                    subst hpx
                    refine OT.pures hT 1 rfl (.nil (.seq (.seq (.region (.pures hT 1 rfl (.call Tryz.call21 rfl rfl rfl rfl (up_Open hx (by omega)) ?_))))))
                    rintro v_64 hs_64 ⟨q3, e3, HC3, HX3, rfl, rfl, hres3⟩
                    obtain ⟨rfl, P3, hP3, hc3⟩ := up_ok hres3
                    obtain ⟨bq, hq3⟩ := hc3.ptr
                    subst hq3
                    refine OT.pures hT 5 rfl (.nil (.seq (.seq (.seq (.region (.pures hT 2 rfl (.nil (.seq (.cond_false rfl (.skip (.seq (.seq (.region (.pures hT 2 rfl (.nil (.seq (.seq (.region (.pures hT 1 rfl (.nil (.seq (.seq (.block (.loop (ι := Nat × Chunk × Chunk) (fun j => (j.1) ≤ A.length ∧ (∀ q X, q < (j.1) → A[q]? = some X → ¬ EqP X P3) ∧ CoreAt (fun P' => EqP P' P3) P3 (1 + 5000 * i + 2 + 96 * (j.1)) True ((.pointer (some ⟨bq, 0, none⟩))) ((.pointer (some ⟨bx, 0, none⟩))) (j.2.1) (j.2.2)) (fun j => A.length - (j.1)) (fun j => [(0, .slice a0 os.length c0), (4, .pointer (some ⟨bx, 0, none⟩)), (5, .pointer (some ⟨bq, 0, none⟩)), (9, .slice a9 A.length c9), (10, .int .i64 (i : Nat)), (11, .pointer (some ⟨b_11, 0, none⟩)), (12, .int .i64 0), (18, .int .i64 ((j.1) : Nat))]) (fun j => [(b_11, blk (encCOp o) 50 (0, 0))] :: K :: (j.2.1) :: (j.2.2) :: hs) (0, HC3, HX3) ?_ (SubR.cons rfl (SubR.cons rfl (SubR.cons rfl (SubR.cons rfl (SubR.cons rfl (SubR.cons rfl (SubR.cons rfl (SubR.cons rfl (SubR.nil _))))))))) sl ?_))))))))))))))))))))))))
                    · dsimp only
                      exact ⟨by omega, fun j X h => by omega, hc3⟩
                    rintro ⟨k, HC, HD⟩ hI
                    dsimp only at hI
                    obtain ⟨hkA, hno, hc⟩ := hI
                    show TT _ _ _ [(0, .slice a0 os.length c0), (4, .pointer (some ⟨bx, 0, none⟩)), (5, .pointer (some ⟨bq, 0, none⟩)), (9, .slice a9 A.length c9), (10, .int .i64 (i : Nat)), (11, .pointer (some ⟨b_11, 0, none⟩)), (12, .int .i64 0), (18, .int .i64 (k : Nat))] ([(b_11, blk (encCOp o) 50 (0, 0))] :: K :: HC :: HD :: hs)
                    refine TT.seq (.seq (.region (.pures hT 5 rfl (.split 74 rfl (fun g74 => ?_) (fun g74 => ?_)))))
                    ·
                      have g74 := of_decide_eq_true g74
                      obtain ⟨X, hX⟩ := nth (l := A) (i := k) (by omega)
                      refine OT.pures hT 2 rfl (.index hT rfl rfl rfl rfl hO.row.there (by omega) hX rfl (fun ad_77 hel_77 => ?_))
                      refine OT.load rfl rfl (El.ld_arr (m := 96) (s' := 1) hT hel_77 rfl) rfl (.pures hT 1 rfl (.call Tryz.call22 rfl rfl rfl rfl (Fun.weaken (hs' := HC :: HD :: [(b_11, blk (encCOp o) 50 (0, 0))] :: K :: hs) sl (law19_are (Q := X) hc (by omega))) ?_))
                      rintro v_80 hs_80 ⟨t, HC5, HX5, rfl, rfl, hres5⟩
                      obtain ⟨hc5, ht5⟩ := hres5.resolve_right fun h => h.2.1 trivial
                      refine OT.pures hT 2 rfl (.nil (.seq (.cond rfl (fun c82 => ?_) (fun c82 => ?_))))
                      ·
                        have hXP : ¬ EqP X P3 := fun h => by have := ht5.2 h; rw [this] at c82; cases c82
                        refine TT.skip (.seq (.block (.region (.pures hT 3 rfl (.nil (.blk (.loop (k + 1, HC5, HX5) ?_ ?_ (SubR.cons rfl (SubR.cons rfl (SubR.cons rfl (SubR.cons rfl (SubR.cons rfl (SubR.cons rfl (SubR.cons rfl (SubR.cons' rfl (by (try dsimp only); exact (int_eq (by rw [wrap_i64 (by omega) (by omega)]; omega))) (SubR.nil _))))))))) sl)))))))
                        · dsimp only
                          exact ⟨by omega, not_step hX hXP hno, hc5.mono (fun _ h => h) (by omega) id⟩
                        · dsimp only
                          omega
                      ·
                        have hXP : EqP X P3 := ht5.1 (by simpa using c82)
                        refine TT.exit (.seq (.loop (.here (.seq (.seq (.seq (.region (.pures hT 4 rfl (.nil (.seq (.cond rfl (fun c88 => ?_) (fun c88 => ?_))))))))))))
                        ·
                          have c88 := of_decide_eq_true c88
                          omega
                        ·
                          refine TT.skip (.seq (.region (.pures hT 4 rfl (.reg 92 rfl (v := .int .i64 ((k + 1 : Nat) : Int)) (int_eq (by rw [wrap_i64 (by omega) (by omega)]; omega)) (.slice_val k (k + 1) hT rfl rfl rfl rfl rfl (.inr ⟨_, rfl⟩) (.inr ⟨_, rfl⟩) (by omega) (by have := hO.cap.2; omega) rfl ?_)))))
                          refine OT.pures hT 1 rfl (.nil (.blk (.cut ([X], X, false, 0, bq, bx, (.slice (if c9 = k then a9 else a9.map (·.add (k * 96))) (k + 1 - k) (c9 - k)), K, HC5, HX5) ?_ (SubR.cons rfl (SubR.cons rfl (SubR.cons rfl (SubR.cons rfl (SubR.cons rfl (SubR.cons rfl (SubR.cons rfl (SubR.nil _)))))))) sl)))
                          · dsimp only
                            exact ⟨by simp, rfl, one_cut hX ▸ (hO.take (m := k + 1) (by omega)).drop (L := k) (by rw [List.length_take]; omega), ⟨.inl ⟨rfl, (hc5.eq hXP.symm).mono (fun _ h => canOf_one.2 (h.trans hXP.symm)) (by omega) (fun _ => trivial)⟩⟩, fun h => by cases h⟩
                    ·
                      have g74 := of_decide_eq_false g74
                      exact (not_all hP3 fun j X hj hX => hno j X (by omega) hX).elim
        ·
          rintro ⟨A, now, dn, e, bc, bd, w, K, HC, HD⟩ hI
          dsimp only at hI
          obtain ⟨hAl, hlast, hO, hsy, he5⟩ := hI
          show TT _ _ _ [(0, .slice a0 os.length c0), (4, .pointer (some ⟨bd, 0, none⟩)), (5, .pointer (some ⟨bc, 0, none⟩)), (9, w), (10, .int .i64 (i : Nat)), (11, .pointer (some ⟨b_11, 0, none⟩)), (12, .int .i64 e)] ([(b_11, blk (encCOp o) 50 (0, 0))] :: K :: HC :: HD :: hs)
          obtain ⟨a9, c9, hw⟩ := (hO.row (hs := hs)).len
          subst hw
          obtain ⟨hlat, hApos⟩ := last_at hlast
          refine TT.cut (ι := Unit) (fun j => True) (fun j => [(0, .slice a0 os.length c0), (4, .pointer (some ⟨bd, 0, none⟩)), (5, .pointer (some ⟨bc, 0, none⟩)), (9, .slice a9 A.length c9), (10, .int .i64 (i : Nat)), (11, .pointer (some ⟨b_11, 0, none⟩)), (12, .int .i64 e)]) (fun j => [(b_11, blk (encCOp o) 50 (0, 0))] :: K :: HC :: HD :: hs) ?_ ?_
          ·
            refine TT.seq (.region (.pures hT 1 rfl (.call Tryz.call14 rfl rfl rfl rfl (Fun.weaken (hs' := HC :: HD :: [(b_11, blk (encCOp o) 50 (0, 0))] :: K :: hs) sl (sy_Down hsy)) ?_)))
            rintro v_207 hs_207 ⟨rfl, rfl⟩
            refine OT.pures hT 1 rfl (.split 208 rfl (fun g208 => ?_) (fun g208 => ?_))
            ·
              have g208 : dn = true := g208
              refine OT.pures hT 1 rfl (.load rfl rfl (Ld.one hT rfl hz rfl) rfl ?_)
              refine OT.pures hT 3 rfl (.split 213 rfl (fun g213 => ?_) (fun g213 => ?_))
              ·
                have g213 := of_decide_eq_true g213
                refine OT.pures hT 1 rfl (.load rfl rfl (Ld.one hT rfl hz rfl) rfl ?_)
                refine OT.pures hT 3 rfl (.split 218 rfl (fun g218 => ?_) (fun g218 => ?_))
                ·
                  have g218 := of_decide_eq_true g218
                  refine OT.pures hT 3 rfl (.nil (.seq (.cond rfl (fun c221 => ?_) (fun c221 => ?_))))
                  ·
                    exact absurd c221 (by simp [he5 g208 g213 g218])
                  ·
                    refine TT.skip (.cut (()) ?_ (SubR.cons rfl (SubR.cons rfl (SubR.cons rfl (SubR.cons rfl (SubR.cons rfl (SubR.cons rfl (SubR.cons rfl (SubR.nil _)))))))) sl)
                    · trivial
                ·
                  refine OT.pures hT 3 rfl (.nil (.seq (.cond_false rfl (.skip (.cut (()) ?_ (SubR.cons rfl (SubR.cons rfl (SubR.cons rfl (SubR.cons rfl (SubR.cons rfl (SubR.cons rfl (SubR.cons rfl (SubR.nil _)))))))) sl)))))
                  · trivial
              ·
                refine OT.pures hT 8 rfl (.nil (.seq (.cond_false rfl (.skip (.cut (()) ?_ (SubR.cons rfl (SubR.cons rfl (SubR.cons rfl (SubR.cons rfl (SubR.cons rfl (SubR.cons rfl (SubR.cons rfl (SubR.nil _)))))))) sl)))))
                · trivial
            ·
              refine OT.pures hT 13 rfl (.nil (.seq (.cond_false rfl (.skip (.cut (()) ?_ (SubR.cons rfl (SubR.cons rfl (SubR.cons rfl (SubR.cons rfl (SubR.cons rfl (SubR.cons rfl (SubR.cons rfl (SubR.nil _)))))))) sl)))))
              · trivial
          ·
            rintro _ -
            show TT _ _ _ [(0, .slice a0 os.length c0), (4, .pointer (some ⟨bd, 0, none⟩)), (5, .pointer (some ⟨bc, 0, none⟩)), (9, .slice a9 A.length c9), (10, .int .i64 (i : Nat)), (11, .pointer (some ⟨b_11, 0, none⟩)), (12, .int .i64 e)] ([(b_11, blk (encCOp o) 50 (0, 0))] :: K :: HC :: HD :: hs)
            refine TT.seq (.region (.pures hT 1 rfl (.call Tryz.call14 rfl rfl rfl rfl (Fun.weaken (hs' := HC :: HD :: [(b_11, blk (encCOp o) 50 (0, 0))] :: K :: hs) sl (sy_Down hsy)) ?_)))
            rintro v_223 hs_223 ⟨rfl, rfl⟩
            refine OT.pures hT 2 rfl (.split 225 rfl (fun g225 => ?_) (fun g225 => ?_))
            ·
              have g225 : dn = false := by simpa using g225
              have hup := (hsy.is.resolve_right fun h => by rw [g225] at h; cases h.1).2
              refine OT.pures hT 4 rfl (.reg 229 rfl (v := .int .i64 ((A.length - 1 : Nat) : Int)) (int_eq (by rw [wrap_i64 (by omega) (by omega)]; omega)) (.index hT rfl rfl rfl rfl hO.row.there.there.there (by omega) (by rw [Int.toNat_natCast]; exact hlat) rfl (fun ad_230 hel_230 => ?_)))
              refine OT.load rfl rfl (El.ld_arr (m := 96) (s' := 1) hT hel_230 rfl) rfl (.pures hT 1 rfl (.call Tryz.call22 rfl rfl rfl rfl (law19_are (Q := now) hup (by omega)) ?_))
              rintro v_233 hs_233 ⟨t, HC5, HD5, rfl, rfl, hres5⟩
              have hsy5 : SyAt A now (1 + 5000 * i + 4000 + 96) (!t) (.pointer (some ⟨bc, 0, none⟩)) (.pointer (some ⟨bd, 0, none⟩)) HC5 HD5 := by
                rcases hres5 with ⟨h1, h2⟩ | ⟨h1, _, h2⟩
                · exact ⟨.inl ⟨by rw [h2.2 (EqP.refl _)]; rfl, h1⟩⟩
                · exact ⟨.inr ⟨by rw [h1]; rfl, h2⟩⟩
              refine OT.pures hT 3 rfl (.split 236 rfl (fun g236 => ?_) (fun g236 => ?_))
              ·
                have g236 : t = false := by simpa using g236
                refine OT.pures hT 1 rfl (.call Tryz.call14 rfl rfl rfl rfl (sy_Down hsy5) ?_)
                rintro v_238 hs_238 ⟨rfl, rfl⟩
                refine OT.pures hT 2 rfl (.nil (.seq (.cond rfl (fun c240 => ?_) (fun c240 => ?_))))
                ·
                  exact absurd c240 (by simp [g236])
                ·
                  refine TT.skip (.blk (.seq (.region (.pures hT 3 rfl (.nil (.loop (i + 1, A, now, (!t), bc, bd, .slice a9 A.length c9, K, HC5, HD5) ?_ ?_ (SubR.cons rfl (SubR.cons rfl (SubR.cons rfl (SubR.cons rfl (SubR.cons' rfl (by (try dsimp only); exact (int_eq (by rw [wrap_i64 (by omega) (by omega)]; omega))) (SubR.nil _)))))) sl))))))
                  · dsimp only
                    exact ⟨by omega, by omega, by omega, hlast, hO, hsy5.mono (by omega)⟩
                  · dsimp only
                    omega
              ·
                refine OT.pures hT 4 rfl (.nil (.seq (.cond_false rfl (.skip (.blk (.seq (.region (.pures hT 3 rfl (.nil (.loop (i + 1, A, now, (!t), bc, bd, .slice a9 A.length c9, K, HC5, HD5) ?_ ?_ (SubR.cons rfl (SubR.cons rfl (SubR.cons rfl (SubR.cons rfl (SubR.cons' rfl (by (try dsimp only); exact (int_eq (by rw [wrap_i64 (by omega) (by omega)]; omega))) (SubR.nil _)))))) sl))))))))))
                · dsimp only
                  exact ⟨by omega, by omega, by omega, hlast, hO, hsy5.mono (by omega)⟩
                · dsimp only
                  omega
            ·
              refine OT.pures hT 15 rfl (.nil (.seq (.cond_false rfl (.skip (.blk (.seq (.region (.pures hT 3 rfl (.nil (.loop (i + 1, A, now, dn, bc, bd, .slice a9 A.length c9, K, HC, HD) ?_ ?_ (SubR.cons rfl (SubR.cons rfl (SubR.cons rfl (SubR.cons rfl (SubR.cons' rfl (by (try dsimp only); exact (int_eq (by rw [wrap_i64 (by omega) (by omega)]; omega))) (SubR.nil _)))))) sl))))))))))
              · dsimp only
                exact ⟨by omega, by omega, by omega, hlast, hO, hsy.mono (by omega)⟩
              · dsimp only
                omega
      ·
        refine TT.exit (.seq (.loop (.here (.seq (.seq (.region (.pures hT 1 rfl (.nil (.seq (.ret (.of (rs := [.tmp 2]) [_] hs rfl (.tmp rfl .nil) sl ?_)))))))))))
        dsimp only [one]
        exact ⟨rfl, rfl⟩
    ·
      have g44 := of_decide_eq_false g44
      refine OT.pures hT 3 rfl (.nil (.seq (.cond_false rfl (.exit (.seq (.loop (.here (.seq (.seq (.region (.pures hT 1 rfl (.nil (.seq (.ret (.of (rs := [.tmp 2]) [_] hs rfl (.tmp rfl .nil) sl ?_)))))))))))))))
      dsimp only [one]
      exact ⟨rfl, rfl⟩

end Go.Proofs.YtoalhcodigpgkaaGreatDoor.Sx
end
