/- Several texts in one. slices.Sort of whole numbers, in the words of the small logic: the shelf's contract is turned. The pool: what is dirty; no pool. Printed by a program of ours off the loaded program and our notes; Lean checks it. What is dirty behind a check: nothing. CoreFlush: it answers true. Printed by a program of ours off the loaded program and our notes; Lean checks it. -/
import Derived.Test.YtoalhcodigpgkaaGreatDoorMA
import Derived.Test.YtoalhcodigpgkaaGreatDoorShelf
import Derived.Sort.Grow
import Derived.Test.YtoalhcodigpgkaaGreatDoorMC
import Derived.Test.YtoalhcodigpgkaaGreatDoorMF
import Derived.Test.YtoalhcodigpgkaaGreatDoorMG
import Derived.Test.YtoalhcodigpgkaaGreatDoorMB
import Derived.Test.YtoalhcodigpgkaaGreatDoorME
import Derived.Test.YtoalhcodigpgkaaGreatDoorMH

section
namespace Go.Sx
open Go Go.Sort
variable [Outer]

omit [Outer] in
theorem putCells_row (pre sp : List Value) (xs ys : List Int) (h : ys.length = xs.length) :
    putCells (Value.int .i64) pre.length ys.toArray ⟨pre ++ xs.map (Value.int .i64) ++ sp⟩ = ⟨pre ++ ys.map (Value.int .i64) ++ sp⟩ := by
  apply Array.ext_getElem?
  intro k
  unfold putCells
  rw [Array.getElem?_mapIdx]
  rw [List.getElem?_toArray, List.getElem?_toArray]
  rw [List.append_assoc, List.append_assoc]
  by_cases h1 : k < pre.length
  · rw [List.getElem?_append_left h1, List.getElem?_append_left h1]
    cases pre[k]? with
    | none => rfl
    | some v => rw [Option.map_some, if_neg (by omega)]
  · have key : ∀ zs : List Int, (pre ++ (zs.map (Value.int .i64) ++ sp))[k]? = if k < pre.length + zs.length then (zs[k - pre.length]?).map (Value.int .i64) else sp[k - pre.length - zs.length]? := by
      intro zs
      rw [List.getElem?_append_right (by omega)]
      by_cases h2 : k < pre.length + zs.length
      · rw [if_pos h2, List.getElem?_append_left (by rw [List.length_map]; omega), List.getElem?_map]
      · rw [if_neg h2, List.getElem?_append_right (by rw [List.length_map]; omega), List.length_map]
    rw [key xs, key ys, h]
    by_cases h2 : k < pre.length + xs.length
    · rw [if_pos h2, if_pos h2, List.getElem?_eq_getElem (by omega : k - pre.length < xs.length), List.getElem?_eq_getElem (by omega : k - pre.length < ys.length)]
      rw [Option.map_some, Option.map_some, Option.map_some, if_pos ⟨by omega, by rw [List.size_toArray]; omega⟩]
      rw [getElem!_pos ys.toArray (k - pre.length) (by rw [List.size_toArray]; omega)]
      rfl
    · rw [if_neg h2, if_neg h2]
      cases sp[k - pre.length - xs.length]? with
      | none => rfl
      | some v => rw [Option.map_some, if_neg (by rw [List.size_toArray]; omega)]

theorem Mem.putRow {w w' : World} {b : Nat} {pre sp : List Value} {xs ys : List Int} {e : Nat} {fr : Nat × Nat} {r : List Chunk} {n : Nat} {os : Array Obj}
    (hm : Mem ([(b, blk (pre ++ xs.map (Value.int .i64) ++ sp) e fr)] :: r) w) (hl : ys.length = xs.length)
    (hw : w' = grow (Go.Sort.putRow (Value.int .i64) (Go.Sort.ahead w n) b pre.length ys.toArray) os) : Mem ([(b, blk (pre ++ ys.map (Value.int .i64) ++ sp) e fr)] :: r) w' := by
  have hb := hm.heap (b := b) Has.one
  have hn := hm.nodup
  simp only [List.flatten_cons, List.singleton_append, List.map_cons, List.nodup_cons] at hn
  have hsz : (Go.Sort.putRow (Value.int .i64) (Go.Sort.ahead w n) b pre.length ys.toArray).heap.size = w.heap.size := by
    unfold Go.Sort.putRow mapBlock Go.Sort.ahead
    simp
  refine ⟨?_, ?_, by rw [hw]; exact hm.outer⟩
  · simp only [List.flatten_cons, List.singleton_append, List.map_cons, List.nodup_cons]
    exact hn
  · intro c oc hc
    simp only [List.flatten_cons, List.singleton_append, List.mem_cons, Prod.mk.injEq] at hc
    have hold : w.heap[c]? ≠ none → w'.heap[c]? = (if b = c then w.heap[c]?.map (onCells (putCells (Value.int .i64) pre.length ys.toArray)) else w.heap[c]?) := by
      intro h
      have hlt : c < w.heap.size := by
        rw [Ne, Array.getElem?_eq_none_iff] at h; omega
      rw [hw, heap_grow_old _ _ (by rw [hsz]; exact hlt)]
      unfold Go.Sort.putRow mapBlock Go.Sort.ahead
      exact Array.getElem?_modify ..
    rcases hc with ⟨rfl, rfl⟩ | hc
    · rw [hold (by rw [hb]; intro h; cases h), if_pos rfl, hb, Option.map_some]
      unfold onCells blk
      simp only [putCells_row pre sp xs ys hl]
    · have hne : b ≠ c := by
        intro e
        subst e
        exact hn.1 (List.mem_map.2 ⟨(b, oc), hc, rfl⟩)
      have ho := hm.has c oc (by simp [hc])
      rw [hold (by rw [ho]; intro h; cases h), if_neg hne, ho]

theorem Mem.holds {w : World} {b : Nat} {pre sp : List Value} {xs : List Int} {e : Nat} {fr : Nat × Nat} {r : List Chunk}
    (hm : Mem ([(b, blk (pre ++ xs.map (Value.int .i64) ++ sp) e fr)] :: r) w) (ht : thawed (pre ++ xs.map (Value.int .i64) ++ sp) fr) : Holds (Value.int .i64) w b pre.length xs.toArray := by
  intro j hj
  rw [List.size_toArray] at hj
  have hb := hm.heap (b := b) Has.one
  constructor
  · rw [hm.cell (b := b) Has.one (pre.length + j)]
    rw [List.append_assoc, List.getElem?_append_right (by omega), List.getElem?_append_left (by rw [List.length_map]; omega), List.getElem?_map]
    rw [show pre.length + j - pre.length = j by omega, List.getElem?_eq_getElem hj, Option.map_some, getElem!_pos xs.toArray j (by rw [List.size_toArray]; omega)]
    rfl
  · simp only [World.frozen?, hb]
    rcases ht with ht | ht
    · simp; omega
    · simp only [List.length_append, List.length_map] at ht
      simp; omega

theorem sorted_of {P : Program} {f : Nat} {v : Value} {xs : List Int} {H : Chunk} {r : List Chunk} {e : Nat} (ho : Own encI 1 e v xs H) (hl : xs.length ≤ 1073741824)
    (h0 : ∀ (p : Option Addr) (cap : Nat) (w : World), Calls P f #[.slice p 0 cap] w fun e w' => e = .returned (.tuple #[]) ∧ w' = w)
    (h1 : ∀ (b off cap : Nat) (zs : List Int) (w : World), Holds (Value.int .i64) w b off zs.toArray → b < w.heap.size → zs.length < 4611686018427387904 →
      Calls P f #[.slice (some ⟨b, off, none⟩) zs.length cap] w fun e w' => e = .returned (.tuple #[]) ∧ ∃ n os, w' = grow (Go.Sort.putRow (Value.int .i64) (Go.Sort.ahead w n) b off (zs.mergeSort fun x y => decide (x ≤ y)).toArray) os) :
    Fun P f [v] (H :: r) fun v' hs' => v' = .tuple #[] ∧ ∃ H', hs' = H' :: r ∧ Own encI 1 e v (xs.mergeSort fun x y => decide (x ≤ y)) H' := by
  obtain ⟨h1x, ⟨rfl, rfl, rfl⟩ | ⟨b, cap, pre, sp, fr, rfl, rfl, hc, hs, ht⟩⟩ := ho
  · intro w hm
    refine (h0 none 0 w).mono ?_
    rintro e' w' ⟨rfl, rfl⟩
    exact ⟨_, _, rfl, ⟨rfl, [], rfl, by simp; exact Own.nil⟩, hm⟩
  · intro w hm
    have em : ∀ l : List Int, l.flatMap encI = l.map (Value.int .i64) := by
      intro l
      induction l with
      | nil => rfl
      | cons x l ih => simpa using ih
    rw [em] at hm ht
    have hb := hm.heap (b := b) Has.one
    have hlen : (xs.mergeSort fun x y => decide (x ≤ y)).length = xs.length := List.length_mergeSort _
    refine (h1 b pre.length cap xs w (hm.holds ht) (Array.getElem?_eq_some_iff.1 hb).1 (by omega)).mono ?_
    rintro e' w' ⟨rfl, n, os, hw⟩
    refine ⟨_, _, rfl, ⟨rfl, _, rfl, ?_⟩, hm.putRow hlen hw⟩
    refine ⟨fun _ _ => rfl, .inr ⟨b, cap, pre, sp, fr, by rw [hlen], by rw [em], by rw [hlen]; exact hc, by rw [hlen]; exact hs, ?_⟩⟩
    rw [em]
    unfold thawed at ht ⊢
    simp only [List.length_append, List.length_map] at ht ⊢
    rw [hlen]
    exact ht
end Go.Sx
end

section
namespace Go.Proofs.YtoalhcodigpgkaaGreatDoor.Sx
open Go Go.Sx Go.Pl
variable [Outer]

theorem sl_Sort {v : Value} {xs : List Int} {H : Chunk} {r : List Chunk} (ho : Own Go.Sx.encI 1 3 v xs H) (hl : xs.length ≤ 1073741824) :
    Fun Tryz.prog 63 [v] (H :: r) (fun v' hs' => v' = .tuple #[] ∧ ∃ H', hs' = H' :: r ∧ Own Go.Sx.encI 1 3 v (xs.mergeSort fun x y => decide (x ≤ y)) H') :=
  sorted_of ho hl Tryz.slices_Sort_int_none (fun b off cap zs w h1 h2 h3 => Tryz.slices_Sort_int b off cap zs w h1 h2 h3)

set_option maxHeartbeats 2000000 in
set_option maxRecDepth 100000 in
theorem buf_Dirty {p pd pw : Value} {fs : List Fr} {H : Chunk} {r : List Chunk} (hp : IsPool 5 109 100 106 p pd pw fs H) : Fun Tryz.prog 37 [p] (H :: r) (fun v' hs' => ∃ H', hs' = H' :: H :: r ∧ Own Go.Sx.encI 1 3 v' (poolDirty fs) H') := by
  refine Fun.enter 32 Tryz.func37 rfl Tryz.ntmps37 rfl ?_
  obtain ⟨b, v, ts, Kl, hpp, hfe, hP, hH⟩ := hp.is
  subst hpp
  subst hH
  subst hfe
  have hfl := frs_length ts
  have hplen := ptrs_length ts
  obtain ⟨av, cv, hv⟩ := (hP.own.row (hs := r)).len
  subst hv
  refine TT.perm perm3 ?_
  have hfew := hP.few
  refine TT.seq (.region (.pures hT 1 rfl (.nil (.seq (.seq (.seq (.region (.pures hT 2 rfl (.nil (.seq (.cond_false rfl (.skip (.seq (.seq (.region (.pures hT 1 rfl (.nil (.seq (.seq (.seq (.region (.pures hT 3 rfl (.load rfl rfl (Ld.slc hT rfl hz rfl) rfl ?_)))))))))))))))))))))))
  refine OT.pures hT 2 rfl (.nil (.seq (.block (.chunk0 (.loop (ι := Nat × Value × Chunk) (fun j => (j.1) ≤ ts.length ∧ Own Go.Sx.encI 1 3 (j.2.1) (dirties ((frs ts).take (j.1))) (j.2.2)) (fun j => ts.length - (j.1)) (fun j => [(0, .pointer (some ⟨b, 0, none⟩)), (3, (j.2.1)), (11, .slice av (ptrs ts).length cv), (12, .int .i64 (ptrs ts).length), (13, .int .i64 ((j.1) : Nat))]) (fun j => (j.2.2) :: [(b, blk [pd, pw, (.slice av (ptrs ts).length cv)] 100 (0, 0))] :: Kl :: chunk ts :: r) (0, .slice none 0 0, []) ?_ (SubR.cons rfl (SubR.cons rfl (SubR.cons rfl (SubR.cons rfl (SubR.cons rfl (SubR.nil _)))))) sl ?_)))))
  · dsimp only
    exact ⟨by omega, Own.nil⟩
  rintro ⟨i, w, W⟩ hI
  dsimp only at hI
  obtain ⟨hi, hW⟩ := hI
  show TT _ _ _ [(0, .pointer (some ⟨b, 0, none⟩)), (3, w), (11, .slice av (ptrs ts).length cv), (12, .int .i64 (ptrs ts).length), (13, .int .i64 (i : Nat))] (W :: [(b, blk [pd, pw, (.slice av (ptrs ts).length cv)] 100 (0, 0))] :: Kl :: chunk ts :: r)
  have hdl : (dirties ((frs ts).take i)).length ≤ i := by unfold dirties; rw [List.length_map]; exact Nat.le_trans (List.length_filter_le _ _) (List.length_take_le _ _)
  refine TT.seq (.region (.pures hT 1 rfl (.nil (.seq (.seq (.cond rfl (fun c14 => ?_) (fun c14 => ?_)))))))
  ·
    have c14 := of_decide_eq_true c14
    obtain ⟨t, ht⟩ := nth (l := ts) (i := i) (by omega)
    have hpt := ptrs_at ht
    have hft := frs_at ht
    obtain ⟨bf, vb, Kb, hq1, hq2, hq3, hq4, hq5⟩ := chunk_has hP.all (List.mem_of_getElem? ht)
    refine TT.skip (.seq (.seq (.block (.seq (.region (.index hT rfl rfl rfl rfl (hP.own.row.there.there) (by omega) hpt rfl (fun ad_15 hel_15 => ?_)))))))
    refine OT.load rfl rfl (hel_15.ld_one hT rfl rfl) rfl (.reg 16 rfl (v := .pointer (some ⟨bf, 0, none⟩)) hq1 (.pures hT 1 rfl (.nil (.seq (.seq (.region (.pures hT 3 rfl (.load rfl rfl (Ld.one hT rfl (.there (.there (.there (.here hq5)))) rfl) rfl (.nil (.seq (.cond rfl (fun c20 => ?_) (fun c20 => ?_))))))))))))
    ·
      have hds : dirties ((frs ts).take (i + 1)) = dirties ((frs ts).take i) ++ [t.2.1.no] := by unfold dirties; rw [take_succ hft, List.filter_append, List.map_append]; simp [show t.2.1.dirty = true from c20]
      refine TT.region (.pures hT 4 rfl (.load rfl rfl (Ld.one hT rfl (.there (.there (.there (.here hq5)))) rfl) rfl ?_))
      refine OT.buildSlice (enc := Go.Sx.encI) (xs := [t.2.1.no]) (xos := [.tmp 25]) el22 rfl rfl rfl rfl rfl (by simp [Value.cells]) (fun _ _ => rfl) rfl (by decide) rfl (fun v_26 H_26 ho_26 => ?_)
      refine OT.append hT el22 rfl rfl rfl rfl pl hW ro rfl (by simp only [List.length_cons, List.length_nil]; omega) rfl (fun v_27 H_27 ho_27 => ?_)
      refine OT.pures hT 1 rfl (.nil (.blk (.seq (.region (.pures hT 2 rfl (.nil (.loop (i + 1, v_27, H_27) ?_ ?_ (SubR.cons rfl (SubR.cons rfl (SubR.cons rfl (SubR.cons rfl (SubR.cons' rfl (by (try dsimp only); exact (int_eq (by rw [wrap_i64 (by omega) (by omega)]; omega))) (SubR.nil _)))))) sl)))))))
      · dsimp only
        exact ⟨by omega, by rw [hds]; exact ho_27⟩
      · dsimp only
        omega
    ·
      have hds : dirties ((frs ts).take (i + 1)) = dirties ((frs ts).take i) := by unfold dirties; rw [take_succ hft, List.filter_append, List.map_append]; simp [show t.2.1.dirty = false from c20]
      refine TT.skip (.blk (.seq (.region (.pures hT 2 rfl (.nil (.loop (i + 1, w, W) ?_ ?_ (SubR.cons rfl (SubR.cons rfl (SubR.cons rfl (SubR.cons rfl (SubR.cons' rfl (by (try dsimp only); exact (int_eq (by rw [wrap_i64 (by omega) (by omega)]; omega))) (SubR.nil _)))))) sl))))))
      · dsimp only
        exact ⟨by omega, by rw [hds]; exact hW⟩
      · dsimp only
        omega
  ·
    have c14 := of_decide_eq_false c14
    obtain rfl : i = ts.length := by omega
    rw [show (frs ts).take ts.length = frs ts by rw [← hfl, List.take_length]] at hW hdl
    refine TT.exit (.seq (.loop (.here (.seq (.seq (.region (.pures hT 1 rfl (.call Tryz.call63 rfl rfl rfl rfl (sl_Sort hW (by omega)) ?_))))))))
    rintro v_30 hs_30 ⟨rfl, H2, rfl, ho2⟩
    refine OT.nil (.seq (.seq (.region (.pures hT 2 rfl (.nil (.seq (.ret (.of (rs := [.tmp 2]) [_] (H2 :: ([(b, blk [pd, pw, (.slice av (ptrs ts).length cv)] 100 (0, 0))] ++ (Kl ++ chunk ts)) :: r) rfl (.tmp rfl .nil) sl ?_))))))))
    dsimp only [one]
    exact ⟨_, rfl, ho2⟩

set_option maxHeartbeats 1000000 in
set_option maxRecDepth 100000 in
theorem buf_Page0 {no : Int} {r : List Chunk} : Fun Tryz.prog 38 [.pointer none, .int .i64 no] r (fun v' hs' => v' = .tuple ⟨[.slice none 0 0, .int .i64 5]⟩ ∧ r = hs') := by
  refine Fun.enter 72 Tryz.func38 rfl Tryz.ntmps38 rfl ?_
  refine TT.seq (.region (.pures hT 2 rfl (.nil (.seq (.seq (.seq (.region (.pures hT 2 rfl (.call Tryz.call55 rfl rfl rfl rfl (buf_may0) ?_)))))))))
  rintro v_13 hs_13 ⟨rfl, rfl⟩
  refine OT.pures hT 1 rfl (.nil (.seq (.seq (.region (.pures hT 2 rfl (.nil (.seq (.cond rfl (fun c15 => ?_) (fun c15 => ?_)))))))))
  ·
    refine TT.seq (.region (.pures hT 3 rfl (.nil (.seq (.ret (.of (rs := [.tmp 4, .tmp 5]) [_, _] r rfl (.tmp rfl (.tmp rfl .nil)) sl ?_))))))
    dsimp only [one]
    exact ⟨rfl, rfl⟩
  ·
    exact absurd c15 (by decide)

set_option maxHeartbeats 1000000 in
set_option maxRecDepth 100000 in
theorem buf_Put0 {no : Int} {vb : Value} {lsn : Int} {r : List Chunk} : Fun Tryz.prog 33 [.pointer none, .int .i64 no, vb, .int .i64 lsn] r (fun v' hs' => v' = .int .i64 5 ∧ r = hs') := by
  refine Fun.enter 57 Tryz.func33 rfl Tryz.ntmps33 rfl ?_
  refine TT.seq (.region (.pures hT 1 rfl (.nil (.seq (.seq (.seq (.region (.pures hT 2 rfl (.call Tryz.call55 rfl rfl rfl rfl (buf_may0) ?_)))))))))
  rintro v_13 hs_13 ⟨rfl, rfl⟩
  refine OT.pures hT 1 rfl (.nil (.seq (.seq (.region (.pures hT 2 rfl (.nil (.seq (.cond rfl (fun c15 => ?_) (fun c15 => ?_)))))))))
  ·
    refine TT.seq (.region (.pures hT 2 rfl (.nil (.seq (.ret (.of (rs := [.tmp 8]) [_] r rfl (.tmp rfl .nil) sl ?_))))))
    dsimp only [one]
    exact ⟨rfl, rfl⟩
  ·
    exact absurd c15 (by decide)

set_option maxHeartbeats 1000000 in
set_option maxRecDepth 100000 in
theorem buf_Flush0 {no : Int} {r : List Chunk} : Fun Tryz.prog 34 [.pointer none, .int .i64 no] r (fun v' hs' => v' = .int .i64 5 ∧ r = hs') := by
  refine Fun.enter 31 Tryz.func34 rfl Tryz.ntmps34 rfl ?_
  refine TT.seq (.region (.box rfl rfl rfl (fun b_3 => ?_)))
  refine OT.pures hT 1 rfl (.nil (.seq (.seq (.seq (.region (.pures hT 1 rfl (.load rfl rfl (Ld.one hT rfl hz rfl) rfl ?_)))))))
  refine OT.call Tryz.call55 rfl rfl rfl rfl (buf_may0) ?_
  rintro v_9 hs_9 ⟨rfl, rfl⟩
  refine OT.pures hT 1 rfl (.nil (.seq (.seq (.region (.pures hT 2 rfl (.nil (.seq (.cond rfl (fun c11 => ?_) (fun c11 => ?_)))))))))
  ·
    refine TT.seq (.region (.pures hT 2 rfl (.nil (.seq (.ret (.of (rs := [.tmp 4]) [_] r rfl (.tmp rfl .nil) sl ?_))))))
    dsimp only [one]
    exact ⟨rfl, rfl⟩
  ·
    exact absurd c11 (by decide)

set_option maxHeartbeats 1000000 in
set_option maxRecDepth 100000 in
theorem buf_All0 {r : List Chunk} : Fun Tryz.prog 35 [.pointer none] r (fun v' hs' => v' = .int .i64 5 ∧ r = hs') := by
  refine Fun.enter 29 Tryz.func35 rfl Tryz.ntmps35 rfl ?_
  refine TT.seq (.region (.pures hT 1 rfl (.nil (.seq (.seq (.seq (.region (.pures hT 2 rfl (.nil (.seq (.cond_true rfl (.seq (.region (.pures hT 1 rfl (.nil (.seq (.ret (.of (rs := [.tmp 2]) [_] r rfl (.tmp rfl .nil) sl ?_))))))))))))))))))
  dsimp only [one]
  exact ⟨rfl, rfl⟩

set_option maxHeartbeats 1000000 in
set_option maxRecDepth 100000 in
theorem buf_Dirty0 {r : List Chunk} : Fun Tryz.prog 37 [.pointer none] r (fun v' hs' => v' = .slice none 0 0 ∧ r = hs') := by
  refine Fun.enter 32 Tryz.func37 rfl Tryz.ntmps37 rfl ?_
  refine TT.seq (.region (.pures hT 1 rfl (.nil (.seq (.seq (.seq (.region (.pures hT 2 rfl (.nil (.seq (.cond_true rfl (.seq (.region (.pures hT 1 rfl (.nil (.seq (.ret (.of (rs := [.tmp 2]) [_] r rfl (.tmp rfl .nil) sl ?_))))))))))))))))))
  dsimp only [one]
  exact ⟨rfl, rfl⟩


end Go.Proofs.YtoalhcodigpgkaaGreatDoor.Sx
end

section
namespace Go.Proofs.YtoalhcodigpgkaaGreatDoor.Sx
open Go Go.Sx Go.Pl
variable [Outer]

set_option maxHeartbeats 2000000 in
set_option maxRecDepth 100000 in
theorem core_Dirty {p pd : Value} {c : Cor} {H : Chunk} {r : List Chunk} (hc : IsCor 5 2 125 97 109 100 106 66 p pd c H) (hup : c.down = false) : Fun Tryz.prog 12 [p] (H :: r) (fun v' hs' => ∃ H1, hs' = H1 :: H :: r ∧ Own Go.Sx.encI 1 3 v' (poolDirty c.fs) H1) := by
  refine Fun.enter 10 Tryz.func12 rfl Tryz.ntmps12 rfl ?_
  obtain ⟨b, pw, pp, HP, HL, hpp, hP, hL, hH⟩ := hc.is
  subst hpp
  subst hH
  obtain ⟨bw, hpw⟩ := hL.ptr
  obtain ⟨bq, _, _, _, hpq, _⟩ := hP.is
  subst hpw
  subst hpq
  refine TT.perm perm3 (.seq (.region (.pures hT 1 rfl (.nil (.seq (.seq (.seq (.region (.pures hT 1 rfl (.call Tryz.call14 rfl rfl rfl rfl (core_Down) ?_))))))))))
  rintro v_4 hs_4 ⟨rfl, rfl⟩
  refine OT.nil (.seq (.cond rfl (fun c4 => ?_) (fun c4 => ?_)))
  ·
    exact absurd c4 (by rw [hup]; decide)
  ·
    refine TT.skip (.seq (.seq (.region (.pures hT 3 rfl (.load rfl rfl (Ld.one hT rfl hz rfl) rfl ?_)))))
    refine OT.call Tryz.call37 rfl rfl rfl rfl (Fun.pull pl (buf_Dirty hP)) ?_
    rintro v_9 hs_9 ⟨HI, rfl, hoI⟩
    refine OT.pures hT 1 rfl (.nil (.seq (.ret (.of (rs := [.tmp 2]) [_] (HI :: ([(b, blk [.pointer (some ⟨bw, 0, none⟩), .pointer (some ⟨bq, 0, none⟩), .bool c.down] 66 (0, 0))] ++ (HP ++ HL)) :: r) rfl (.tmp rfl .nil) sl ?_))))
    dsimp only [one]
    exact ⟨_, rfl, hoI⟩

omit [Outer] in
/-- a core that is up, all its pages clean -/
structure CleanAt (Can : Pages → Prop) (now : Pages) (n : Nat) (cm : Prop) (p pd : Value) (H HD : Chunk) : Prop where
  is : ∃ c, IsCor 5 2 125 97 109 100 106 66 p pd c H ∧ IsDev 83 69 pd c.d HD ∧ CorI Can now c n ∧ CalmIf cm c.d ∧ ∀ f ∈ c.fs, f.dirty = false

section
variable {Can Can' : Pages → Prop} {now now' : Pages} {n n' : Nat} {cm cm' : Prop} {p pd : Value} {H HD : Chunk} {r : List Chunk}

omit [Outer] in
theorem CleanAt.at (h : CleanAt Can now n cm p pd H HD) : CoreAt Can now n cm p pd H HD := by
  obtain ⟨c, h1, h2, h3, h4, _⟩ := h.is; exact ⟨c, h1, h2, h3, h4⟩

theorem up_CheckC (h : CoreAt Can now n cm p pd H HD) (hn : n ≤ 100000000000) : Fun Tryz.prog 11 [p] (H :: HD :: r) (fun v' hs' => ∃ e H' HD', hs' = H' :: HD' :: r ∧ v' = .int .i64 e ∧ ((e = 0 ∧ CleanAt (fun P => EqP P now) now (n + 1) cm p pd H' HD') ∨ (e = 5 ∧ ¬ cm ∧ DownAt Can (n + 1) p pd H' HD'))) := by
  obtain ⟨c, h1, h2, h3, h4⟩ := h.is
  refine (core_Check h1 h2 (fun _ => h3.fine hn) (fun _ => h3.cutOk hn)).mono ?_
  rintro v' hs' ⟨H', HD', rfl, rfl, k2, k3⟩
  refine ⟨_, H', HD', rfl, rfl, ?_⟩
  have hk := (calmIf_kept cm).ccheck c h4
  obtain ⟨e0, q, qd, _⟩ | ⟨e5, q1, q2, q3⟩ := h3.check hn
  · exact .inl ⟨e0, ⟨_, k2, k3, q, hk, qd⟩⟩
  · exact .inr ⟨e5, gone_not hk q2, ⟨_, k2, k3, q1, q2, q3⟩⟩

theorem up_Dirty (h : CleanAt Can now n cm p pd H HD) : Fun Tryz.prog 12 [p] (H :: r) (fun v' hs' => ∃ H1, hs' = H1 :: H :: r ∧ Own Go.Sx.encI 1 3 v' [] H1) := by
  obtain ⟨c, h1, h2, h3, h4, h5⟩ := h.is
  have := core_Dirty (r := r) h1 h3.up
  rw [poolDirty_nil h5] at this
  exact this

end

set_option maxHeartbeats 8000000 in
set_option maxRecDepth 100000 in
theorem law_CoreFlush {v0 v1 v2 : Value} {ns fs : List Int} {ks : List Bool} {hs : List Chunk} (hn : Row Go.Sx.encI 1 hs v0 ns) (hnr : ∀ z ∈ ns, -9223372036854775808 ≤ z ∧ z ≤ 9223372036854775807) (hnl : ns.length ≤ 9223372036854775807) (hf : Row Go.Sx.encI 1 hs v1 fs) (hfr : ∀ z ∈ fs, -9223372036854775808 ≤ z ∧ z ≤ 9223372036854775807) (hk : Row Go.Sx.encBool 1 hs v2 ks) : Fun Tryz.prog 3 [v0, v1, v2] hs (fun v' hs' => v' = .bool true ∧ hs = hs') := by
  refine Fun.enter 117 Tryz.func3 rfl Tryz.ntmps3 rfl ?_
  obtain ⟨a0, c0, hv0⟩ := hn.len
  subst hv0
  obtain ⟨a1, c1, hv1⟩ := hf.len
  subst hv1
  obtain ⟨a2, c2, hv2⟩ := hk.len
  subst hv2
  have hzero : (Value.agg Tryz.zeroCells31).cells.toList = (noughts 96).flatMap Go.Sx.encB := by kernel_rfl
  refine TT.seq (.region (.pures hT 1 rfl (.nil (.seq (.seq (.region (.call Tryz.call5 rfl rfl rfl rfl (law19_begun) ?_)))))))
  rintro v_16 hs_16 ⟨rfl, rfl⟩
  refine OT.pures hT 1 rfl (.nil (.seq (.seq (.seq (.region (.pures hT 2 rfl (.nil (.seq (.cond_false rfl (.skip (.seq (.seq (.region (.call Tryz.call7 rfl rfl rfl rfl (dev_New (n := 1410)) ?_))))))))))))))
  rintro v_20 hs_20 ⟨HD, rfl, hd⟩
  obtain ⟨bd, hpd⟩ := hd.ptr
  subst hpd
  refine OT.call Tryz.call6 rfl rfl rfl rfl (up_Make hd) ?_
  rintro v_21 hs_21 ⟨q, HC, HD1, rfl, rfl, hc⟩
  obtain ⟨bc, hq⟩ := hc.ptr
  subst hq
  refine OT.pures hT 5 rfl (.nil (.seq (.seq (.seq (.region (.pures hT 2 rfl (.nil (.seq (.cond_false rfl (.skip (.seq (.seq (.region (.alloc Tryz.zeroValue31 rfl rfl (fun b_10 => ?_)))))))))))))))
  refine OT.nil (.seq (.seq (.seq (.region (.pures hT 1 rfl (.nil (.seq (.block (.loop (ι := Nat × (List UInt8) × (Pages → Prop) × Pages × Chunk × Chunk) (fun j => (j.1) ≤ ns.length ∧ (j.1) ≤ 25 ∧ (j.2.1).length = 96 ∧ Firsts (j.2.2.2.1) (j.2.1) ∧ CoreAt (j.2.2.1) (j.2.2.2.1) (1 + 10 * (j.1)) True (.pointer (some ⟨bc, 0, none⟩)) (.pointer (some ⟨bd, 0, none⟩)) (j.2.2.2.2.1) (j.2.2.2.2.2)) (fun j => ns.length - (j.1)) (fun j => [(0, .slice a0 ns.length c0), (1, .slice a1 fs.length c1), (2, .slice a2 ks.length c2), (8, .pointer (some ⟨bc, 0, none⟩)), (10, .pointer (some ⟨b_10, 0, none⟩)), (11, .int .i64 ((j.1) : Nat))]) (fun j => [(b_10, blk ((j.2.1).flatMap Go.Sx.encB) 31 (0, 0))] :: (j.2.2.2.2.1) :: (j.2.2.2.2.2) :: hs) (0, noughts 96, (fun P => EqP P zeroP), zeroP, HC, HD1) ?_ (SubR.cons rfl (SubR.cons rfl (SubR.cons rfl (SubR.cons rfl (SubR.cons rfl (SubR.cons rfl (SubR.nil _))))))) (by rw [hzero]; exact sl) ?_)))))))))
  · dsimp only
    exact ⟨by omega, by omega, by simp [noughts], Firsts.zero, hc⟩
  rintro ⟨i, nb, Can, P, HC, HD⟩ hI
  dsimp only at hI
  obtain ⟨hi, hi25, hnb, hF, hc⟩ := hI
  show TT _ _ _ [(0, .slice a0 ns.length c0), (1, .slice a1 fs.length c1), (2, .slice a2 ks.length c2), (8, .pointer (some ⟨bc, 0, none⟩)), (10, .pointer (some ⟨b_10, 0, none⟩)), (11, .int .i64 (i : Nat))] ([(b_10, blk (nb.flatMap Go.Sx.encB) 31 (0, 0))] :: HC :: HD :: hs)
  refine TT.seq (.seq (.region (.pures hT 5 rfl (.split 30 rfl (fun g30 => ?_) (fun g30 => ?_)))))
  ·
    have g30 := of_decide_eq_true g30
    refine OT.pures hT 3 rfl (.nil (.seq (.cond rfl (fun c33 => ?_) (fun c33 => ?_))))
    ·
      have c33 := of_decide_eq_true c33
      obtain ⟨y, hyk⟩ := nth (l := ns) (i := i) (by omega)
      obtain ⟨hy0, hy1⟩ := hnr y (List.mem_of_getElem? hyk)
      have hyd : ns.getD i 0 = y := by rw [List.getD_eq_getElem?_getD, hyk]; rfl
      obtain ⟨hm1, hm2⟩ := modOf_eq (m := 96) (y := y) (by omega) hy0 hy1
      rw [← hyd] at hm1 hm2
      refine TT.skip (.seq (.seq (.block (.seq (.region (.pures hT 2 rfl (.index hT rfl rfl rfl rfl hn.there.there.there (by omega) hyk rfl (fun ad_38 hel_38 => ?_))))))))
      refine OT.load rfl rfl (hel_38.ld_one hT rfl rfl) rfl (.pures hT 4 rfl (.nil (.seq (.seq (.region (.pures hT 4 rfl (.reg 43 rfl (v := .int .i64 ((modOf 96 (ns.getD i 0)) : Nat)) (int_eq (by rw [← hyd]; exact hm1)) (.reg 12 rfl (v := .int .i64 ((modOf 96 (ns.getD i 0)) : Nat)) (int_eq (by rw [← hyd]; exact hm1)) (.reg 46 rfl (v := .int .u8 ((UInt8.ofNat (i + 1)).toNat : Int)) (int_eq (by rw [wrap_i64 (by omega) (by omega)]; exact byte_of (i + 1))) (.index_at hT rfl rfl rfl rfl (by omega) (by omega) rfl (.store hT rfl rfl rfl rfl pl rfl (by rw [length_bytes, hnb]; show 0 + (((modOf 96 (ns.getD i 0)) : Nat) : Int).toNat * 1 + 1 ≤ 96; omega) rfl (.inl (Nat.le_refl _)) (cs' := (nb.set (modOf 96 (ns.getD i 0)) (UInt8.ofNat (i + 1))).flatMap Go.Sx.encB) (bytes_set (k := (modOf 96 (ns.getD i 0))) (by omega) _ (by omega)) ?_)))))))))))
      refine OT.nil (.seq (.seq (.seq (.region (.pures hT 3 rfl (.index_at hT rfl rfl rfl rfl (by omega) (by omega) rfl (.load rfl rfl (Ld.one hT rfl hz (bytes_at (k := (modOf 96 (ns.getD i 0))) (c := (UInt8.ofNat (i + 1))) (List.getElem?_set_self (by omega)) (by omega))) rfl ?_)))))))
      refine OT.buildSlice (enc := Go.Sx.encB) (xs := [(UInt8.ofNat (i + 1))]) (xos := [.tmp 52]) el33 rfl rfl rfl rfl rfl (by simp [Value.cells]) (fun _ _ => rfl) rfl (by decide) rfl (fun v_53 H_53 ho_53 => ?_)
      refine OT.call Tryz.call9 rfl rfl rfl rfl (law9_Of ho_53.row (by simp)) ?_
      rintro v_54 hs_54 ⟨HB, rfl, hoB⟩
      obtain ⟨aB, cB, hvB⟩ := (hoB.row (hs := hs)).len
      subst hvB
      have hpl : (pageOf [(UInt8.ofNat (i + 1))]).length = 256 := pageOf_length (by simp)
      have hmp : mayPage ((modOf 96 (ns.getD i 0)) : Nat) := ⟨by omega, by omega⟩
      refine OT.build (cs := [.int .i64 ((modOf 96 (ns.getD i 0)) : Nat), .slice aB (pageOf [(UInt8.ofNat (i + 1))]).length cB]) hT rfl Tryz.zeroValue36 rfl rfl rfl rfl ?_
      refine OT.buildSlice (enc := encIm) (xs := [(⟨((modOf 96 (ns.getD i 0)) : Nat), .slice aB (pageOf [(UInt8.ofNat (i + 1))]).length cB, (pageOf [(UInt8.ofNat (i + 1))])⟩ : Im)]) (xos := [.tmp 55]) el37 rfl rfl rfl rfl rfl (by simp [Value.cells]) (fun _ _ => rfl) rfl (by decide) rfl (fun v_56 H_56 ho_56 => ?_)
      refine OT.call Tryz.call8 rfl rfl rfl rfl (Fun.weaken (hs' := HC :: HD :: H_56 :: HB :: [(b_10, blk ((nb.set (modOf 96 (ns.getD i 0)) (UInt8.ofNat (i + 1))).flatMap Go.Sx.encB) 31 (0, 0))] :: hs) sl (up_Apply hc (by omega) (ims_of ho_56.row (fun t ht => by
              rw [List.mem_singleton] at ht; subst ht
              exact ⟨hoB.row.there, hpl⟩) (by simp)) (one_may hmp hpl))) ?_
      rintro v_57 hs_57 ⟨e1, HC1, HD2, rfl, rfl, hres1⟩
      obtain ⟨rfl, hc1⟩ := up_ok hres1
      refine OT.pures hT 1 rfl (.nil (.seq (.cond_false rfl (.skip (.seq (.cut (ι := Chunk × Chunk) (fun j => CoreAt (fun P' => Can P' ∨ EqP P' (upd P ((modOf 96 (ns.getD i 0)) : Nat) (pageOf [(UInt8.ofNat (i + 1))]))) (upd P ((modOf 96 (ns.getD i 0)) : Nat) (pageOf [(UInt8.ofNat (i + 1))])) (1 + 10 * i + 3) True (.pointer (some ⟨bc, 0, none⟩)) (.pointer (some ⟨bd, 0, none⟩)) (j.1) (j.2)) (fun j => [(0, .slice a0 ns.length c0), (1, .slice a1 fs.length c1), (2, .slice a2 ks.length c2), (8, .pointer (some ⟨bc, 0, none⟩)), (10, .pointer (some ⟨b_10, 0, none⟩)), (11, .int .i64 (i : Nat))]) (fun j => [(b_10, blk ((nb.set (modOf 96 (ns.getD i 0)) (UInt8.ofNat (i + 1))).flatMap Go.Sx.encB) 31 (0, 0))] :: (j.1) :: (j.2) :: hs) ?_ ?_))))))
      ·
        refine TT.seq (.region (.pures hT 5 rfl (.split 63 rfl (fun g63 => ?_) (fun g63 => ?_))))
        ·
          have g63 := of_decide_eq_true g63
          obtain ⟨y2, hyk2⟩ := nth (l := fs) (i := i) (by omega)
          obtain ⟨hy20, hy21⟩ := hfr y2 (List.mem_of_getElem? hyk2)
          have hyd2 : fs.getD i 0 = y2 := by rw [List.getD_eq_getElem?_getD, hyk2]; rfl
          obtain ⟨hm3, hm4⟩ := modOf_eq (m := 96) (y := y2) (by omega) hy20 hy21
          rw [← hyd2] at hm3 hm4
          refine OT.pures hT 3 rfl (.index hT rfl rfl rfl rfl (hf.mono fun _ _ => Has.sel sl) (by omega) hyk2 rfl (fun ad_67 hel_67 => ?_))
          refine OT.load rfl rfl (hel_67.ld_one hT rfl rfl) rfl (.pures hT 3 rfl (.reg 71 rfl (v := .int .i64 ((modOf 96 (fs.getD i 0)) : Nat)) (int_eq (by rw [← hyd2]; exact hm3)) (.call Tryz.call10 rfl rfl rfl rfl (up_Flush hc1 (by omega) (no := ((modOf 96 (fs.getD i 0)) : Nat)) ⟨by omega, by omega⟩) ?_)))
          rintro v_72 hs_72 ⟨e2, HC2, HD3, rfl, rfl, hres2⟩
          obtain ⟨rfl, hc2⟩ := up_ok hres2
          refine OT.pures hT 2 rfl (.nil (.seq (.cond_false rfl (.skip (.cut (HC2, HD3) ?_ (SubR.cons rfl (SubR.cons rfl (SubR.cons rfl (SubR.cons rfl (SubR.cons rfl (SubR.cons rfl (SubR.nil _))))))) sl)))))
          · dsimp only
            exact hc2.mono (fun _ h => h) (by omega) id
        ·
          refine OT.pures hT 11 rfl (.nil (.seq (.cond_false rfl (.skip (.cut (HC1, HD2) ?_ (SubR.cons rfl (SubR.cons rfl (SubR.cons rfl (SubR.cons rfl (SubR.cons rfl (SubR.cons rfl (SubR.nil _))))))) sl)))))
          · dsimp only
            exact hc1.mono (fun _ h => h) (by omega) id
      ·
        rintro ⟨HC, HD⟩ hI
        dsimp only at hI
        have hc2 := hI
        show TT _ _ _ [(0, .slice a0 ns.length c0), (1, .slice a1 fs.length c1), (2, .slice a2 ks.length c2), (8, .pointer (some ⟨bc, 0, none⟩)), (10, .pointer (some ⟨b_10, 0, none⟩)), (11, .int .i64 (i : Nat))] ([(b_10, blk ((nb.set (modOf 96 (ns.getD i 0)) (UInt8.ofNat (i + 1))).flatMap Go.Sx.encB) 31 (0, 0))] :: HC :: HD :: hs)
        refine TT.seq (.region (.pures hT 5 rfl (.split 79 rfl (fun g79 => ?_) (fun g79 => ?_))))
        ·
          have g79 := of_decide_eq_true g79
          obtain ⟨y3, hyk3⟩ := nth (l := ks) (i := i) (by omega)
          refine OT.pures hT 2 rfl (.index hT rfl rfl rfl rfl hk.there.there.there (by omega) hyk3 rfl (fun ad_82 hel_82 => ?_))
          refine OT.load rfl rfl (hel_82.ld_one hT rfl rfl) rfl (.pures hT 2 rfl (.split 85 rfl (fun g85 => ?_) (fun g85 => ?_)))
          ·
            refine OT.pures hT 1 rfl (.call Tryz.call11 rfl rfl rfl rfl (Fun.weaken (hs' := HC :: HD :: [(b_10, blk ((nb.set (modOf 96 (ns.getD i 0)) (UInt8.ofNat (i + 1))).flatMap Go.Sx.encB) 31 (0, 0))] :: hs) sl (up_CheckC hc2 (by omega))) ?_)
            rintro v_87 hs_87 ⟨e4, HC4, HD4, rfl, rfl, hres4⟩
            obtain ⟨rfl, hc4⟩ := up_ok hres4
            refine OT.pures hT 2 rfl (.pures hT 1 rfl (.call Tryz.call12 rfl rfl rfl rfl (up_Dirty hc4) ?_))
            rintro v_91 hs_91 ⟨HI, rfl, hoI⟩
            obtain ⟨aI, cI, hvI⟩ := (hoI.row (hs := hs)).len
            subst hvI
            refine OT.pures hT 4 rfl (.nil (.seq (.cond_false rfl (.skip (.blk (.seq (.region (.pures hT 3 rfl (.nil (.loop (i + 1, nb.set (modOf 96 (ns.getD i 0)) (UInt8.ofNat (i + 1)), (fun P' => EqP P' (upd P ((modOf 96 (ns.getD i 0)) : Nat) (pageOf [(UInt8.ofNat (i + 1))]))), (upd P ((modOf 96 (ns.getD i 0)) : Nat) (pageOf [(UInt8.ofNat (i + 1))])), HC4, HD4) ?_ ?_ (SubR.cons rfl (SubR.cons rfl (SubR.cons rfl (SubR.cons rfl (SubR.cons rfl (SubR.cons' rfl (by (try dsimp only); exact (int_eq (by rw [wrap_i64 (by omega) (by omega)]; omega))) (SubR.nil _))))))) sl))))))))))
            · dsimp only
              exact ⟨by omega, by omega, by rw [List.length_set]; exact hnb, hF.set hnb (by omega) rfl, hc4.at.mono (fun _ h => h) (by omega) id⟩
            · dsimp only
              omega
          ·
            refine OT.pures hT 10 rfl (.nil (.seq (.cond_false rfl (.skip (.blk (.seq (.region (.pures hT 3 rfl (.nil (.loop (i + 1, nb.set (modOf 96 (ns.getD i 0)) (UInt8.ofNat (i + 1)), (fun P' => Can P' ∨ EqP P' (upd P ((modOf 96 (ns.getD i 0)) : Nat) (pageOf [(UInt8.ofNat (i + 1))]))), (upd P ((modOf 96 (ns.getD i 0)) : Nat) (pageOf [(UInt8.ofNat (i + 1))])), HC, HD) ?_ ?_ (SubR.cons rfl (SubR.cons rfl (SubR.cons rfl (SubR.cons rfl (SubR.cons rfl (SubR.cons' rfl (by (try dsimp only); exact (int_eq (by rw [wrap_i64 (by omega) (by omega)]; omega))) (SubR.nil _))))))) sl))))))))))
            · dsimp only
              exact ⟨by omega, by omega, by rw [List.length_set]; exact hnb, hF.set hnb (by omega) rfl, hc2.mono (fun _ h => h) (by omega) id⟩
            · dsimp only
              omega
        ·
          refine OT.pures hT 16 rfl (.nil (.seq (.cond_false rfl (.skip (.blk (.seq (.region (.pures hT 3 rfl (.nil (.loop (i + 1, nb.set (modOf 96 (ns.getD i 0)) (UInt8.ofNat (i + 1)), (fun P' => Can P' ∨ EqP P' (upd P ((modOf 96 (ns.getD i 0)) : Nat) (pageOf [(UInt8.ofNat (i + 1))]))), (upd P ((modOf 96 (ns.getD i 0)) : Nat) (pageOf [(UInt8.ofNat (i + 1))])), HC, HD) ?_ ?_ (SubR.cons rfl (SubR.cons rfl (SubR.cons rfl (SubR.cons rfl (SubR.cons rfl (SubR.cons' rfl (by (try dsimp only); exact (int_eq (by rw [wrap_i64 (by omega) (by omega)]; omega))) (SubR.nil _))))))) sl))))))))))
          · dsimp only
            exact ⟨by omega, by omega, by rw [List.length_set]; exact hnb, hF.set hnb (by omega) rfl, hc2.mono (fun _ h => h) (by omega) id⟩
          · dsimp only
            omega
    ·
      refine TT.exit (.seq (.loop (.here (.seq (.seq (.seq (.region (.pures hT 1 rfl (.nil (.seq (.block (.loop (ι := Nat × Chunk × Chunk) (fun j => (j.1) ≤ 96 ∧ CoreAt Can P (1000 + (j.1)) True (.pointer (some ⟨bc, 0, none⟩)) (.pointer (some ⟨bd, 0, none⟩)) (j.2.1) (j.2.2)) (fun j => 96 - (j.1)) (fun j => [(8, .pointer (some ⟨bc, 0, none⟩)), (10, .pointer (some ⟨b_10, 0, none⟩)), (13, .int .i64 ((j.1) : Nat))]) (fun j => [(b_10, blk (nb.flatMap Go.Sx.encB) 31 (0, 0))] :: (j.2.1) :: (j.2.2) :: hs) (0, HC, HD) ?_ (SubR.cons rfl (SubR.cons rfl (SubR.cons rfl (SubR.nil _)))) sl ?_))))))))))))
      · dsimp only
        exact ⟨by omega, hc.mono (fun _ h => h) (by omega) id⟩
      rintro ⟨k, HC, HD⟩ hI
      dsimp only at hI
      obtain ⟨hk96, hc⟩ := hI
      show TT _ _ _ [(8, .pointer (some ⟨bc, 0, none⟩)), (10, .pointer (some ⟨b_10, 0, none⟩)), (13, .int .i64 (k : Nat))] ([(b_10, blk (nb.flatMap Go.Sx.encB) 31 (0, 0))] :: HC :: HD :: hs)
      refine TT.seq (.seq (.region (.pures hT 2 rfl (.nil (.seq (.cond rfl (fun c97 => ?_) (fun c97 => ?_)))))))
      ·
        have c97 := of_decide_eq_true c97
        obtain ⟨z, hzz⟩ := nth (l := nb) (i := k) (by omega)
        have hPz : (P (k : Nat))[0]? = some z := by rw [hF k (by omega)]; exact hzz
        refine TT.skip (.seq (.seq (.block (.seq (.region (.pures hT 2 rfl (.call Tryz.call13 rfl rfl rfl rfl (Fun.weaken (hs' := HC :: HD :: [(b_10, blk (nb.flatMap Go.Sx.encB) 31 (0, 0))] :: hs) sl (up_Page hc (no := (k : Nat)) (by omega) ⟨by omega, by omega⟩)) ?_)))))))
        rintro v_103 hs_103 ⟨w5, e5, H5, HC5, HD5, rfl, rfl, hres5⟩
        obtain ⟨rfl, ho5, hc5⟩ := up_ok hres5
        obtain ⟨a5, c5, hv5⟩ := (ho5.row (hs := hs)).len
        subst hv5
        refine OT.pures hT 5 rfl (.nil (.seq (.seq (.draw (H5 :: HC5 :: HD5 :: [(b_10, blk (nb.flatMap Go.Sx.encB) 31 (0, 0))] :: hs) mixed (.takes (fuel := 8) hT [0, 1, 2] kr kr rfl (.takes (fuel := 6) hT [3, 6] kr kr rfl (.index (fuel := 5) hT 4 rfl kr kr kr rfl rfl rfl rfl ho5.row (by omega) hPz rfl (fun ad_110 hel_110 => ?_))))))))
        refine AT.take (fuel := 4) hT 5 rfl rfl kr kr kr rfl (.load rfl (hel_110.ld_one hT rfl rfl)) rfl (.index_at (fuel := 3) hT 7 rfl kr kr kr rfl rfl rfl rfl (by omega) (by omega) rfl (.take (fuel := 2) hT 8 rfl rfl kr kr kr rfl (.load rfl (Ld.one hT rfl hz (bytes_at (k := k) hzz (by omega)))) rfl ?_))
        refine AT.takes (fuel := 0) hT [9, 10] kr kr rfl (.done kr sl (.seq (.cond rfl (fun c116 => ?_) (fun c116 => ?_))))
        ·
          exact absurd c116 (by simp)
        ·
          refine TT.skip (.blk (.seq (.region (.pures hT 3 rfl (.nil (.loop (k + 1, HC5, HD5) ?_ ?_ (SubR.cons rfl (SubR.cons rfl (SubR.cons' rfl (by (try dsimp only); exact (int_eq (by rw [wrap_i64 (by omega) (by omega)]; omega))) (SubR.nil _)))) sl))))))
          · dsimp only
            exact ⟨by omega, hc5⟩
          · dsimp only
            omega
      ·
        refine TT.exit (.seq (.loop (.here (.seq (.seq (.region (.pures hT 1 rfl (.nil (.seq (.ret (.of (rs := [.tmp 6]) [_] hs rfl (.tmp rfl .nil) sl ?_)))))))))))
        dsimp only [one]
        exact ⟨rfl, rfl⟩
  ·
    have g30 := of_decide_eq_false g30
    refine OT.pures hT 3 rfl (.nil (.seq (.cond_false rfl (.exit (.seq (.loop (.here (.seq (.seq (.seq (.region (.pures hT 1 rfl (.nil (.seq (.block (.loop (ι := Nat × Chunk × Chunk) (fun j => (j.1) ≤ 96 ∧ CoreAt Can P (1000 + (j.1)) True (.pointer (some ⟨bc, 0, none⟩)) (.pointer (some ⟨bd, 0, none⟩)) (j.2.1) (j.2.2)) (fun j => 96 - (j.1)) (fun j => [(8, .pointer (some ⟨bc, 0, none⟩)), (10, .pointer (some ⟨b_10, 0, none⟩)), (13, .int .i64 ((j.1) : Nat))]) (fun j => [(b_10, blk (nb.flatMap Go.Sx.encB) 31 (0, 0))] :: (j.2.1) :: (j.2.2) :: hs) (0, HC, HD) ?_ (SubR.cons rfl (SubR.cons rfl (SubR.cons rfl (SubR.nil _)))) sl ?_))))))))))))))))
    · dsimp only
      exact ⟨by omega, hc.mono (fun _ h => h) (by omega) id⟩
    rintro ⟨k, HC, HD⟩ hI
    dsimp only at hI
    obtain ⟨hk96, hc⟩ := hI
    show TT _ _ _ [(8, .pointer (some ⟨bc, 0, none⟩)), (10, .pointer (some ⟨b_10, 0, none⟩)), (13, .int .i64 (k : Nat))] ([(b_10, blk (nb.flatMap Go.Sx.encB) 31 (0, 0))] :: HC :: HD :: hs)
    refine TT.seq (.seq (.region (.pures hT 2 rfl (.nil (.seq (.cond rfl (fun c97 => ?_) (fun c97 => ?_)))))))
    ·
      have c97 := of_decide_eq_true c97
      obtain ⟨z, hzz⟩ := nth (l := nb) (i := k) (by omega)
      have hPz : (P (k : Nat))[0]? = some z := by rw [hF k (by omega)]; exact hzz
      refine TT.skip (.seq (.seq (.block (.seq (.region (.pures hT 2 rfl (.call Tryz.call13 rfl rfl rfl rfl (Fun.weaken (hs' := HC :: HD :: [(b_10, blk (nb.flatMap Go.Sx.encB) 31 (0, 0))] :: hs) sl (up_Page hc (no := (k : Nat)) (by omega) ⟨by omega, by omega⟩)) ?_)))))))
      rintro v_103 hs_103 ⟨w5, e5, H5, HC5, HD5, rfl, rfl, hres5⟩
      obtain ⟨rfl, ho5, hc5⟩ := up_ok hres5
      obtain ⟨a5, c5, hv5⟩ := (ho5.row (hs := hs)).len
      subst hv5
      refine OT.pures hT 5 rfl (.nil (.seq (.seq (.draw (H5 :: HC5 :: HD5 :: [(b_10, blk (nb.flatMap Go.Sx.encB) 31 (0, 0))] :: hs) mixed (.takes (fuel := 8) hT [0, 1, 2] kr kr rfl (.takes (fuel := 6) hT [3, 6] kr kr rfl (.index (fuel := 5) hT 4 rfl kr kr kr rfl rfl rfl rfl ho5.row (by omega) hPz rfl (fun ad_110 hel_110 => ?_))))))))
      refine AT.take (fuel := 4) hT 5 rfl rfl kr kr kr rfl (.load rfl (hel_110.ld_one hT rfl rfl)) rfl (.index_at (fuel := 3) hT 7 rfl kr kr kr rfl rfl rfl rfl (by omega) (by omega) rfl (.take (fuel := 2) hT 8 rfl rfl kr kr kr rfl (.load rfl (Ld.one hT rfl hz (bytes_at (k := k) hzz (by omega)))) rfl ?_))
      refine AT.takes (fuel := 0) hT [9, 10] kr kr rfl (.done kr sl (.seq (.cond rfl (fun c116 => ?_) (fun c116 => ?_))))
      ·
        exact absurd c116 (by simp)
      ·
        refine TT.skip (.blk (.seq (.region (.pures hT 3 rfl (.nil (.loop (k + 1, HC5, HD5) ?_ ?_ (SubR.cons rfl (SubR.cons rfl (SubR.cons' rfl (by (try dsimp only); exact (int_eq (by rw [wrap_i64 (by omega) (by omega)]; omega))) (SubR.nil _)))) sl))))))
        · dsimp only
          exact ⟨by omega, hc5⟩
        · dsimp only
          omega
    ·
      refine TT.exit (.seq (.loop (.here (.seq (.seq (.region (.pures hT 1 rfl (.nil (.seq (.ret (.of (rs := [.tmp 6]) [_] hs rfl (.tmp rfl .nil) sl ?_)))))))))))
      dsimp only [one]
      exact ⟨rfl, rfl⟩

end Go.Proofs.YtoalhcodigpgkaaGreatDoor.Sx
end
