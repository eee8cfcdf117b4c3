/- Several texts in one. Revert: what must be changed so that pages are what a snapshot has. Printed by a program of ours off the loaded program and our notes; Lean checks it. Expand: what must be changed with some pages. Printed by a program of ours off the loaded program and our notes; Lean checks it. CowAll: a book and the document's own go side by side. Printed by a program of ours off the loaded program and our notes; Lean checks it. A change laid; a snapshot more. Printed by a program of ours off the loaded program and our notes; Lean checks it. CowFree, CowOnce: the laws of one snapshot, walked. Printed by a program of ours off the loaded program and our notes; Lean checks it. begun: one snapshot, one change. Printed by a program of ours off the loaded program and our notes; Lean checks it. CowTwo: of snapshots at unlike times each shows a page as it was then. Printed by a program of ours off the loaded program and our notes; Lean checks it. -/
import Derived.Test.YtnhkgchcdbideaaLH
import Derived.Test.YtnhkgchcdbideaaLE
import Derived.Test.YtnhkgchcdbideaaLB
import Derived.Test.YtnhkgchcdbideaaLC
import Derived.Test.YtnhkgchcdbideaaLF
import Derived.Test.YtnhkgchcdbideaaLD
import Derived.Test.YtnhkgchcdbideaaLG

section
namespace Go.Proofs.Ytnhkgchcdbideaa.Sx
open Go Go.Sx Go.Pl
variable [Outer]

set_option maxHeartbeats 4000000 in
set_option maxRecDepth 100000 in
theorem cow_Revert1 {bp bn bo : Nat} {nm : ByteArray} {ti : Nat} {ui : Value} {I : Chunk → Prop} {E : Int → Chunk → Prop} {Q : Pages} {H : Chunk} {r : List Chunk} (hP : Pgs Try.prog 5 (.iface ti ui) I E (pgOf Q)) (hI : I H) (hQ : ∀ no, mayPage no → (Q no).length = 256) {n : Int} {xs : List Snap} (hdec : decodeS (Q 0) = ((n, xs), 0)) (hgc : GoodC n xs) {A : Chunk} : FunP Try.prog 48 [.pointer (some ⟨bp, 0, none⟩), .pointer (some ⟨bn, 0, none⟩), .pointer (some ⟨bo, 0, none⟩)] (A :: [(bp, blk [.iface ti ui] 94 (0, 0))] :: [(bn, blk [.string nm] 9 (0, 0))] :: [(bo, blk [.slice none 0 0] 37 (0, 0))] :: H :: r) (fun _ hs' => ∃ hs1, hs' = A :: hs1 ∧ ∃ v ts' HI H', hs1 = [(bp, blk [.iface ti ui] 94 (0, 0))] :: [(bn, blk [.string nm] 9 (0, 0))] :: [(bo, blk [v] 37 (0, 0))] :: HI :: H' :: r ∧ OwnIms 66 5 v ts' HI ∧ I H' ∧ ∃ (i : Nat) (s : Snap), findAt (named nm) 0 xs = (i : Int) ∧ xs[i]? = some s ∧ s.inv = false ∧ imgs ts' = revertC Q n xs i s) (fun v' hs' => ∃ e hs1, hs' = A :: hs1 ∧ v' = flt e ∧ e ≠ 0 ∧ ∃ H', (E e H' ∨ e = 6 ∧ findAt (named nm) 0 xs < 0 ∧ I H' ∨ e = 12 ∧ I H' ∧ ∃ (i : Nat) (s : Snap), findAt (named nm) 0 xs = (i : Int) ∧ xs[i]? = some s ∧ s.inv = true) ∧ hs1 = [(bp, blk [.iface ti ui] 94 (0, 0))] :: [(bn, blk [.string nm] 9 (0, 0))] :: [(bo, blk [.slice none 0 0] 37 (0, 0))] :: H' :: r) := by
  refine FunP.enter 81 Try.func48 rfl Try.ntmps48 rfl ?_
  have h35 := decode_35 hdec
  have h32 : ∀ s ∈ xs, s.map.length = 32 := fun s hs => map32 (h35 s hs)
  refine TT.cut (ι := Nat × Nat × Chunk × Value × Chunk × Chunk) (fun j => I (j.2.2.1) ∧ Own encSnap 35 45 (j.2.2.2.1) xs (j.2.2.2.2.1) ∧ IsMap (fun _ => none) (j.2.1) (j.2.2.2.2.2)) (fun j => [(0, .pointer (some ⟨bp, 0, none⟩)), (1, .pointer (some ⟨bn, 0, none⟩)), (2, .pointer (some ⟨bo, 0, none⟩)), (3, .pointer (some ⟨(j.1), 0, none⟩))]) (fun j => A :: [(bp, blk [.iface ti ui] 94 (0, 0))] :: [(bn, blk [.string nm] 9 (0, 0))] :: [(bo, blk [.slice none 0 0] 37 (0, 0))] :: [((j.1), blk [.iface ti ui, .int .i64 n, ((j.2.2.2.1)), (.map (some (j.2.1)))] 100 (0, 0))] :: (j.2.2.2.2.1) :: (j.2.2.2.2.2) :: (j.2.2.1) :: r) ?_ ?_
  ·
    refine TT.draw (([(bp, blk [.iface ti ui] 94 (0, 0))] :: r)) mixed (.take (fuel := 6) hT 0 rfl rfl kr kr kr rfl (.load rfl (Ld.one hT rfl hz rfl)) rfl ?_)
    refine AT.take (fuel := 5) hT 1 rfl rfl kr kr kr rfl (.load rfl (Ld.one hT rfl hz rfl)) rfl ?_
    refine AT.all (fuel := 4) [2, 3] kr (by decide) sl ?_
    intro i hi
    simp only [List.mem_cons, List.not_mem_nil, or_false] at hi
    rcases hi with rfl | rfl
    ·
      refine ⟨_, rfl, ?_⟩
      refine OT.callP Try.call43 rfl rfl rfl rfl (FunP.pull pl (cow_read hP hI hdec (hQ 0 (by unfold mayPage; omega)))) (fun _ _ h => by
        obtain ⟨e, H', rfl, h1, h2, rfl⟩ := h
        exact PP.of ⟨e, _, rfl, rfl, h1, H', .inl h2, rfl⟩ sl) ?_
      rintro v_10 hs_10 ⟨H1, v1, HS, rfl, rfl, hoS, hI1⟩
      obtain ⟨a1, c1, hv1⟩ := (hoS.row (hs := [])).len
      subst hv1
      refine OT.nil (.any (.op (fuel := 3) 3 kr rfl sl (.makeMap rfl rfl (fun b_11 H_11 ho_11 => ?_))))
      refine OT.nil (.any (.op (fuel := 2) 4 kr rfl sl (.build (cs := [.iface ti ui, .int .i64 n, .slice a1 xs.length c1, .map (some b_11)]) hT rfl Try.zeroValue100 rfl rfl rfl rfl (.nil (.any (.op (fuel := 1) 5 kr rfl sl (.box rfl rfl rfl (fun b_13 => ?_))))))))
      refine OT.nil (.any (.takes (fuel := 0) hT [6] kr kr rfl (.done kr sl (.cut (b_13, b_11, H1, _, HS, H_11) ?_ (SubR.cons rfl (SubR.cons rfl (SubR.cons rfl (SubR.cons rfl (SubR.nil _))))) sl))))
      · dsimp only
        exact ⟨hI1, hoS, ho_11⟩
    ·
      refine ⟨_, rfl, ?_⟩
      refine OT.makeMap rfl rfl (fun b_11 H_11 ho_11 => ?_)
      refine OT.nil (.any (.op (fuel := 3) 2 kr rfl sl ?_))
      refine OT.callP Try.call43 rfl rfl rfl rfl (FunP.pull pl (cow_read hP hI hdec (hQ 0 (by unfold mayPage; omega)))) (fun _ _ h => by
        obtain ⟨e, H', rfl, h1, h2, rfl⟩ := h
        exact PP.of ⟨e, _, rfl, rfl, h1, H', .inl h2, rfl⟩ sl) ?_
      rintro v_10 hs_10 ⟨H1, v1, HS, rfl, rfl, hoS, hI1⟩
      obtain ⟨a1, c1, hv1⟩ := (hoS.row (hs := [])).len
      subst hv1
      refine OT.nil (.any (.op (fuel := 2) 4 kr rfl sl (.build (cs := [.iface ti ui, .int .i64 n, .slice a1 xs.length c1, .map (some b_11)]) hT rfl Try.zeroValue100 rfl rfl rfl rfl (.nil (.any (.op (fuel := 1) 5 kr rfl sl (.box rfl rfl rfl (fun b_13 => ?_))))))))
      refine OT.nil (.any (.takes (fuel := 0) hT [6] kr kr rfl (.done kr sl (.cut (b_13, b_11, H1, _, HS, H_11) ?_ (SubR.cons rfl (SubR.cons rfl (SubR.cons rfl (SubR.cons rfl (SubR.nil _))))) sl))))
      · dsimp only
        exact ⟨hI1, hoS, ho_11⟩
  ·
    rintro ⟨bx, mb, H1, v1, HS, HM⟩ hI
    dsimp only at hI
    obtain ⟨hI1, hoS, hM⟩ := hI
    show TT _ _ _ [(0, .pointer (some ⟨bp, 0, none⟩)), (1, .pointer (some ⟨bn, 0, none⟩)), (2, .pointer (some ⟨bo, 0, none⟩)), (3, .pointer (some ⟨bx, 0, none⟩))] (A :: [(bp, blk [.iface ti ui] 94 (0, 0))] :: [(bn, blk [.string nm] 9 (0, 0))] :: [(bo, blk [.slice none 0 0] 37 (0, 0))] :: [(bx, blk [.iface ti ui, .int .i64 n, (v1), (.map (some mb))] 100 (0, 0))] :: HS :: HM :: H1 :: r)
    obtain ⟨a1, c1, hv1⟩ := (hoS.row (hs := [])).len
    subst hv1
    refine TT.seq (.draw (([(bx, blk [.iface ti ui, .int .i64 n, (.slice a1 xs.length c1), (.map (some mb))] 100 (0, 0))] :: [(bn, blk [.string nm] 9 (0, 0))] :: HS :: r)) mixed (.takes (fuel := 4) hT [0, 1, 2] kr kr rfl (.take (fuel := 3) hT 3 rfl rfl kr kr kr rfl (.load rfl (Ld.struct hT rfl hz rfl rfl)) rfl ?_)))
    refine AT.take (fuel := 2) hT 4 rfl rfl kr kr kr rfl (.load rfl (Ld.one hT rfl hz rfl)) rfl ?_
    refine AT.op (fuel := 1) 5 kr rfl sl (.call Try.call31 rfl rfl rfl rfl (cat_Find (next := n) ro (Nat.le_trans hgc.few (by decide))) ?_)
    rintro v_19 hs_19 ⟨rfl, rfl⟩
    refine OT.nil (.any (.takes (fuel := 0) hT [6] kr kr rfl (.done kr sl (.seq (.seq (.region (.pures hT 2 rfl ?_)))))))
    refine OT.callP Try.call49 rfl rfl rfl rfl (guard_CheckB) (fun _ _ h => by
      obtain ⟨hb, rfl, rfl⟩ := h
      have hb := of_decide_eq_false hb
      exact PP.of ⟨6, _, rfl, by rw [brk_same (by decide)], by decide, H1, .inr (.inl ⟨rfl, by omega, hI1⟩), rfl⟩ sl) ?_
    rintro v_22 hs_22 ⟨hb, rfl, rfl⟩
    have hb : 0 ≤ findAt (named nm) 0 xs := of_decide_eq_true hb
    obtain ⟨i, hfi⟩ : ∃ i : Nat, findAt (named nm) 0 xs = i := ⟨(findAt (named nm) 0 xs).toNat, by omega⟩
    have hfl := (findAt_lt (named nm) xs 0).1
    obtain ⟨s, hs⟩ := nth (l := xs) (i := i) (by omega)
    have h35s := h35 s (List.mem_of_getElem? hs)
    have h32s := map32 h35s
    have hss := hgc.sides s (List.mem_of_getElem? hs)
    have hil : i < xs.length := (List.getElem?_eq_some_iff.1 hs).1
    have hxl := hgc.few
    refine OT.reg 4 rfl (int_eq hfi) (.nil (.seq (.seq (.region (.pures hT 4 rfl (.load rfl rfl (Ld.slc hT rfl hz rfl) rfl ?_))))))
    refine OT.pures hT 1 rfl (.index hT rfl rfl rfl rfl ro (by omega) (by rw [Int.toNat_natCast]; exact hs) rfl (fun ad_29 hel_29 => ?_))
    refine OT.load rfl rfl (hel_29.ld_struct hT rfl) rfl (.alloc Try.zeroValue45 rfl rfl (fun b_5 => ?_))
    refine OT.store_all hT rfl rfl rfl rfl pl (by exact h35s) rfl (ones_snap s) (.inl (Nat.le_refl _)) ?_
    refine OT.nil (.seq (.seq (.region (.pures hT 1 rfl (.load rfl rfl (Ld.one hT rfl hz rfl) rfl ?_)))))
    refine OT.pures hT 1 rfl ?_
    refine OT.callP Try.call49 rfl rfl rfl rfl (guard_CheckB) (fun _ _ h => by
      obtain ⟨hb2, rfl, rfl⟩ := h
      exact PP.of ⟨12, _, rfl, by rw [brk_same (by decide)], by decide, H1, .inr (.inr ⟨rfl, hI1, i, s, hfi, hs, by simpa using hb2⟩), rfl⟩ sl) ?_
    rintro v_34 hs_34 ⟨hb2, rfl, rfl⟩
    have hinv : s.inv = false := by simpa using hb2
    refine OT.nil (.seq (.seq (.region (.pures hT 5 rfl (.load rfl rfl (Ld.slc hT rfl hz rfl) rfl ?_)))))
    refine OT.pures hT 2 rfl (.reg 42 rfl (v := .int .i64 ((i + 1 : Nat) : Int)) (int_eq (by rw [wrap_i64 (by omega) (by omega)]; omega)) (.slice_to (i + 1) hT rfl rfl rfl rfl hoS (by omega) rfl (fun ho_43 => ?_)))
    refine OT.pures hT 3 rfl (.store hT rfl rfl rfl rfl pl rfl (Nat.le_of_ble_eq_true rfl) rfl (.inl (Nat.le_refl _)) rfl ?_)
    refine OT.nil (.seq (.seq (.seq (.region (.pures hT 1 rfl (.nil (.seq (.block (.loop (ι := Nat × (Int → Option Value) × Chunk × Chunk × Chunk) (fun j => 1 ≤ (j.1) ∧ (j.1) ≤ 32 ∧ IsMap (j.2.1) mb (j.2.2.1) ∧ MapRow ((j.2.2.2.1) :: A :: [(bp, blk [.iface ti ui] 94 (0, 0))] :: [(bn, blk [.string nm] 9 (0, 0))] :: [(bo, blk [.slice none 0 0] 37 (0, 0))] :: r) (j.2.1) (backTo Q s (j.1)) ∧ I (j.2.2.2.2)) (fun j => 32 - (j.1)) (fun j => [(0, .pointer (some ⟨bp, 0, none⟩)), (2, .pointer (some ⟨bo, 0, none⟩)), (3, .pointer (some ⟨bx, 0, none⟩)), (5, .pointer (some ⟨b_5, 0, none⟩)), (6, .int .i64 ((j.1) : Nat))]) (fun j => [(bx, blk [.iface ti ui, .int .i64 n, (.slice a1 (i + 1) c1), (.map (some mb))] 100 (0, 0))] :: HS :: (j.2.2.1) :: (j.2.2.2.1) :: (j.2.2.2.2) :: [(b_5, blk (encSnap s) 45 (0, 0))] :: A :: [(bp, blk [.iface ti ui] 94 (0, 0))] :: [(bn, blk [.string nm] 9 (0, 0))] :: [(bo, blk [.slice none 0 0] 37 (0, 0))] :: r) (1, (fun _ => none), HM, [], H1) ?_ (SubR.cons rfl (SubR.cons rfl (SubR.cons rfl (SubR.cons rfl (SubR.cons rfl (SubR.nil _)))))) sl ?_)))))))))
    · dsimp only
      exact ⟨by omega, by omega, hM, (MapRow.empty _), hI1⟩
    rintro ⟨no, m, HM1, G1, H2⟩ hI
    dsimp only at hI
    obtain ⟨hno, hno2, hM1, hc1, hI2⟩ := hI
    show TT _ _ _ [(0, .pointer (some ⟨bp, 0, none⟩)), (2, .pointer (some ⟨bo, 0, none⟩)), (3, .pointer (some ⟨bx, 0, none⟩)), (5, .pointer (some ⟨b_5, 0, none⟩)), (6, .int .i64 (no : Nat))] ([(bx, blk [.iface ti ui, .int .i64 n, (.slice a1 (i + 1) c1), (.map (some mb))] 100 (0, 0))] :: HS :: HM1 :: G1 :: H2 :: [(b_5, blk (encSnap s) 45 (0, 0))] :: A :: [(bp, blk [.iface ti ui] 94 (0, 0))] :: [(bn, blk [.string nm] 9 (0, 0))] :: [(bo, blk [.slice none 0 0] 37 (0, 0))] :: r)
    refine TT.seq (.seq (.region (.pures hT 2 rfl (.nil (.seq (.cond rfl (fun c48 => ?_) (fun c48 => ?_)))))))
    ·
      have c48 := of_decide_eq_true c48
      obtain ⟨x, hx⟩ := nth (l := s.map) (i := no) (by omega)
      have hxs := hss x (List.mem_of_getElem? hx)
      refine TT.skip (.seq (.seq (.block (.seq (.seq (.region (.pures hT 2 rfl (.index_at hT rfl rfl rfl rfl (by omega) (by omega) rfl (.load rfl rfl (Ld.one hT rfl hz (snap_at hx)) rfl ?_)))))))))
      refine OT.pures hT 1 rfl (.nil (.seq (.cond rfl (fun c55 => ?_) (fun c55 => ?_))))
      ·
        have c55 := beq_iff_eq.1 c55
        refine TT.exit (.seq (.here (.seq (.region (.pures hT 3 rfl (.nil (.loop (no + 1, m, HM1, G1, H2) ?_ ?_ (SubR.cons rfl (SubR.cons rfl (SubR.cons rfl (SubR.cons rfl (SubR.cons' rfl (by (try dsimp only); exact (int_eq (by rw [wrap_i64 (by omega) (by omega)]; omega))) (SubR.nil _)))))) sl)))))))
        · dsimp only
          refine ⟨by omega, by omega, hM1, ?_, hI2⟩
          rw [backTo_succ, Snap.at_some hx, if_pos (.inr (.inl c55))]
          exact hc1
        · dsimp only
          omega
      ·
        have c55 := beq_eq_false_iff_ne.1 c55
        refine TT.skip (.seq (.seq (.draw (([(b_5, blk (encSnap s) 45 (0, 0))] :: [(bp, blk [.iface ti ui] 94 (0, 0))] :: r)) mixed (.takes (fuel := 5) hT [1, 2] kr kr rfl (.take (fuel := 4) hT 0 rfl rfl kr kr kr rfl (.load rfl (Ld.one hT rfl hz rfl)) rfl ?_)))))
        refine AT.index_at (fuel := 3) hT 3 rfl kr kr kr rfl rfl rfl rfl (by omega) (by omega) rfl (.take (fuel := 2) hT 4 rfl rfl kr kr kr rfl (.load rfl (Ld.one hT rfl hz (snap_at hx))) rfl ?_)
        refine AT.op (fuel := 1) 5 kr rfl sl ?_
        refine OT.callP Try.call50 rfl rfl rfl rfl (FunP.pull pl (cow_page hP hI2 (no := x) (by unfold mayPage; omega))) (fun _ _ h => by
          obtain ⟨e, H', rfl, h1, h2, rfl⟩ := h
          exact PP.of ⟨e, _, rfl, rfl, h1, H', .inl h2, rfl⟩ sl) ?_
        rintro v_61 hs_61 ⟨H5, K5, rfl, ho5, hI5⟩
        refine OT.nil (.any (.takes (fuel := 0) hT [6] kr kr rfl (.done kr sl (.seq (.seq (.draw ((K5 :: [(bp, blk [.iface ti ui] 94 (0, 0))] :: r)) mixed (.takes (fuel := 5) hT [0, 3] kr kr rfl (.take (fuel := 4) hT 2 rfl rfl kr kr kr rfl (.load rfl (Ld.one hT rfl hz rfl)) rfl ?_))))))))
        refine AT.conv (fuel := 3) 1 rfl kr kr kr hT rfl rfl rfl rfl rfl ho5.row rfl (.op (fuel := 2) 4 kr rfl sl ?_)
        refine OT.callP Try.call50 rfl rfl rfl rfl (FunP.pull pl (cow_page hP hI5 (no := (no : Nat)) (by unfold mayPage; omega))) (fun _ _ h => by
          obtain ⟨e, H', rfl, h1, h2, rfl⟩ := h
          exact PP.of ⟨e, _, rfl, rfl, h1, H', .inl h2, rfl⟩ sl) ?_
        rintro v_66 hs_66 ⟨H6, K6, rfl, ho6, hI6⟩
        refine OT.nil (.any (.op (fuel := 1) 5 kr rfl sl (.conv_bs (fun _ => rfl) hT rfl rfl rfl rfl rfl ro rfl ?_)))
        refine OT.nil (.any (.takes (fuel := 0) hT [6] kr kr rfl (.done kr sl (.seq (.cond rfl (fun c68 => ?_) (fun c68 => ?_))))))
        ·
          have c68 : ¬ Q x = Q (no : Nat) := fun e => by rw [e] at c68; simp at c68
          refine TT.region (.pures hT 3 rfl (.load rfl rfl (Ld.one hT rfl hz rfl) rfl ?_))
          refine OT.pures hT 2 rfl (.mapUpdate mapT rfl rfl rfl rfl pl hM1 (fun H_u ho_u => ?_))
          refine OT.nil (.blk (.seq (.region (.pures hT 3 rfl (.nil (.loop (no + 1, (fun z => if z = (no : Int) then some v_61 else m z), H_u, G1 ++ K5, H6) ?_ ?_ (SubR.cons rfl (SubR.cons rfl (SubR.cons rfl (SubR.cons rfl (SubR.cons' rfl (by (try dsimp only); exact (int_eq (by rw [wrap_i64 (by omega) (by omega)]; omega))) (SubR.nil _)))))) sl))))))
          · dsimp only
            refine ⟨by omega, by omega, ho_u, ?_, hI6⟩
            rw [backTo_succ, Snap.at_some hx, if_neg (fun h => by rcases h with h | h | h; omega; exact c55 h; exact c68 h)]
            exact hc1.grow.put (Row.last ho5.row)
          · dsimp only
            omega
        ·
          have c68 : Q x = Q (no : Nat) := by simpa using c68
          refine TT.skip (.blk (.seq (.region (.pures hT 3 rfl (.nil (.loop (no + 1, m, HM1, G1, H6) ?_ ?_ (SubR.cons rfl (SubR.cons rfl (SubR.cons rfl (SubR.cons rfl (SubR.cons' rfl (by (try dsimp only); exact (int_eq (by rw [wrap_i64 (by omega) (by omega)]; omega))) (SubR.nil _)))))) sl))))))
          · dsimp only
            refine ⟨by omega, by omega, hM1, ?_, hI6⟩
            rw [backTo_succ, Snap.at_some hx, if_pos (.inr (.inr c68))]
            exact hc1
          · dsimp only
            omega
    ·
      have c48 := of_decide_eq_false c48
      obtain rfl : no = 32 := by omega
      refine TT.exit (.seq (.loop (.here (.seq (.seq (.region (.pures hT 2 rfl (.load rfl rfl (Ld.one hT rfl hz rfl) rfl ?_))))))))
      refine OT.callP Try.call44 rfl rfl rfl rfl (FunP.weaken (sl (hs' := [(bx, blk [.iface ti ui, .int .i64 n, (.slice a1 (i + 1) c1), (.map (some mb))] 100 (0, 0))] :: HS :: HM1 :: G1 :: H2 :: A :: [(bp, blk [.iface ti ui] 94 (0, 0))] :: [(bn, blk [.string nm] 9 (0, 0))] :: [(bo, blk [.slice none 0 0] 37 (0, 0))] :: r)) (cow_expand (but := s.id) (r := A :: [(bp, blk [.iface ti ui] 94 (0, 0))] :: [(bn, blk [.string nm] 9 (0, 0))] :: [(bo, blk [.slice none 0 0] 37 (0, 0))] :: r) hP hI2 hQ hdec (Nat.le_trans hgc.few (by decide)) ho_43 (by rw [List.length_take]; omega) (hgc.take (i + 1)).sides hM1 hc1 (expandS_found (hgc.take (i + 1)) (fun s hs => h32 s (List.mem_of_mem_take hs)) (nosOf_nodup _) (fun s hs => List.mem_of_mem_take hs)) (may_iff.2 (expandS_good (hgc.take (i + 1)) (fun s hs => h32 s (List.mem_of_mem_take hs)) (nosOf_nodup _)).1))) (fun _ _ h => by
        obtain ⟨e, H', rfl, h1, h2, rfl⟩ := h
        exact PP.of ⟨e, _, rfl, rfl, h1, H', .inl h2, rfl⟩ sl) ?_
      rintro v_78 hs_78 ⟨v2, HS2, m2, HM2, G2, H7, rfl, rfl, hM2, hc2, hI7⟩
      refine OT.nil (.seq (.region (.pures hT 1 rfl (.call Try.call45 rfl rfl rfl rfl (Fun.weaken (sl (hs' := [(bx, blk [.iface ti ui, .int .i64 n, (v2), (.map (some mb))] 100 (0, 0))] :: HM2 :: G2 :: A :: [(bp, blk [.iface ti ui] 94 (0, 0))] :: [(bn, blk [.string nm] 9 (0, 0))] :: [(bo, blk [.slice none 0 0] 37 (0, 0))] :: HS2 :: H7 :: r)) (cow_images hM2 (hc2.mono fun b o hb => Has.sel sl hb) (fun no b e => by have hg := expandS_good (Q := Q) (but := s.id) (hgc.take (i + 1)) (fun s hs => h32 s (List.mem_of_mem_take hs)) (nosOf_nodup (backTo Q s 32)); have := expandM_len (was := xs) hQ (fun t ht => len35.2 (hg.2.len32 (fun s hs => h32 s (List.mem_of_mem_take hs)) t ht)) (may_iff.2 hg.1) (backTo_len hQ hss 32) no b e; omega))) ?_))))
      rintro v_80 hs_80 ⟨ts2, HI, rfl, hoI, hti⟩
      obtain ⟨_, _, _, _, hoK, _⟩ := hoI.is
      obtain ⟨a30, c30, hv30⟩ := (hoK.row (hs := [])).len
      subst hv30
      refine OT.store hT rfl rfl rfl rfl pl rfl (Nat.le_of_ble_eq_true rfl) rfl (.inl (Nat.le_refl _)) rfl ?_
      refine OT.nil (.ofP (rs := []) [] (A :: [(bp, blk [.iface ti ui] 94 (0, 0))] :: [(bn, blk [.string nm] 9 (0, 0))] :: [(bo, blk [.slice a30 ts2.length c30] 37 (0, 0))] :: HI :: H7 :: r) rfl .nil sl ?_)
      try dsimp only [one]
      exact ⟨_, rfl, _, ts2, HI, H7, rfl, hoI, hI7, i, s, hfi, hs, hinv, hti⟩

set_option maxHeartbeats 1000000 in
set_option maxRecDepth 100000 in
theorem cow_Revert {nm : ByteArray} {ti : Nat} {ui : Value} {I : Chunk → Prop} {E : Int → Chunk → Prop} {Q : Pages} {H : Chunk} {r : List Chunk} (hP : Pgs Try.prog 5 (.iface ti ui) I E (pgOf Q)) (hI : I H) (hQ : ∀ no, mayPage no → (Q no).length = 256) {n : Int} {xs : List Snap} (hdec : decodeS (Q 0) = ((n, xs), 0)) (hgc : GoodC n xs) : Fun Try.prog 22 [(.iface ti ui), .string nm] (H :: r) (fun v' hs' => (∃ v ts' HI H', v' = .tuple ⟨[v, .int .i64 0]⟩ ∧ hs' = H' :: HI :: r ∧ OwnIms 66 5 v ts' HI ∧ I H' ∧ ∃ (i : Nat) (s : Snap), findAt (named nm) 0 xs = (i : Int) ∧ xs[i]? = some s ∧ s.inv = false ∧ imgs ts' = revertC Q n xs i s) ∨ ∃ e H', v' = .tuple ⟨[.slice none 0 0, .int .i64 e]⟩ ∧ e ≠ 0 ∧ (E e H' ∨ e = 6 ∧ findAt (named nm) 0 xs < 0 ∧ I H' ∨ e = 12 ∧ I H' ∧ ∃ (i : Nat) (s : Snap), findAt (named nm) 0 xs = (i : Int) ∧ xs[i]? = some s ∧ s.inv = true) ∧ hs' = H' :: r) := by
  refine Fun.enter 10 Try.func22 rfl Try.ntmps22 rfl ?_
  refine TT.seq (.region (.box rfl rfl rfl (fun b_2 => ?_)))
  refine OT.box rfl rfl rfl (fun b_3 => ?_)
  refine OT.alloc Try.zeroValue37 rfl rfl (fun b_4 => ?_)
  refine OT.pures hT 1 rfl (.nil (.seq (.seq (.region (.pures hT 1 rfl (.call Try.call41 rfl rfl rfl rfl (Fun.weaken (sl (hs' := [(b_2, blk [.iface ti ui] 94 (0, 0))] :: [(b_3, blk [.string nm] 9 (0, 0))] :: [(b_4, blk [.slice none 0 0] 37 (0, 0))] :: H :: r)) (guard_Try (N := (fun _ hs1 => ∃ v ts' HI H', hs1 = [(b_2, blk [.iface ti ui] 94 (0, 0))] :: [(b_3, blk [.string nm] 9 (0, 0))] :: [(b_4, blk [v] 37 (0, 0))] :: HI :: H' :: r ∧ OwnIms 66 5 v ts' HI ∧ I H' ∧ ∃ (i : Nat) (s : Snap), findAt (named nm) 0 xs = (i : Int) ∧ xs[i]? = some s ∧ s.inv = false ∧ imgs ts' = revertC Q n xs i s)) (E := (fun e hs1 => e ≠ 0 ∧ ∃ H', (E e H' ∨ e = 6 ∧ findAt (named nm) 0 xs < 0 ∧ I H' ∨ e = 12 ∧ I H' ∧ ∃ (i : Nat) (s : Snap), findAt (named nm) 0 xs = (i : Int) ∧ xs[i]? = some s ∧ s.inv = true) ∧ hs1 = [(b_2, blk [.iface ti ui] 94 (0, 0))] :: [(b_3, blk [.string nm] 9 (0, 0))] :: [(b_4, blk [.slice none 0 0] 37 (0, 0))] :: H' :: r)) (g := 48) Try.call48 (fun A => (cow_Revert1 hP hI hQ hdec hgc).mono (fun v hs' h => by obtain ⟨hs1, e, h⟩ := h; exact ⟨hs1, e, h⟩) fun v hs' h => by obtain ⟨e, hs1, h1, h2, h3, h4⟩ := h; exact ⟨e, hs1, h1, h2, h3, h4⟩))) ?_))))))
  rintro v_7 hs_7 (⟨rfl, v, v2, ts2, HI, H2, rfl, hoI, hI2, hres⟩ | ⟨e, rfl, he, H2, hE2, rfl⟩)
  ·
    obtain ⟨_, _, _, _, hoK, _⟩ := hoI.is
    obtain ⟨a30, c30, hv30⟩ := (hoK.row (hs := [])).len
    subst hv30
    refine OT.pures hT 1 rfl (.nil (.seq (.seq (.region (.load rfl rfl (Ld.slc hT rfl hz rfl) rfl ?_)))))
    refine OT.pures hT 1 rfl (.store_all hT rfl rfl rfl rfl pl rfl rfl rfl (.inl (Nat.le_refl _)) ?_)
    refine OT.pures hT 1 rfl (.nil (.seq (.ret (.of (rs := [.cell 4 37, .tmp 5]) [_, _] (H2 :: HI :: r) rfl (.cell rfl (Ld.slc hT rfl hz rfl) (.tmp rfl .nil)) sl ?_))))
    dsimp only [one]
    exact .inl ⟨_, ts2, HI, H2, rfl, rfl, hoI, hI2, hres⟩
  ·
    refine OT.pures hT 1 rfl (.nil (.seq (.seq (.region (.load rfl rfl (Ld.slc hT rfl hz rfl) rfl ?_)))))
    refine OT.pures hT 1 rfl (.store_all hT rfl rfl rfl rfl pl rfl rfl rfl (.inl (Nat.le_refl _)) ?_)
    refine OT.pures hT 1 rfl (.nil (.seq (.ret (.of (rs := [.cell 4 37, .tmp 5]) [_, _] (H2 :: r) rfl (.cell rfl (Ld.slc hT rfl hz rfl) (.tmp rfl .nil)) sl ?_))))
    dsimp only [one]
    exact .inr ⟨e, H2, rfl, he, hE2, rfl⟩

end Go.Proofs.Ytnhkgchcdbideaa.Sx
end

section
namespace Go.Proofs.Ytnhkgchcdbideaa.Sx
open Go Go.Sx Go.Pl
variable [Outer]

set_option maxHeartbeats 4000000 in
set_option maxRecDepth 100000 in
theorem cow_Expand {vl : Value} {ti : Nat} {ui : Value} {I : Chunk → Prop} {E : Int → Chunk → Prop} {Q : Pages} {H : Chunk} {r : List Chunk} (hP : Pgs Try.prog 5 (.iface ti ui) I E (pgOf Q)) (hI : I H) (hQ : ∀ no, mayPage no → (Q no).length = 256) {n : Int} {xs : List Snap} (hdec : decodeS (Q 0) = ((n, xs), 0)) (hgc : GoodC n xs) {ts : List Im} (hi : ImsAt r vl ts) (hm : DataImgs (imgs ts)) : Fun Try.prog 14 [(.iface ti ui), vl] (H :: r) (fun v' hs' => (∃ v ts' HI H', v' = .tuple ⟨[v, .int .i64 0]⟩ ∧ hs' = H' :: HI :: r ∧ OwnIms 66 5 v ts' HI ∧ imgs ts' = expandC Q n xs (imgs ts) ∧ I H') ∨ ∃ e H', v' = .tuple ⟨[.slice none 0 0, .int .i64 e]⟩ ∧ e ≠ 0 ∧ E e H' ∧ hs' = H' :: r) := by
  refine Fun.enter 30 Try.func14 rfl Try.ntmps14 rfl ?_
  obtain ⟨al, cl, hvl⟩ := hi.row.len
  subst hvl
  have hpos := hm.1.pos
  rw [imgs_length] at hpos
  obtain ⟨t0, ht0⟩ := nth (l := ts) (i := 0) hpos
  obtain ⟨t1, ht1⟩ := nth (l := ts) (i := ts.length - 1) (by omega)
  have hr0 := hm.2 _ (List.mem_of_getElem? (imgs_at ht0))
  have hr1 := hm.2 _ (List.mem_of_getElem? (imgs_at ht1))
  have hfew := hm.1.few
  rw [imgs_length] at hfew
  unfold Im.img at hr0 hr1
  dsimp only at hr0 hr1
  refine TT.seq (.region (.box rfl rfl rfl (fun b_2 => ?_)))
  refine OT.box rfl rfl rfl (fun b_3 => ?_)
  refine OT.alloc Try.zeroValue37 rfl rfl (fun b_4 => ?_)
  refine OT.pures hT 1 rfl (.nil (.seq (.seq (.seq (.region (.load rfl rfl (Ld.slc hT rfl hz rfl) rfl ?_))))))
  refine OT.call Try.call40 rfl rfl rfl rfl (chg_May (hi.mono fun b o hb => Has.sel sl hb)) ?_
  rintro v_7 hs_7 ⟨rfl, rfl⟩
  rw [decide_eq_true hm.1]
  refine OT.pures hT 2 rfl (.load rfl rfl (Ld.slc hT rfl hz rfl) rfl ?_)
  refine OT.index hT rfl rfl rfl rfl (hi.row.mono fun b o hb => Has.sel sl hb) (by decide) (by exact ht0) rfl (fun ad_11 hel_11 => ?_)
  obtain ⟨eb_11, eo_11, rfl, hfld_11⟩ := hel_11.at (P := Try.prog)
  refine OT.pures hT 1 rfl (.load rfl rfl (hfld_11 hT rfl rfl) rfl (.pures hT 3 rfl (.split 16 rfl (fun g16 => ?_) (fun g16 => ?_))))
  ·
    exact absurd (of_decide_eq_true g16) (by omega)
  ·
    refine OT.load rfl rfl (Ld.slc hT rfl hz rfl) rfl ?_
    refine OT.load rfl rfl (Ld.slc hT rfl hz rfl) rfl ?_
    refine OT.pures hT 2 rfl (.reg 20 rfl (v := .int .i64 ((ts.length - 1 : Nat) : Int)) (int_eq (by rw [wrap_i64 (by omega) (by omega)]; omega)) (.index hT rfl rfl rfl rfl (hi.row.mono fun b o hb => Has.sel sl hb) (by omega) (by rw [Int.toNat_natCast]; exact ht1) rfl (fun ad_21 hel_21 => ?_)))
    obtain ⟨eb_21, eo_21, rfl, hfld_21⟩ := hel_21.at (P := Try.prog)
    refine OT.pures hT 1 rfl (.load rfl rfl (hfld_21 hT rfl rfl) rfl (.pures hT 2 rfl (.nil (.seq (.cond rfl (fun c25 => ?_) (fun c25 => ?_))))))
    ·
      exact absurd (of_decide_eq_true c25) (by omega)
    ·
      refine TT.skip (.seq (.seq (.region (.pures hT 1 rfl (.call Try.call41 rfl rfl rfl rfl (Fun.weaken (sl (hs' := [(b_2, blk [.iface ti ui] 94 (0, 0))] :: [(b_3, blk [.slice al ts.length cl] 37 (0, 0))] :: [(b_4, blk [.slice none 0 0] 37 (0, 0))] :: H :: r)) (guard_Try (N := (fun _ hs1 => ∃ v ts' HI H', hs1 = [(b_2, blk [.iface ti ui] 94 (0, 0))] :: [(b_3, blk [.slice al ts.length cl] 37 (0, 0))] :: [(b_4, blk [v] 37 (0, 0))] :: HI :: H' :: r ∧ OwnIms 66 5 v ts' HI ∧ imgs ts' = expandC Q n xs (imgs ts) ∧ I H')) (E := (fun e hs1 => e ≠ 0 ∧ ∃ H', E e H' ∧ hs1 = [(b_2, blk [.iface ti ui] 94 (0, 0))] :: [(b_3, blk [.slice al ts.length cl] 37 (0, 0))] :: [(b_4, blk [.slice none 0 0] 37 (0, 0))] :: H' :: r)) (g := 42) Try.call42 (fun A => (cow_Expand1 hP hI hQ hdec hgc hi hm.1).mono (fun v hs' h => by obtain ⟨hs1, e, h⟩ := h; exact ⟨hs1, e, h⟩) fun v hs' h => by obtain ⟨e, hs1, h1, h2, h3, h4⟩ := h; exact ⟨e, hs1, h1, h2, h3, h4⟩))) ?_)))))
      rintro v_27 hs_27 (⟨rfl, v, v2, ts2, HI, H2, rfl, hoI, hti, hI2⟩ | ⟨e, rfl, he, H2, hE2, rfl⟩)
      ·
        obtain ⟨_, _, _, _, hoK, _⟩ := hoI.is
        obtain ⟨a30, c30, hv30⟩ := (hoK.row (hs := [])).len
        subst hv30
        refine OT.pures hT 1 rfl (.nil (.seq (.seq (.region (.load rfl rfl (Ld.slc hT rfl hz rfl) rfl ?_)))))
        refine OT.pures hT 1 rfl (.store_all hT rfl rfl rfl rfl pl rfl rfl rfl (.inl (Nat.le_refl _)) ?_)
        refine OT.pures hT 1 rfl (.nil (.seq (.ret (.of (rs := [.cell 4 37, .tmp 5]) [_, _] (H2 :: HI :: r) rfl (.cell rfl (Ld.slc hT rfl hz rfl) (.tmp rfl .nil)) sl ?_))))
        dsimp only [one]
        exact .inl ⟨_, ts2, HI, H2, rfl, rfl, hoI, hti, hI2⟩
      ·
        refine OT.pures hT 1 rfl (.nil (.seq (.seq (.region (.load rfl rfl (Ld.slc hT rfl hz rfl) rfl ?_)))))
        refine OT.pures hT 1 rfl (.store_all hT rfl rfl rfl rfl pl rfl rfl rfl (.inl (Nat.le_refl _)) ?_)
        refine OT.pures hT 1 rfl (.nil (.seq (.ret (.of (rs := [.cell 4 37, .tmp 5]) [_, _] (H2 :: r) rfl (.cell rfl (Ld.slc hT rfl hz rfl) (.tmp rfl .nil)) sl ?_))))
        dsimp only [one]
        exact .inr ⟨e, H2, rfl, he, hE2, rfl⟩

end Go.Proofs.Ytnhkgchcdbideaa.Sx
end

section
namespace Go.Proofs.Ytnhkgchcdbideaa.Sx
open Go Go.Sx Go.Pl
variable [Outer]

omit [Outer] in
theorem ones_cw {o : CwOp} (h : oneC o.v = true) : ones (encCw o) = true := by
  unfold ones encCw
  rw [List.all_cons, List.all_cons, h]; rfl

set_option maxHeartbeats 1000000 in
set_option maxRecDepth 100000 in
theorem cow_ExpandBad {ti : Nat} {ui vl : Value} {hs : List Chunk} (hi : ImsAt hs vl []) : Fun Try.prog 14 [(.iface ti ui), vl] hs (fun v' hs' => v' = .tuple ⟨[.slice none 0 0, .int .i64 1]⟩ ∧ hs' = hs) := by
  refine Fun.enter 30 Try.func14 rfl Try.ntmps14 rfl ?_
  obtain ⟨al, cl, hvl⟩ := hi.row.len
  subst hvl
  refine TT.seq (.region (.box rfl rfl rfl (fun b_2 => ?_)))
  refine OT.box rfl rfl rfl (fun b_3 => ?_)
  refine OT.alloc Try.zeroValue37 rfl rfl (fun b_4 => ?_)
  refine OT.pures hT 1 rfl (.nil (.seq (.seq (.seq (.region (.load rfl rfl (Ld.slc hT rfl hz rfl) rfl ?_))))))
  refine OT.call Try.call40 rfl rfl rfl rfl (chg_May (hi.mono fun b o hb => Has.sel sl hb)) ?_
  rintro v_7 hs_7 ⟨rfl, rfl⟩
  rw [decide_eq_false (fun h => h.1 rfl)]
  refine OT.pures hT 2 rfl (.pures hT 16 rfl (.nil (.seq (.cond_true rfl (.seq (.region (.store_all hT rfl rfl rfl rfl pl rfl rfl rfl (.inl (Nat.le_refl _)) ?_)))))))
  refine OT.pures hT 1 rfl (.nil (.seq (.ret (.of (rs := [.cell 4 37, .tmp 5]) [_, _] hs rfl (.cell rfl (Ld.slc hT rfl hz rfl) (.tmp rfl .nil)) sl ?_))))
  dsimp only [one]
  exact ⟨rfl, rfl⟩

set_option maxHeartbeats 16000000 in
set_option maxRecDepth 100000 in
theorem law_CowAll {v uv : Value} {us : List UInt8} {os : List CwOp} {hs : List Chunk} (ho : Row encCw 3 hs v os) (hol : os.length ≤ 9223372036854775807) (hor : ∀ o ∈ os, RawsAt hs o.v o.l) (hok : ∀ o ∈ os, -9223372036854775808 ≤ o.kind ∧ o.kind ≤ 9223372036854775807) (hu : Row Go.Sx.encB 1 hs uv us) (hbegun : ∀ hs, Fun Try.prog 10 [] hs fun v' hs' => v' = .bool true ∧ hs = hs') : Fun Try.prog 9 [v, uv] hs (fun v' hs' => v' = .bool true ∧ hs = hs') := by
  refine Fun.enter 196 Try.func9 rfl Try.ntmps9 rfl ?_
  obtain ⟨ao, co, hvo⟩ := ho.len
  subst hvo
  refine TT.seq (.region (.pures hT 1 rfl (.nil (.seq (.seq (.region (.call Try.call10 rfl rfl rfl rfl (hbegun _) ?_)))))))
  rintro v_22 hs_22 ⟨rfl, rfl⟩
  refine OT.pures hT 1 rfl (.nil (.seq (.seq (.seq (.region (.pures hT 2 rfl (.nil (.seq (.cond_false rfl (.skip (.seq (.seq (.region (.build (cs := bkCells (List.replicate 96 (.slice none 0 0) : List Value)) hT rfl Try.zeroValue28 rfl rfl kr rfl (.box rfl rfl rfl (fun b_26 => ?_))))))))))))))))
  refine OT.pures hT 1 rfl (.nil (.seq (.seq (.region (.build (cs := rbCells (List.replicate 96 (.slice none 0 0) : List Value) 0 (.slice none 0 0)) hT rfl Try.zeroValue76 rfl rfl kr rfl (.box rfl rfl rfl (fun b_28 => ?_)))))))
  refine OT.pures hT 1 rfl (.nil (.seq (.seq (.region ?_))))
  refine OT.make (enc := Go.Sx.encB) (z0 := (0 : UInt8)) (n := 256) el22 Try.zeroValue5 rfl rfl rfl rfl rfl (by omega) rfl (fun v_29 H_29 ho_29 => ?_)
  obtain ⟨B1, O1, C1, _, _, hv29, _⟩ := ho_29.over (by rw [List.length_replicate]; decide)
  rw [List.length_replicate] at hv29
  subst hv29
  refine OT.pures hT 1 rfl (.nil (.seq (.seq (.region (.pures hT 2 rfl (.copy_own 0 hT rfl rfl rfl rfl pl ho_29 (hu.mono fun b o hb => Has.sel sl hb) (by simp; omega) (by simp) (ones_bytes _) rfl (fun H_32 ho_32 => ?_)))))))
  refine OT.nil (.seq (.seq (.draw (hs) mixed (.takes (fuel := 5) hT [0, 1, 2, 3, 5, 6, 9, 10] kr kr rfl (.op (fuel := 4) 4 kr rfl sl ?_)))))
  have hp1l : (over (List.replicate 256 (0 : UInt8)) 0 (us.take 256)).length = 256 := by
    rw [length_over (by rw [List.length_take, List.length_replicate]; omega), List.length_replicate]
  generalize over (List.replicate 256 (0 : UInt8)) 0 (us.take 256) = P1 at ho_32 hp1l ⊢
  refine OT.chunk0 ?_
  refine OT.append hT el22 rfl rfl rfl rfl pl (Own.nil (enc := Go.Sx.encB) (sz := 1) (e := 5)) (ho_32.row.mono fun b o hb => Has.sel sl hb) (ones_B _) (by simp only [List.length_nil]; omega) rfl (fun v_37 H_37 ho_37 => ?_)
  rw [List.nil_append] at ho_37
  obtain ⟨a37, c37, hv37⟩ := (ho_37.row (hs := [])).len
  subst hv37
  refine OT.nil (.any (.index_at (fuel := 3) hT 7 rfl kr kr kr rfl rfl rfl rfl (by omega) (by decide) rfl (.op (fuel := 2) 8 kr rfl sl ?_)))
  have hB0 : BkAt 28 b_26 (fun _ => noughts 256) [(b_26, blk (bkCells (List.replicate 96 (.slice none 0 0) : List Value)) 28 (0, 0))] := BkAt.one (Slots.zero [[]])
  refine OT.bk_store (no := 1) hT rfl rfl rfl rfl pl hB0 pl ho_32 hp1l rfl (by decide) (fun H_x hb_x ht_x => ?_)
  refine OT.nil (.any (.index_at (fuel := 1) hT 11 rfl kr kr kr rfl rfl rfl rfl (by omega) (by decide) rfl (.op (fuel := 0) 12 kr rfl sl (.store hT rfl rfl rfl rfl pl rfl (by show 0 + 0 + 1 * 1 + 1 ≤ (rbCells (List.replicate 96 (.slice none 0 0) : List Value) 0 (.slice none 0 0)).length; rw [rb_len (by simp)]; omega) rfl (.inl (Nat.le_refl _)) (show splice (rbCells (List.replicate 96 (.slice none 0 0) : List Value) 0 (.slice none 0 0)) (0 + 0 + 1 * 1) [.slice a37 P1.length c37] = _ from rb_set (by simp) (k := 1) (by omega) _ (by omega)) ?_))))
  refine OT.nil (.any (.done kr sl (.seq (.seq (.draw (([(b_28, blk (rbCells ((List.replicate 96 (.slice none 0 0) : List Value).set 1 (.slice a37 P1.length c37)) 0 (.slice none 0 0)) 76 (0, 0))] :: hs)) mixed (.takes (fuel := 4) hT [0, 1, 2, 3, 6, 7] kr kr rfl (.take (fuel := 3) hT 4 rfl rfl kr kr kr rfl (.load rfl (Ld.struct (vs := [.int .i64 0, .slice none 0 0]) hT rfl hz (by exact rb_cat (vs := (List.replicate 96 (.slice none 0 0) : List Value).set 1 (.slice a37 P1.length c37)) (by simp)) rfl)) rfl ?_)))))))
  refine AT.op (fuel := 2) 5 kr rfl sl (.call Try.call26 rfl rfl rfl rfl (ref_CatBytes (xs := []) Row.nil (by simp)) ?_)
  rintro v_49 hs_49 ⟨HE, rfl, hoE⟩
  refine OT.nil (.any (.index_at (fuel := 1) hT 8 rfl kr kr kr rfl rfl rfl rfl (by omega) (by decide) rfl (.op (fuel := 0) 9 kr rfl sl (.bk_store (no := 0) hT rfl rfl rfl rfl pl hb_x pl hoE (catR_len good_nil (by simp)) rfl (by decide) (fun H_y hb_y ht_y => ?_)))))
  refine OT.nil (.any (.done kr sl (.seq (.seq (.seq (.region (.pures hT 1 rfl (.nil (.seq (.block (.chunk0 (.loop (ι := Nat × Pages × Pages × Int × (List Snap) × Chunk × (List Value) × Value × Chunk × Chunk) (fun j => (j.1) ≤ os.length ∧ (j.1) ≤ 30 ∧ BkAt 28 b_26 (j.2.1) (j.2.2.2.2.2.1) ∧ CowSt (j.2.1) (j.2.2.2.1) (j.2.2.2.2.1) ∧ (j.2.1) 0 = catBytesR (j.2.2.2.1) (j.2.2.2.2.1) ∧ Slots ((j.2.2.2.2.2.2.2.2.2) :: hs) (j.2.2.2.2.2.2.1) (j.2.2.1) ∧ Own encSnap 35 45 (j.2.2.2.2.2.2.2.1) (j.2.2.2.2.1) (j.2.2.2.2.2.2.2.2.1) ∧ Agree (j.2.1) (j.2.2.1) (j.2.2.2.2.1)) (fun j => os.length - (j.1)) (fun j => [(0, .slice ao os.length co), (6, .pointer (some ⟨b_26, 0, none⟩)), (7, .pointer (some ⟨b_28, 0, none⟩)), (9, .int .i64 ((j.1) : Nat))]) (fun j => (j.2.2.2.2.2.1) :: [(b_28, blk (rbCells (j.2.2.2.2.2.2.1) (j.2.2.2.1) (j.2.2.2.2.2.2.2.1)) 76 (0, 0))] :: (j.2.2.2.2.2.2.2.2.1) :: (j.2.2.2.2.2.2.2.2.2) :: hs) (0, (upd (upd (fun _ => noughts 256) ((1 : Nat) : Int) P1) ((0 : Nat) : Int) (catBytesR 0 [])), (upd (fun _ => noughts 256) ((1 : Nat) : Int) P1), 0, [], H_y, ((List.replicate 96 (.slice none 0 0) : List Value).set 1 (.slice a37 P1.length c37)), .slice none 0 0, [], H_37) ?_ (SubR.cons rfl (SubR.cons rfl (SubR.cons rfl (SubR.cons rfl (SubR.nil _))))) sl ?_))))))))))))
  · dsimp only
    obtain ⟨i1, i2, i3⟩ := set_cat (R := (upd (fun _ => noughts 256) ((1 : Nat) : Int) P1)) hb_x.long good_nil (by simp) (agree_nil fun _ _ _ => rfl)
    exact ⟨by omega, by omega, hb_y, i1, i2, (Slots.zero (H_37 :: hs)).put (by decide) (Slot.of_row ho_37.row hp1l), Own.nil, i3⟩
  rintro ⟨pj, Q, R, n, xs, HB, vs, vS, HS, G⟩ hI
  dsimp only at hI
  obtain ⟨hj, hj30, hB, hst, hcb, hSl, hoS, hA⟩ := hI
  show TT _ _ _ [(0, .slice ao os.length co), (6, .pointer (some ⟨b_26, 0, none⟩)), (7, .pointer (some ⟨b_28, 0, none⟩)), (9, .int .i64 (pj : Nat))] (HB :: [(b_28, blk (rbCells vs n vS) 76 (0, 0))] :: HS :: G :: hs)
  obtain ⟨aS, cS, hvS⟩ := (hoS.row (hs := [])).len
  subst hvS
  have hfew := hst.good.few
  have hn0 := hst.good.n0
  refine TT.seq (.seq (.region (.pures hT 5 rfl (.split 57 rfl (fun g57 => ?_) (fun g57 => ?_)))))
  ·
    have g57 := of_decide_eq_true g57
    obtain ⟨o, hop⟩ := nth (l := os) (i := pj) (by omega)
    obtain ⟨ok, ov, rl, onm⟩ := o
    have hra : RawsAt hs ov rl := hor _ (List.mem_of_getElem? hop)
    have hkr := hok _ (List.mem_of_getElem? hop)
    obtain ⟨ar, cr, hrw⟩ := hra.row.len
    subst hrw
    refine OT.pures hT 3 rfl (.nil (.seq (.cond rfl (fun c60 => ?_) (fun c60 => ?_))))
    ·
      have c60 := of_decide_eq_true c60
      refine TT.skip (.seq (.seq (.block (.seq (.region (.pures hT 2 rfl (.index hT rfl rfl rfl rfl (ho.mono fun b o hb => Has.sel sl hb) (by omega) (by rw [Int.toNat_natCast]; exact hop) rfl (fun ad_65 hel_65 => ?_))))))))
      refine OT.load rfl rfl (hel_65.ld_struct hT rfl) rfl (.alloc Try.zeroValue79 rfl rfl (fun b_10 => ?_))
      refine OT.store_all hT rfl rfl rfl rfl pl (by rfl) rfl (ones_cw rfl) (.inl (Nat.le_refl _)) ?_
      refine OT.nil (.seq (.cut (ι := Pages × Pages × Int × (List Snap) × Chunk × (List Value) × Value × Chunk × Chunk) (fun j => BkAt 28 b_26 (j.1) (j.2.2.2.2.1) ∧ CowSt (j.1) (j.2.2.1) (j.2.2.2.1) ∧ (j.1) 0 = catBytesR (j.2.2.1) (j.2.2.2.1) ∧ Slots ((j.2.2.2.2.2.2.2.2) :: hs) (j.2.2.2.2.2.1) (j.2.1) ∧ Own encSnap 35 45 (j.2.2.2.2.2.2.1) (j.2.2.2.1) (j.2.2.2.2.2.2.2.1) ∧ Agree (j.1) (j.2.1) (j.2.2.2.1)) (fun j => [(0, .slice ao os.length co), (6, .pointer (some ⟨b_26, 0, none⟩)), (7, .pointer (some ⟨b_28, 0, none⟩)), (9, .int .i64 (pj : Nat))]) (fun j => (j.2.2.2.2.1) :: [(b_28, blk (rbCells (j.2.2.2.2.2.1) (j.2.2.1) (j.2.2.2.2.2.2.1)) 76 (0, 0))] :: (j.2.2.2.2.2.2.2.1) :: (j.2.2.2.2.2.2.2.2) :: hs) ?_ ?_))
      ·
        refine TT.seq (.region (.pures hT 1 rfl (.load rfl rfl (Ld.one hT rfl hz rfl) rfl ?_)))
        refine OT.nil (.seq (.block (.seq (.region (.pures hT 2 rfl (.nil (.seq (.cond rfl (fun c107 => ?_) (fun c107 => ?_)))))))))
        ·
          have c107 := beq_iff_eq.1 c107
          refine TT.seq (.region (.pures hT 1 rfl (.load rfl rfl (Ld.slc hT rfl hz rfl) rfl ?_)))
          refine OT.call Try.call13 rfl rfl rfl rfl (law21_data hra (fun b o hb => Has.sel sl hb)) ?_
          rintro v_111 hs_111 ⟨KD, ED, rfl, hM⟩
          have hl8 : (dataL (rawImgs rl 8)).length ≤ 8 := Nat.le_trans (dataL_len _) (rawImgs_8 rl)
          have hlo := dataL_short (rawImgs_short rl 8)
          obtain ⟨is, his, hIm, ai, ci, hv111⟩ := mix_ims (hs := KD :: ED :: hs) hM (fun b o hb => has_one_there hb) (fun b o hb => Has.sel sl hb) (by omega) hlo
          subst hv111
          have hil : is.length = (dataL (rawImgs rl 8)).length := by rw [← imgs_length, his]
          refine OT.pures hT 1 rfl (.nil (.seq (.seq (.seq (.region (.pures hT 3 rfl (.nil (.seq (.cond rfl (fun c114 => ?_) (fun c114 => ?_))))))))))
          ·
            have c114 := beq_iff_eq.1 c114
            obtain rfl : is = [] := by cases is with
              | nil => rfl
              | cons a l => exact absurd c114 (by simp; omega)
            refine TT.seq (.region (.pures hT 1 rfl (.mkiface Try.underlying25 rfl rfl rfl rfl (.pures hT 1 rfl (.call Try.call14 rfl rfl rfl rfl (cow_ExpandBad (hIm.mono fun b o hb => Has.sel sl hb)) ?_)))))
            rintro v_119 hs_119 ⟨rfl, rfl⟩
            refine OT.pures hT 5 rfl (.nil (.seq (.seq (.seq (.region (.pures hT 2 rfl (.nil (.seq (.cond_false rfl (.skip (.seq (.exit (.seq (.blk rfl (.loop (.here (.seq (.region (.pures hT 3 rfl (.nil (.loop (pj + 1, Q, R, n, xs, HB, vs, .slice aS xs.length cS, HS, G) ?_ ?_ (SubR.cons rfl (SubR.cons rfl (SubR.cons rfl (SubR.cons' rfl (by (try dsimp only); exact (int_eq (by rw [wrap_i64 (by omega) (by omega)]; omega))) (SubR.nil _))))) sl)))))))))))))))))))))
            · dsimp only
              exact ⟨by omega, by omega, hB, hst, hcb, hSl, hoS, hA⟩
            · dsimp only
              omega
          ·
            have c114 := beq_eq_false_iff_ne.1 c114
            have hd : DataImgs (dataL (rawImgs rl 8)) := dataL_data (fun h => c114 (by rw [hil, h]; rfl))
            refine TT.skip (.seq (.seq (.region (.pures hT 1 rfl (.mkiface Try.underlying25 rfl rfl rfl rfl (.pures hT 1 rfl (.call Try.call14 rfl rfl rfl rfl (Fun.pull pl (cow_Expand (I := fun H => H = HB) (book_PgsI fun _ e => e ▸ hB) rfl hst.long hst.cat hst.good (hIm.mono fun b o hb => Has.sel sl hb) (by rw [his]; exact hd))) ?_)))))))
            rintro v_128 hs_128 (⟨v, ts2, HI, H2, rfl, rfl, hoI, hti, hI2⟩ | ⟨_, _, _, _, hE, _⟩)
            ·
              have hI2 := hI2.symm
              subst hI2
              rw [his] at hti
              have hmx := expandC_may hst hd
              obtain ⟨hX1, hX2, hX3⟩ := agree_expand hst hd hA
              refine OT.pures hT 5 rfl (.nil (.seq (.seq (.seq (.region (.pures hT 3 rfl (.pures hT 1 rfl (.call Try.call27 rfl rfl rfl rfl (ref_MayImages (ts := ts2) ((own_at (hs := hs) hoI hti hmx (expandC_len ..)).mono fun b o hb => Has.sel sl hb)) ?_))))))))
              rintro v_135 hs_135 ⟨rfl, rfl⟩
              rw [hti, decide_eq_true (expandC_mayI hst hd)]
              refine OT.pures hT 2 rfl (.nil (.seq (.cond_false rfl (.skip (.seq (.seq (.region (.pures hT 2 rfl (.call Try.call15 rfl rfl rfl rfl (book_Lay hB (own_at hoI hti hmx (expandC_len ..)) (by rw [hti]; exact hmx)) ?_)))))))))
              rintro v_140 hs_140 ⟨H3, rfl, rfl, hB3⟩
              rw [hti] at hB3
              refine OT.nil (.seq (.region (.pures hT 2 rfl (.chunk0 (.call Try.call28 rfl rfl rfl rfl (Fun.weaken (sl (hs' := [(b_28, blk (rbCells vs n (.slice aS xs.length cS)) 76 (0, 0))] :: HS :: [] :: H3 :: KD :: ED :: G :: hs)) (rb_expand (but := 0) (G := []) (F := H3) (r := KD :: ED :: G :: hs) (hSl.mono fun b o hb => Has.sel sl hb) hoS hst.good (hIm.mono fun b o hb => Has.sel sl hb) (by rw [his]; exact hd) (but_none hst.good))) ?_)))))
              rintro v_143 hs_143 ⟨vs2, HS2, G2, rfl, rfl, hoS2, hS2⟩
              rw [his] at hoS2 hS2
              refine OT.nil (.blk (.cut ((lay Q (expandC Q n xs (dataL (rawImgs rl 8)))), (lay (sideLay R R (sides xs (expandS R 0 ((dataL (rawImgs rl 8)).map Prod.fst) xs))) (dataL (rawImgs rl 8))), n, (expandS R 0 ((dataL (rawImgs rl 8)).map Prod.fst) xs), H3, vs2, .slice aS xs.length cS, HS2, (G2 ++ (KD ++ (ED ++ G)))) ?_ (SubR.cons rfl (SubR.cons rfl (SubR.cons rfl (SubR.cons rfl (SubR.nil _))))) sl))
              · dsimp only
                exact ⟨hB3, hX2, hX3, hS2.mono fun b o hb => Has.of_mem (by have := hb.mem; simp only [List.flatten_cons, List.mem_append] at this ⊢; rcases this with h | h | h | h | h; exact .inl (.inl h); exact .inl (.inr (.inl h)); exact .inl (.inr (.inr (.inl h))); exact .inl (.inr (.inr (.inr h))); exact .inr h), hoS2, hX1⟩
            ·
              exact hE.elim
        ·
          have c107 := beq_eq_false_iff_ne.1 c107
          refine TT.seq (.seq (.region (.pures hT 2 rfl (.nil (.seq (.cond rfl (fun c144 => ?_) (fun c144 => ?_)))))))
          ·
            refine TT.skip (.seq (.cond rfl (fun c144 => ?_) (fun c144 => ?_)))
            ·
              refine TT.cut (ι := Nat × Int × (List Snap) × Int × (Option Addr) × Nat × Chunk) (fun j => ((j.2.2.2.1) = 0 → StepOk n xs (j.2.1) (j.2.2.1)) ∧ Own encSnap 35 45 (.slice (j.2.2.2.2.1) (j.2.2.1).length (j.2.2.2.2.2.1)) (j.2.2.1) (j.2.2.2.2.2.2)) (fun j => [(0, .slice ao os.length co), (6, .pointer (some ⟨b_26, 0, none⟩)), (7, .pointer (some ⟨b_28, 0, none⟩)), (9, .int .i64 (pj : Nat)), (10, .pointer (some ⟨b_10, 0, none⟩)), (16, .pointer (some ⟨(j.1), 0, none⟩)), (17, .int .i64 (j.2.2.2.1))]) (fun j => [((j.1), blk [.int .i64 (j.2.1), .slice (j.2.2.2.2.1) (j.2.2.1).length (j.2.2.2.2.2.1)] 31 (0, 0))] :: (j.2.2.2.2.2.2) :: [(b_10, blk (encCw ⟨ok, .slice ar rl.length cr, rl, onm⟩) 79 (0, 0))] :: HB :: [(b_28, blk (rbCells vs n (.slice aS xs.length cS)) 76 (0, 0))] :: HS :: G :: hs) ?_ ?_
              ·
                refine TT.draw (([(b_10, blk (encCw ⟨ok, .slice ar rl.length cr, rl, onm⟩) 79 (0, 0))] :: [(b_28, blk (rbCells vs n (.slice aS xs.length cS)) 76 (0, 0))] :: HS :: hs)) mixed (.takes (fuel := 10) hT [0, 1, 2, 5] kr kr rfl (.take (fuel := 9) hT 3 rfl rfl kr kr kr rfl (.load rfl (Ld.struct (vs := [.int .i64 n, .slice aS xs.length cS]) hT rfl hz (by exact rb_cat hSl.len) rfl)) rfl ?_))
                refine AT.take (fuel := 8) hT 6 rfl rfl kr kr kr rfl (.load rfl (Ld.one hT rfl hz rfl)) rfl ?_
                refine AT.all (fuel := 7) [4, 11] kr (by decide) sl ?_
                intro i hi
                simp only [List.mem_cons, List.not_mem_nil, or_false] at hi
                rcases hi with rfl | rfl
                ·
                  refine ⟨_, rfl, ?_⟩
                  refine OT.call Try.call29 rfl rfl rfl rfl (law20_Of) ?_
                  rintro v_152 hs_152 ⟨rfl, rfl⟩
                  refine OT.nil (.any (.all (fuel := 6) [7, 11] kr (by decide) sl ?_))
                  intro i hi
                  simp only [List.mem_cons, List.not_mem_nil, or_false] at hi
                  rcases hi with rfl | rfl
                  ·
                    refine ⟨_, rfl, ?_⟩
                    refine OT.call Try.call11 rfl rfl rfl rfl (cat_Add (next := n) (xs := xs) (nm := onm) (hoS.row.mono fun b o hb => Has.sel sl hb) (by omega) (by omega)) ?_
                    rintro v_155 hs_155 ⟨wA1, HA1, rfl, rfl, hoA1⟩
                    obtain ⟨nA1, xA1, eA1, hadd1⟩ : ∃ a b d, addC n xs onm = ((a, b), d) := ⟨_, _, _, rfl⟩
                    rw [hadd1] at hoA1 ⊢
                    dsimp only at hoA1
                    obtain ⟨aA1, cA1, hwA1⟩ := (hoA1.row (hs := [])).len
                    subst hwA1
                    have hok1 : eA1 = 0 → StepOk n xs nA1 xA1 := fun e => addC_ok hst.good hst.h35 (by rw [hadd1, e])
                    refine OT.nil (.any (.takes (fuel := 3) hT [8, 9, 10] kr kr rfl (.op (fuel := 2) 11 kr rfl sl (.alloc Try.zeroValue31 rfl rfl (fun b_16 => ?_)))))
                    refine OT.nil (.any (.op (fuel := 1) 12 kr rfl sl (.store_all hT rfl rfl rfl rfl pl rfl rfl rfl (.inl (Nat.le_refl _)) ?_)))
                    refine OT.nil (.any (.takes (fuel := 0) hT [13] kr kr rfl (.done kr sl (.cut (_, nA1, xA1, eA1, aA1, cA1, HA1) ?_ (SubR.cons rfl (SubR.cons rfl (SubR.cons rfl (SubR.cons rfl (SubR.cons rfl (SubR.cons rfl (SubR.cons rfl (SubR.nil _)))))))) sl))))
                    · dsimp only
                      exact ⟨hok1, hoA1⟩
                  ·
                    refine ⟨_, rfl, ?_⟩
                    refine OT.alloc Try.zeroValue31 rfl rfl (fun b_16 => ?_)
                    refine OT.nil (.any (.op (fuel := 5) 7 kr rfl sl (.call Try.call11 rfl rfl rfl rfl (cat_Add (next := n) (xs := xs) (nm := onm) (hoS.row.mono fun b o hb => Has.sel sl hb) (by omega) (by omega)) ?_)))
                    rintro v_155 hs_155 ⟨wA1, HA1, rfl, rfl, hoA1⟩
                    obtain ⟨nA1, xA1, eA1, hadd1⟩ : ∃ a b d, addC n xs onm = ((a, b), d) := ⟨_, _, _, rfl⟩
                    rw [hadd1] at hoA1 ⊢
                    dsimp only at hoA1
                    obtain ⟨aA1, cA1, hwA1⟩ := (hoA1.row (hs := [])).len
                    subst hwA1
                    have hok1 : eA1 = 0 → StepOk n xs nA1 xA1 := fun e => addC_ok hst.good hst.h35 (by rw [hadd1, e])
                    refine OT.nil (.any (.takes (fuel := 2) hT [8, 9, 10] kr kr rfl (.op (fuel := 1) 12 kr rfl sl (.store_all hT rfl rfl rfl rfl pl rfl rfl rfl (.inl (Nat.le_refl _)) ?_))))
                    refine OT.nil (.any (.takes (fuel := 0) hT [13] kr kr rfl (.done kr sl (.cut (_, nA1, xA1, eA1, aA1, cA1, HA1) ?_ (SubR.cons rfl (SubR.cons rfl (SubR.cons rfl (SubR.cons rfl (SubR.cons rfl (SubR.cons rfl (SubR.cons rfl (SubR.nil _)))))))) sl))))
                    · dsimp only
                      exact ⟨hok1, hoA1⟩
                ·
                  refine ⟨_, rfl, ?_⟩
                  refine OT.alloc Try.zeroValue31 rfl rfl (fun b_16 => ?_)
                  refine OT.nil (.any (.op (fuel := 6) 4 kr rfl sl (.call Try.call29 rfl rfl rfl rfl (law20_Of) ?_)))
                  rintro v_152 hs_152 ⟨rfl, rfl⟩
                  refine OT.nil (.any (.op (fuel := 5) 7 kr rfl sl (.call Try.call11 rfl rfl rfl rfl (cat_Add (next := n) (xs := xs) (nm := onm) (hoS.row.mono fun b o hb => Has.sel sl hb) (by omega) (by omega)) ?_)))
                  rintro v_155 hs_155 ⟨wA1, HA1, rfl, rfl, hoA1⟩
                  obtain ⟨nA1, xA1, eA1, hadd1⟩ : ∃ a b d, addC n xs onm = ((a, b), d) := ⟨_, _, _, rfl⟩
                  rw [hadd1] at hoA1 ⊢
                  dsimp only at hoA1
                  obtain ⟨aA1, cA1, hwA1⟩ := (hoA1.row (hs := [])).len
                  subst hwA1
                  have hok1 : eA1 = 0 → StepOk n xs nA1 xA1 := fun e => addC_ok hst.good hst.h35 (by rw [hadd1, e])
                  refine OT.nil (.any (.takes (fuel := 2) hT [8, 9, 10] kr kr rfl (.op (fuel := 1) 12 kr rfl sl (.store_all hT rfl rfl rfl rfl pl rfl rfl rfl (.inl (Nat.le_refl _)) ?_))))
                  refine OT.nil (.any (.takes (fuel := 0) hT [13] kr kr rfl (.done kr sl (.cut (_, nA1, xA1, eA1, aA1, cA1, HA1) ?_ (SubR.cons rfl (SubR.cons rfl (SubR.cons rfl (SubR.cons rfl (SubR.cons rfl (SubR.cons rfl (SubR.cons rfl (SubR.nil _)))))))) sl))))
                  · dsimp only
                    exact ⟨hok1, hoA1⟩
              ·
                rintro ⟨b16, n2, xs2, e2, aA, cA, HA⟩ hI
                dsimp only at hI
                obtain ⟨hok, hoA⟩ := hI
                show TT _ _ _ [(0, .slice ao os.length co), (6, .pointer (some ⟨b_26, 0, none⟩)), (7, .pointer (some ⟨b_28, 0, none⟩)), (9, .int .i64 (pj : Nat)), (10, .pointer (some ⟨b_10, 0, none⟩)), (16, .pointer (some ⟨b16, 0, none⟩)), (17, .int .i64 e2)] ([(b16, blk [.int .i64 n2, .slice aA xs2.length cA] 31 (0, 0))] :: HA :: [(b_10, blk (encCw ⟨ok, .slice ar rl.length cr, rl, onm⟩) 79 (0, 0))] :: HB :: [(b_28, blk (rbCells vs n (.slice aS xs.length cS)) 76 (0, 0))] :: HS :: G :: hs)
                refine TT.cut (ι := Nat × Int × (List Snap) × Int × (Option Addr) × Nat × Chunk) (fun j => ((j.2.2.2.1) = 0 → StepOk n xs (j.2.1) (j.2.2.1)) ∧ Own encSnap 35 45 (.slice (j.2.2.2.2.1) (j.2.2.1).length (j.2.2.2.2.2.1)) (j.2.2.1) (j.2.2.2.2.2.2)) (fun j => [(0, .slice ao os.length co), (6, .pointer (some ⟨b_26, 0, none⟩)), (7, .pointer (some ⟨b_28, 0, none⟩)), (9, .int .i64 (pj : Nat)), (10, .pointer (some ⟨b_10, 0, none⟩)), (16, .pointer (some ⟨(j.1), 0, none⟩)), (17, .int .i64 (j.2.2.2.1))]) (fun j => [((j.1), blk [.int .i64 (j.2.1), .slice (j.2.2.2.2.1) (j.2.2.1).length (j.2.2.2.2.2.1)] 31 (0, 0))] :: (j.2.2.2.2.2.2) :: [(b_10, blk (encCw ⟨ok, .slice ar rl.length cr, rl, onm⟩) 79 (0, 0))] :: HB :: [(b_28, blk (rbCells vs n (.slice aS xs.length cS)) 76 (0, 0))] :: HS :: G :: hs) ?_ ?_
                ·
                  refine TT.seq (.region (.pures hT 1 rfl (.load rfl rfl (Ld.one hT rfl hz rfl) rfl ?_)))
                  refine OT.pures hT 1 rfl (.nil (.seq (.cond rfl (fun c160 => ?_) (fun c160 => ?_))))
                  ·
                    have c160 := beq_iff_eq.1 c160
                    refine TT.draw (([(b_10, blk (encCw ⟨ok, .slice ar rl.length cr, rl, onm⟩) 79 (0, 0))] :: [(b_28, blk (rbCells vs n (.slice aS xs.length cS)) 76 (0, 0))] :: HS :: hs)) mixed (.takes (fuel := 9) hT [0, 1, 2, 5] kr kr rfl (.take (fuel := 8) hT 3 rfl rfl kr kr kr rfl (.load rfl (Ld.struct (vs := [.int .i64 n, .slice aS xs.length cS]) hT rfl hz (by exact rb_cat hSl.len) rfl)) rfl ?_))
                    refine AT.take (fuel := 7) hT 6 rfl rfl kr kr kr rfl (.load rfl (Ld.one hT rfl hz rfl)) rfl ?_
                    refine AT.op (fuel := 6) 4 kr rfl sl (.call Try.call29 rfl rfl rfl rfl (law20_Of) ?_)
                    rintro v_166 hs_166 ⟨rfl, rfl⟩
                    refine OT.nil (.any (.op (fuel := 5) 7 kr rfl sl (.call Try.call30 rfl rfl rfl rfl (cat_Drop (next := n) (xs := xs) (nm := onm) (hoS.row.mono fun b o hb => Has.sel sl hb) (by omega)) ?_)))
                    rintro v_169 hs_169 ⟨wA2, HA2, rfl, rfl, hoA2⟩
                    obtain ⟨nA2, xA2, eA2, hadd2⟩ : ∃ a b d, dropC n xs onm = ((a, b), d) := ⟨_, _, _, rfl⟩
                    rw [hadd2] at hoA2 ⊢
                    dsimp only at hoA2
                    obtain ⟨aA2, cA2, hwA2⟩ := (hoA2.row (hs := [])).len
                    subst hwA2
                    have hok2 : eA2 = 0 → StepOk n xs nA2 xA2 := fun e => dropC_ok hst.good hst.h35 (by rw [hadd2, e])
                    refine OT.nil (.any (.takes (fuel := 2) hT [8, 9, 10] kr kr rfl (.op (fuel := 1) 11 kr rfl sl (.store_all hT rfl rfl rfl rfl pl rfl rfl rfl (.inl (Nat.le_refl _)) ?_))))
                    refine OT.nil (.any (.takes (fuel := 0) hT [12] kr kr rfl (.done kr sl (.cut (b16, nA2, xA2, eA2, aA2, cA2, HA2) ?_ (SubR.cons rfl (SubR.cons rfl (SubR.cons rfl (SubR.cons rfl (SubR.cons rfl (SubR.cons rfl (SubR.cons rfl (SubR.nil _)))))))) sl))))
                    · dsimp only
                      exact ⟨hok2, hoA2⟩
                  ·
                    have c160 := beq_eq_false_iff_ne.1 c160
                    refine TT.skip (.cut (b16, n2, xs2, e2, aA, cA, HA) ?_ (SubR.cons rfl (SubR.cons rfl (SubR.cons rfl (SubR.cons rfl (SubR.cons rfl (SubR.cons rfl (SubR.cons rfl (SubR.nil _)))))))) sl)
                    · dsimp only
                      exact ⟨hok, hoA⟩
                ·
                  rintro ⟨b16, n2, xs2, e2, aA, cA, HA⟩ hI
                  dsimp only at hI
                  obtain ⟨hok, hoA⟩ := hI
                  show TT _ _ _ [(0, .slice ao os.length co), (6, .pointer (some ⟨b_26, 0, none⟩)), (7, .pointer (some ⟨b_28, 0, none⟩)), (9, .int .i64 (pj : Nat)), (10, .pointer (some ⟨b_10, 0, none⟩)), (16, .pointer (some ⟨b16, 0, none⟩)), (17, .int .i64 e2)] ([(b16, blk [.int .i64 n2, .slice aA xs2.length cA] 31 (0, 0))] :: HA :: [(b_10, blk (encCw ⟨ok, .slice ar rl.length cr, rl, onm⟩) 79 (0, 0))] :: HB :: [(b_28, blk (rbCells vs n (.slice aS xs.length cS)) 76 (0, 0))] :: HS :: G :: hs)
                  refine TT.seq (.seq (.region (.pures hT 2 rfl (.nil (.seq (.cond rfl (fun c173 => ?_) (fun c173 => ?_)))))))
                  ·
                    have c173 := bne_iff_ne.1 c173
                    refine TT.exit (.seq (.blk rfl (.loop (.here (.seq (.region (.pures hT 3 rfl (.nil (.loop (pj + 1, Q, R, n, xs, HB, vs, .slice aS xs.length cS, HS, G) ?_ ?_ (SubR.cons rfl (SubR.cons rfl (SubR.cons rfl (SubR.cons' rfl (by (try dsimp only); exact (int_eq (by rw [wrap_i64 (by omega) (by omega)]; omega))) (SubR.nil _))))) sl)))))))))
                    · dsimp only
                      exact ⟨by omega, by omega, hB, hst, hcb, hSl, hoS, hA⟩
                    · dsimp only
                      omega
                  ·
                    have c173 := bne_eq_false_iff_eq.1 c173
                    obtain rfl : e2 = 0 := by omega
                    have hso := hok rfl
                    have hf2 := hso.good.few
                    refine TT.skip (.seq (.seq (.draw (([(b16, blk [.int .i64 n2, .slice aA xs2.length cA] 31 (0, 0))] :: HA :: hs)) mixed (.takes (fuel := 7) hT [0, 1, 3] kr kr rfl (.take (fuel := 6) hT 2 rfl rfl kr kr kr rfl (.load rfl (Ld.one hT rfl hz rfl)) rfl ?_)))))
                    refine AT.take (fuel := 5) hT 4 rfl rfl kr kr kr rfl (.load rfl (Ld.slc hT rfl hz rfl)) rfl ?_
                    refine AT.op (fuel := 4) 5 kr rfl sl (.chunk0 ?_)
                    refine OT.append hT el29 rfl rfl rfl rfl pl (Own.nil (enc := encSnap) (sz := 35) (e := 45)) (hoA.row.mono fun b o hb => Has.sel sl hb) (ones_snaps _) (by simp only [List.length_nil]; omega) rfl (fun v_179 H_179 ho_179 => ?_)
                    rw [List.nil_append] at ho_179
                    obtain ⟨aB, cB, hvB⟩ := (ho_179.row (hs := [])).len
                    subst hvB
                    refine OT.nil (.any (.op (fuel := 3) 6 kr rfl sl (.build (cs := [.int .i64 n2, .slice aB xs2.length cB]) hT rfl Try.zeroValue74 rfl rfl rfl rfl (.nil (.any (.takes (fuel := 1) hT [7, 8] kr kr rfl (.op (fuel := 0) 9 kr rfl sl (.store hT rfl rfl rfl rfl pl rfl (by rw [rb_len hSl.len]; show 0 + 96 + 2 ≤ 98; omega) rfl (.inl (Nat.le_refl _)) (by exact rb_all hSl.len (by omega)) ?_))))))))
                    refine OT.nil (.any (.done kr sl (.seq (.draw (([(b_28, blk (rbCells vs n2 (.slice aB xs2.length cB)) 76 (0, 0))] :: H_179 :: hs)) mixed (.takes (fuel := 4) hT [0, 1, 2, 3, 6, 7] kr kr rfl (.take (fuel := 3) hT 4 rfl rfl kr kr kr rfl (.load rfl (Ld.struct (vs := [.int .i64 n2, .slice aB xs2.length cB]) hT rfl hz (by exact rb_cat hSl.len) rfl)) rfl ?_))))))
                    refine AT.op (fuel := 2) 5 kr rfl sl (.call Try.call26 rfl rfl rfl rfl (ref_CatBytes (xs := xs2) (ho_179.row.mono fun b o hb => Has.sel sl hb) (by omega)) ?_)
                    rintro v_188 hs_188 ⟨HE, rfl, hoE⟩
                    refine OT.nil (.any (.index_at (fuel := 1) hT 8 rfl kr kr kr rfl rfl rfl rfl (by omega) (by decide) rfl (.op (fuel := 0) 9 kr rfl sl ?_)))
                    obtain ⟨i1, i2, i3⟩ := set_cat hst.long hso.good hso.h35 (hso.agree _ _ hA)
                    refine OT.bk_store (no := 0) hT rfl rfl rfl rfl pl hB pl hoE (catR_len hso.good hso.h35) rfl (by decide) (fun H_z hb_z ht_z => ?_)
                    refine OT.nil (.any (.done kr sl (.blk (.cut ((upd Q ((0 : Nat) : Int) (catBytesR n2 xs2)), R, n2, xs2, H_z, vs, .slice aB xs2.length cB, H_179, G) ?_ (SubR.cons rfl (SubR.cons rfl (SubR.cons rfl (SubR.cons rfl (SubR.nil _))))) sl))))
                    · dsimp only
                      exact ⟨hb_z, i1, i2, hSl, ho_179, i3⟩
            ·
              refine TT.seq (.region (.pures hT 1 rfl (.mkiface Try.underlying25 rfl rfl rfl rfl (.pures hT 1 rfl (.load rfl rfl (Ld.one hT rfl hz rfl) rfl ?_)))))
              refine OT.call Try.call22 rfl rfl rfl rfl (Fun.pull pl (cow_Revert (nm := onm) (I := fun H => H = HB) (book_PgsI fun _ e => e ▸ hB) rfl hst.long hst.cat hst.good)) ?_
              rintro v_74 hs_74 (⟨v, ts, HI, HR, rfl, rfl, hoI, hIR, i, s, hf, hs0, hi, hr⟩ | ⟨e, HR, rfl, he, (hE | ⟨rfl, hlt, hIR⟩ | ⟨rfl, hIR, i, s, hf, hs0, hi⟩), rfl⟩)
              ·
                have hIR := hIR.symm
                subst hIR
                refine OT.pures hT 5 rfl (.nil (.seq (.seq (.draw (([(b_10, blk (encCw ⟨ok, .slice ar rl.length cr, rl, onm⟩) 79 (0, 0))] :: [(b_28, blk (rbCells vs n (.slice aS xs.length cS)) 76 (0, 0))] :: HS :: hs)) mixed (.takes (fuel := 5) hT [0, 1, 2, 5] kr kr rfl (.take (fuel := 4) hT 3 rfl rfl kr kr kr rfl (.load rfl (Ld.struct (vs := [.int .i64 n, .slice aS xs.length cS]) hT rfl hz (by exact rb_cat hSl.len) rfl)) rfl ?_))))))
                refine AT.take (fuel := 3) hT 6 rfl rfl kr kr kr rfl (.load rfl (Ld.one hT rfl hz rfl)) rfl ?_
                refine AT.op (fuel := 2) 4 kr rfl sl (.call Try.call29 rfl rfl rfl rfl (law20_Of) ?_)
                rintro v_81 hs_81 ⟨rfl, rfl⟩
                refine OT.nil (.any (.op (fuel := 1) 7 kr rfl sl (.call Try.call31 rfl rfl rfl rfl (cat_Find (next := n) (hoS.row.mono fun b o hb => Has.sel sl hb) (by omega)) ?_)))
                rintro v_84 hs_84 ⟨rfl, rfl⟩
                refine OT.nil (.any (.takes (fuel := 0) hT [8] kr kr rfl (.done kr sl (.seq (.seq (.region (.pures hT 1 rfl (.nil (.seq (.seq (.seq (.region (.pures hT 2 rfl (.nil (.seq (.cond rfl (fun c86 => ?_) (fun c86 => ?_)))))))))))))))))
                ·
                  exact absurd (of_decide_eq_true c86) (by show ¬ findAt (named onm) 0 xs < 0; omega)
                ·
                  refine TT.seq (.region (.pures hT 4 rfl (.load rfl rfl (Ld.slc hT rfl hz (rb_v hSl.len)) rfl ?_)))
                  refine OT.pures hT 1 rfl (.reg 92 rfl (v := .int .i64 (i : Nat)) (int_eq hf) (.index hT rfl rfl rfl rfl (hoS.row.mono fun b o hb => Has.sel sl hb) (by omega) (by rw [Int.toNat_natCast]; exact hs0) rfl (fun ad_93 hel_93 => ?_)))
                  obtain ⟨eb_93, eo_93, rfl, hfld_93⟩ := hel_93.at (P := Try.prog)
                  refine OT.pures hT 1 rfl (.load rfl rfl (hfld_93 hT rfl rfl) rfl (.nil (.seq (.cond rfl (fun c95 => ?_) (fun c95 => ?_)))))
                  ·
                    rw [hi] at c95; cases c95
                  ·
                    refine TT.skip (.seq (.seq (.seq (.region (.pures hT 3 rfl (.nil (.seq (.cond_false rfl (.skip (.seq (.seq (.seq (.region (.pures hT 2 rfl (.nil (.seq (.cond_false rfl (.skip (.seq (.seq (.region (.pures hT 2 rfl (.call Try.call15 rfl rfl rfl rfl (book_Lay hB (own_at hoI hr (revertC_may hst hs0) (imgsOf_len _ 96)) (by rw [hr]; exact revertC_may hst hs0)) ?_)))))))))))))))))))))))
                    rintro v_103 hs_103 ⟨H3, rfl, rfl, hB3⟩
                    rw [hr] at hB3
                    obtain ⟨hX1, hX2, hX3⟩ := agree_back hst hA hs0 hi
                    refine OT.nil (.seq (.region (.pures hT 2 rfl (.reg 105 rfl (v := .int .i64 (i : Nat)) (int_eq hf) (.call Try.call32 rfl rfl rfl rfl (Fun.weaken (sl (hs' := [(b_28, blk (rbCells vs n (.slice aS xs.length cS)) 76 (0, 0))] :: HS :: G :: H3 :: hs)) (rb_back (F := H3) hst.good hSl hoS hs0)) ?_)))))
                    rintro v_106 hs_106 ⟨vs2, vS2, HS2, G2, rfl, rfl, hoS2, hS2⟩
                    refine OT.nil (.blk (.cut ((lay Q (revertC Q n xs i s)), (lay (sideLay R R (sides (xs.take (i + 1)) (expandS R s.id ((backL R s 32).map Prod.fst) (xs.take (i + 1))))) (backL R s 32)), n, (expandS R s.id ((backL R s 32).map Prod.fst) (xs.take (i + 1))), H3, vs2, vS2, HS2, G2) ?_ (SubR.cons rfl (SubR.cons rfl (SubR.cons rfl (SubR.cons rfl (SubR.nil _))))) sl))
                    · dsimp only
                      exact ⟨hB3, hX2, hX3, hS2, hoS2, hX1⟩
              ·
                exact hE.elim
              ·
                have hIR := hIR.symm
                subst hIR
                refine OT.pures hT 5 rfl (.nil (.seq (.seq (.draw (([(b_10, blk (encCw ⟨ok, .slice ar rl.length cr, rl, onm⟩) 79 (0, 0))] :: [(b_28, blk (rbCells vs n (.slice aS xs.length cS)) 76 (0, 0))] :: HS :: hs)) mixed (.takes (fuel := 5) hT [0, 1, 2, 5] kr kr rfl (.take (fuel := 4) hT 3 rfl rfl kr kr kr rfl (.load rfl (Ld.struct (vs := [.int .i64 n, .slice aS xs.length cS]) hT rfl hz (by exact rb_cat hSl.len) rfl)) rfl ?_))))))
                refine AT.take (fuel := 3) hT 6 rfl rfl kr kr kr rfl (.load rfl (Ld.one hT rfl hz rfl)) rfl ?_
                refine AT.op (fuel := 2) 4 kr rfl sl (.call Try.call29 rfl rfl rfl rfl (law20_Of) ?_)
                rintro v_81 hs_81 ⟨rfl, rfl⟩
                refine OT.nil (.any (.op (fuel := 1) 7 kr rfl sl (.call Try.call31 rfl rfl rfl rfl (cat_Find (next := n) (hoS.row.mono fun b o hb => Has.sel sl hb) (by omega)) ?_)))
                rintro v_84 hs_84 ⟨rfl, rfl⟩
                refine OT.nil (.any (.takes (fuel := 0) hT [8] kr kr rfl (.done kr sl (.seq (.seq (.region (.pures hT 1 rfl (.nil (.seq (.seq (.seq (.region (.pures hT 2 rfl (.nil (.seq (.cond rfl (fun c86 => ?_) (fun c86 => ?_)))))))))))))))))
                ·
                  refine TT.region (.pures hT 1 rfl (.nil (.seq (.seq (.seq (.region (.pures hT 3 rfl (.nil (.seq (.cond_false rfl (.skip (.seq (.seq (.seq (.region (.pures hT 2 rfl (.nil (.seq (.cond_true rfl (.exit (.seq (.blk rfl (.loop (.here (.seq (.region (.pures hT 3 rfl (.nil (.loop (pj + 1, Q, R, n, xs, HB, vs, .slice aS xs.length cS, HS, G) ?_ ?_ (SubR.cons rfl (SubR.cons rfl (SubR.cons rfl (SubR.cons' rfl (by (try dsimp only); exact (int_eq (by rw [wrap_i64 (by omega) (by omega)]; omega))) (SubR.nil _))))) sl)))))))))))))))))))))))))))))
                  · dsimp only
                    exact ⟨by omega, by omega, hB, hst, hcb, hSl, hoS, hA⟩
                  · dsimp only
                    omega
                ·
                  exact absurd hlt (of_decide_eq_false c86)
              ·
                have hIR := hIR.symm
                subst hIR
                refine OT.pures hT 5 rfl (.nil (.seq (.seq (.draw (([(b_10, blk (encCw ⟨ok, .slice ar rl.length cr, rl, onm⟩) 79 (0, 0))] :: [(b_28, blk (rbCells vs n (.slice aS xs.length cS)) 76 (0, 0))] :: HS :: hs)) mixed (.takes (fuel := 5) hT [0, 1, 2, 5] kr kr rfl (.take (fuel := 4) hT 3 rfl rfl kr kr kr rfl (.load rfl (Ld.struct (vs := [.int .i64 n, .slice aS xs.length cS]) hT rfl hz (by exact rb_cat hSl.len) rfl)) rfl ?_))))))
                refine AT.take (fuel := 3) hT 6 rfl rfl kr kr kr rfl (.load rfl (Ld.one hT rfl hz rfl)) rfl ?_
                refine AT.op (fuel := 2) 4 kr rfl sl (.call Try.call29 rfl rfl rfl rfl (law20_Of) ?_)
                rintro v_81 hs_81 ⟨rfl, rfl⟩
                refine OT.nil (.any (.op (fuel := 1) 7 kr rfl sl (.call Try.call31 rfl rfl rfl rfl (cat_Find (next := n) (hoS.row.mono fun b o hb => Has.sel sl hb) (by omega)) ?_)))
                rintro v_84 hs_84 ⟨rfl, rfl⟩
                refine OT.nil (.any (.takes (fuel := 0) hT [8] kr kr rfl (.done kr sl (.seq (.seq (.region (.pures hT 1 rfl (.nil (.seq (.seq (.seq (.region (.pures hT 2 rfl (.nil (.seq (.cond rfl (fun c86 => ?_) (fun c86 => ?_)))))))))))))))))
                ·
                  exact absurd (of_decide_eq_true c86) (by show ¬ findAt (named onm) 0 xs < 0; omega)
                ·
                  refine TT.seq (.region (.pures hT 4 rfl (.load rfl rfl (Ld.slc hT rfl hz (rb_v hSl.len)) rfl ?_)))
                  refine OT.pures hT 1 rfl (.reg 92 rfl (v := .int .i64 (i : Nat)) (int_eq hf) (.index hT rfl rfl rfl rfl (hoS.row.mono fun b o hb => Has.sel sl hb) (by omega) (by rw [Int.toNat_natCast]; exact hs0) rfl (fun ad_93 hel_93 => ?_)))
                  obtain ⟨eb_93, eo_93, rfl, hfld_93⟩ := hel_93.at (P := Try.prog)
                  refine OT.pures hT 1 rfl (.load rfl rfl (hfld_93 hT rfl rfl) rfl (.nil (.seq (.cond rfl (fun c95 => ?_) (fun c95 => ?_)))))
                  ·
                    refine TT.region (.pures hT 1 rfl (.nil (.seq (.seq (.seq (.region (.pures hT 3 rfl (.nil (.seq (.cond_false rfl (.skip (.seq (.seq (.seq (.region (.pures hT 2 rfl (.nil (.seq (.cond_true rfl (.exit (.seq (.blk rfl (.loop (.here (.seq (.region (.pures hT 3 rfl (.nil (.loop (pj + 1, Q, R, n, xs, HB, vs, .slice aS xs.length cS, HS, G) ?_ ?_ (SubR.cons rfl (SubR.cons rfl (SubR.cons rfl (SubR.cons' rfl (by (try dsimp only); exact (int_eq (by rw [wrap_i64 (by omega) (by omega)]; omega))) (SubR.nil _))))) sl)))))))))))))))))))))))))))))
                    · dsimp only
                      exact ⟨by omega, by omega, hB, hst, hcb, hSl, hoS, hA⟩
                    · dsimp only
                      omega
                  ·
                    rw [hi] at c95; cases c95
          ·
            refine TT.region (.pures hT 2 rfl (.nil (.seq (.cond rfl (fun c144 => ?_) (fun c144 => ?_)))))
            ·
              refine TT.cut (ι := Nat × Int × (List Snap) × Int × (Option Addr) × Nat × Chunk) (fun j => ((j.2.2.2.1) = 0 → StepOk n xs (j.2.1) (j.2.2.1)) ∧ Own encSnap 35 45 (.slice (j.2.2.2.2.1) (j.2.2.1).length (j.2.2.2.2.2.1)) (j.2.2.1) (j.2.2.2.2.2.2)) (fun j => [(0, .slice ao os.length co), (6, .pointer (some ⟨b_26, 0, none⟩)), (7, .pointer (some ⟨b_28, 0, none⟩)), (9, .int .i64 (pj : Nat)), (10, .pointer (some ⟨b_10, 0, none⟩)), (16, .pointer (some ⟨(j.1), 0, none⟩)), (17, .int .i64 (j.2.2.2.1))]) (fun j => [((j.1), blk [.int .i64 (j.2.1), .slice (j.2.2.2.2.1) (j.2.2.1).length (j.2.2.2.2.2.1)] 31 (0, 0))] :: (j.2.2.2.2.2.2) :: [(b_10, blk (encCw ⟨ok, .slice ar rl.length cr, rl, onm⟩) 79 (0, 0))] :: HB :: [(b_28, blk (rbCells vs n (.slice aS xs.length cS)) 76 (0, 0))] :: HS :: G :: hs) ?_ ?_
              ·
                refine TT.draw (([(b_10, blk (encCw ⟨ok, .slice ar rl.length cr, rl, onm⟩) 79 (0, 0))] :: [(b_28, blk (rbCells vs n (.slice aS xs.length cS)) 76 (0, 0))] :: HS :: hs)) mixed (.takes (fuel := 10) hT [0, 1, 2, 5] kr kr rfl (.take (fuel := 9) hT 3 rfl rfl kr kr kr rfl (.load rfl (Ld.struct (vs := [.int .i64 n, .slice aS xs.length cS]) hT rfl hz (by exact rb_cat hSl.len) rfl)) rfl ?_))
                refine AT.take (fuel := 8) hT 6 rfl rfl kr kr kr rfl (.load rfl (Ld.one hT rfl hz rfl)) rfl ?_
                refine AT.all (fuel := 7) [4, 11] kr (by decide) sl ?_
                intro i hi
                simp only [List.mem_cons, List.not_mem_nil, or_false] at hi
                rcases hi with rfl | rfl
                ·
                  refine ⟨_, rfl, ?_⟩
                  refine OT.call Try.call29 rfl rfl rfl rfl (law20_Of) ?_
                  rintro v_152 hs_152 ⟨rfl, rfl⟩
                  refine OT.nil (.any (.all (fuel := 6) [7, 11] kr (by decide) sl ?_))
                  intro i hi
                  simp only [List.mem_cons, List.not_mem_nil, or_false] at hi
                  rcases hi with rfl | rfl
                  ·
                    refine ⟨_, rfl, ?_⟩
                    refine OT.call Try.call11 rfl rfl rfl rfl (cat_Add (next := n) (xs := xs) (nm := onm) (hoS.row.mono fun b o hb => Has.sel sl hb) (by omega) (by omega)) ?_
                    rintro v_155 hs_155 ⟨wA1, HA1, rfl, rfl, hoA1⟩
                    obtain ⟨nA1, xA1, eA1, hadd1⟩ : ∃ a b d, addC n xs onm = ((a, b), d) := ⟨_, _, _, rfl⟩
                    rw [hadd1] at hoA1 ⊢
                    dsimp only at hoA1
                    obtain ⟨aA1, cA1, hwA1⟩ := (hoA1.row (hs := [])).len
                    subst hwA1
                    have hok1 : eA1 = 0 → StepOk n xs nA1 xA1 := fun e => addC_ok hst.good hst.h35 (by rw [hadd1, e])
                    refine OT.nil (.any (.takes (fuel := 3) hT [8, 9, 10] kr kr rfl (.op (fuel := 2) 11 kr rfl sl (.alloc Try.zeroValue31 rfl rfl (fun b_16 => ?_)))))
                    refine OT.nil (.any (.op (fuel := 1) 12 kr rfl sl (.store_all hT rfl rfl rfl rfl pl rfl rfl rfl (.inl (Nat.le_refl _)) ?_)))
                    refine OT.nil (.any (.takes (fuel := 0) hT [13] kr kr rfl (.done kr sl (.cut (_, nA1, xA1, eA1, aA1, cA1, HA1) ?_ (SubR.cons rfl (SubR.cons rfl (SubR.cons rfl (SubR.cons rfl (SubR.cons rfl (SubR.cons rfl (SubR.cons rfl (SubR.nil _)))))))) sl))))
                    · dsimp only
                      exact ⟨hok1, hoA1⟩
                  ·
                    refine ⟨_, rfl, ?_⟩
                    refine OT.alloc Try.zeroValue31 rfl rfl (fun b_16 => ?_)
                    refine OT.nil (.any (.op (fuel := 5) 7 kr rfl sl (.call Try.call11 rfl rfl rfl rfl (cat_Add (next := n) (xs := xs) (nm := onm) (hoS.row.mono fun b o hb => Has.sel sl hb) (by omega) (by omega)) ?_)))
                    rintro v_155 hs_155 ⟨wA1, HA1, rfl, rfl, hoA1⟩
                    obtain ⟨nA1, xA1, eA1, hadd1⟩ : ∃ a b d, addC n xs onm = ((a, b), d) := ⟨_, _, _, rfl⟩
                    rw [hadd1] at hoA1 ⊢
                    dsimp only at hoA1
                    obtain ⟨aA1, cA1, hwA1⟩ := (hoA1.row (hs := [])).len
                    subst hwA1
                    have hok1 : eA1 = 0 → StepOk n xs nA1 xA1 := fun e => addC_ok hst.good hst.h35 (by rw [hadd1, e])
                    refine OT.nil (.any (.takes (fuel := 2) hT [8, 9, 10] kr kr rfl (.op (fuel := 1) 12 kr rfl sl (.store_all hT rfl rfl rfl rfl pl rfl rfl rfl (.inl (Nat.le_refl _)) ?_))))
                    refine OT.nil (.any (.takes (fuel := 0) hT [13] kr kr rfl (.done kr sl (.cut (_, nA1, xA1, eA1, aA1, cA1, HA1) ?_ (SubR.cons rfl (SubR.cons rfl (SubR.cons rfl (SubR.cons rfl (SubR.cons rfl (SubR.cons rfl (SubR.cons rfl (SubR.nil _)))))))) sl))))
                    · dsimp only
                      exact ⟨hok1, hoA1⟩
                ·
                  refine ⟨_, rfl, ?_⟩
                  refine OT.alloc Try.zeroValue31 rfl rfl (fun b_16 => ?_)
                  refine OT.nil (.any (.op (fuel := 6) 4 kr rfl sl (.call Try.call29 rfl rfl rfl rfl (law20_Of) ?_)))
                  rintro v_152 hs_152 ⟨rfl, rfl⟩
                  refine OT.nil (.any (.op (fuel := 5) 7 kr rfl sl (.call Try.call11 rfl rfl rfl rfl (cat_Add (next := n) (xs := xs) (nm := onm) (hoS.row.mono fun b o hb => Has.sel sl hb) (by omega) (by omega)) ?_)))
                  rintro v_155 hs_155 ⟨wA1, HA1, rfl, rfl, hoA1⟩
                  obtain ⟨nA1, xA1, eA1, hadd1⟩ : ∃ a b d, addC n xs onm = ((a, b), d) := ⟨_, _, _, rfl⟩
                  rw [hadd1] at hoA1 ⊢
                  dsimp only at hoA1
                  obtain ⟨aA1, cA1, hwA1⟩ := (hoA1.row (hs := [])).len
                  subst hwA1
                  have hok1 : eA1 = 0 → StepOk n xs nA1 xA1 := fun e => addC_ok hst.good hst.h35 (by rw [hadd1, e])
                  refine OT.nil (.any (.takes (fuel := 2) hT [8, 9, 10] kr kr rfl (.op (fuel := 1) 12 kr rfl sl (.store_all hT rfl rfl rfl rfl pl rfl rfl rfl (.inl (Nat.le_refl _)) ?_))))
                  refine OT.nil (.any (.takes (fuel := 0) hT [13] kr kr rfl (.done kr sl (.cut (_, nA1, xA1, eA1, aA1, cA1, HA1) ?_ (SubR.cons rfl (SubR.cons rfl (SubR.cons rfl (SubR.cons rfl (SubR.cons rfl (SubR.cons rfl (SubR.cons rfl (SubR.nil _)))))))) sl))))
                  · dsimp only
                    exact ⟨hok1, hoA1⟩
              ·
                rintro ⟨b16, n2, xs2, e2, aA, cA, HA⟩ hI
                dsimp only at hI
                obtain ⟨hok, hoA⟩ := hI
                show TT _ _ _ [(0, .slice ao os.length co), (6, .pointer (some ⟨b_26, 0, none⟩)), (7, .pointer (some ⟨b_28, 0, none⟩)), (9, .int .i64 (pj : Nat)), (10, .pointer (some ⟨b_10, 0, none⟩)), (16, .pointer (some ⟨b16, 0, none⟩)), (17, .int .i64 e2)] ([(b16, blk [.int .i64 n2, .slice aA xs2.length cA] 31 (0, 0))] :: HA :: [(b_10, blk (encCw ⟨ok, .slice ar rl.length cr, rl, onm⟩) 79 (0, 0))] :: HB :: [(b_28, blk (rbCells vs n (.slice aS xs.length cS)) 76 (0, 0))] :: HS :: G :: hs)
                refine TT.cut (ι := Nat × Int × (List Snap) × Int × (Option Addr) × Nat × Chunk) (fun j => ((j.2.2.2.1) = 0 → StepOk n xs (j.2.1) (j.2.2.1)) ∧ Own encSnap 35 45 (.slice (j.2.2.2.2.1) (j.2.2.1).length (j.2.2.2.2.2.1)) (j.2.2.1) (j.2.2.2.2.2.2)) (fun j => [(0, .slice ao os.length co), (6, .pointer (some ⟨b_26, 0, none⟩)), (7, .pointer (some ⟨b_28, 0, none⟩)), (9, .int .i64 (pj : Nat)), (10, .pointer (some ⟨b_10, 0, none⟩)), (16, .pointer (some ⟨(j.1), 0, none⟩)), (17, .int .i64 (j.2.2.2.1))]) (fun j => [((j.1), blk [.int .i64 (j.2.1), .slice (j.2.2.2.2.1) (j.2.2.1).length (j.2.2.2.2.2.1)] 31 (0, 0))] :: (j.2.2.2.2.2.2) :: [(b_10, blk (encCw ⟨ok, .slice ar rl.length cr, rl, onm⟩) 79 (0, 0))] :: HB :: [(b_28, blk (rbCells vs n (.slice aS xs.length cS)) 76 (0, 0))] :: HS :: G :: hs) ?_ ?_
                ·
                  refine TT.seq (.region (.pures hT 1 rfl (.load rfl rfl (Ld.one hT rfl hz rfl) rfl ?_)))
                  refine OT.pures hT 1 rfl (.nil (.seq (.cond rfl (fun c160 => ?_) (fun c160 => ?_))))
                  ·
                    have c160 := beq_iff_eq.1 c160
                    refine TT.draw (([(b_10, blk (encCw ⟨ok, .slice ar rl.length cr, rl, onm⟩) 79 (0, 0))] :: [(b_28, blk (rbCells vs n (.slice aS xs.length cS)) 76 (0, 0))] :: HS :: hs)) mixed (.takes (fuel := 9) hT [0, 1, 2, 5] kr kr rfl (.take (fuel := 8) hT 3 rfl rfl kr kr kr rfl (.load rfl (Ld.struct (vs := [.int .i64 n, .slice aS xs.length cS]) hT rfl hz (by exact rb_cat hSl.len) rfl)) rfl ?_))
                    refine AT.take (fuel := 7) hT 6 rfl rfl kr kr kr rfl (.load rfl (Ld.one hT rfl hz rfl)) rfl ?_
                    refine AT.op (fuel := 6) 4 kr rfl sl (.call Try.call29 rfl rfl rfl rfl (law20_Of) ?_)
                    rintro v_166 hs_166 ⟨rfl, rfl⟩
                    refine OT.nil (.any (.op (fuel := 5) 7 kr rfl sl (.call Try.call30 rfl rfl rfl rfl (cat_Drop (next := n) (xs := xs) (nm := onm) (hoS.row.mono fun b o hb => Has.sel sl hb) (by omega)) ?_)))
                    rintro v_169 hs_169 ⟨wA2, HA2, rfl, rfl, hoA2⟩
                    obtain ⟨nA2, xA2, eA2, hadd2⟩ : ∃ a b d, dropC n xs onm = ((a, b), d) := ⟨_, _, _, rfl⟩
                    rw [hadd2] at hoA2 ⊢
                    dsimp only at hoA2
                    obtain ⟨aA2, cA2, hwA2⟩ := (hoA2.row (hs := [])).len
                    subst hwA2
                    have hok2 : eA2 = 0 → StepOk n xs nA2 xA2 := fun e => dropC_ok hst.good hst.h35 (by rw [hadd2, e])
                    refine OT.nil (.any (.takes (fuel := 2) hT [8, 9, 10] kr kr rfl (.op (fuel := 1) 11 kr rfl sl (.store_all hT rfl rfl rfl rfl pl rfl rfl rfl (.inl (Nat.le_refl _)) ?_))))
                    refine OT.nil (.any (.takes (fuel := 0) hT [12] kr kr rfl (.done kr sl (.cut (b16, nA2, xA2, eA2, aA2, cA2, HA2) ?_ (SubR.cons rfl (SubR.cons rfl (SubR.cons rfl (SubR.cons rfl (SubR.cons rfl (SubR.cons rfl (SubR.cons rfl (SubR.nil _)))))))) sl))))
                    · dsimp only
                      exact ⟨hok2, hoA2⟩
                  ·
                    have c160 := beq_eq_false_iff_ne.1 c160
                    refine TT.skip (.cut (b16, n2, xs2, e2, aA, cA, HA) ?_ (SubR.cons rfl (SubR.cons rfl (SubR.cons rfl (SubR.cons rfl (SubR.cons rfl (SubR.cons rfl (SubR.cons rfl (SubR.nil _)))))))) sl)
                    · dsimp only
                      exact ⟨hok, hoA⟩
                ·
                  rintro ⟨b16, n2, xs2, e2, aA, cA, HA⟩ hI
                  dsimp only at hI
                  obtain ⟨hok, hoA⟩ := hI
                  show TT _ _ _ [(0, .slice ao os.length co), (6, .pointer (some ⟨b_26, 0, none⟩)), (7, .pointer (some ⟨b_28, 0, none⟩)), (9, .int .i64 (pj : Nat)), (10, .pointer (some ⟨b_10, 0, none⟩)), (16, .pointer (some ⟨b16, 0, none⟩)), (17, .int .i64 e2)] ([(b16, blk [.int .i64 n2, .slice aA xs2.length cA] 31 (0, 0))] :: HA :: [(b_10, blk (encCw ⟨ok, .slice ar rl.length cr, rl, onm⟩) 79 (0, 0))] :: HB :: [(b_28, blk (rbCells vs n (.slice aS xs.length cS)) 76 (0, 0))] :: HS :: G :: hs)
                  refine TT.seq (.seq (.region (.pures hT 2 rfl (.nil (.seq (.cond rfl (fun c173 => ?_) (fun c173 => ?_)))))))
                  ·
                    have c173 := bne_iff_ne.1 c173
                    refine TT.exit (.seq (.blk rfl (.loop (.here (.seq (.region (.pures hT 3 rfl (.nil (.loop (pj + 1, Q, R, n, xs, HB, vs, .slice aS xs.length cS, HS, G) ?_ ?_ (SubR.cons rfl (SubR.cons rfl (SubR.cons rfl (SubR.cons' rfl (by (try dsimp only); exact (int_eq (by rw [wrap_i64 (by omega) (by omega)]; omega))) (SubR.nil _))))) sl)))))))))
                    · dsimp only
                      exact ⟨by omega, by omega, hB, hst, hcb, hSl, hoS, hA⟩
                    · dsimp only
                      omega
                  ·
                    have c173 := bne_eq_false_iff_eq.1 c173
                    obtain rfl : e2 = 0 := by omega
                    have hso := hok rfl
                    have hf2 := hso.good.few
                    refine TT.skip (.seq (.seq (.draw (([(b16, blk [.int .i64 n2, .slice aA xs2.length cA] 31 (0, 0))] :: HA :: hs)) mixed (.takes (fuel := 7) hT [0, 1, 3] kr kr rfl (.take (fuel := 6) hT 2 rfl rfl kr kr kr rfl (.load rfl (Ld.one hT rfl hz rfl)) rfl ?_)))))
                    refine AT.take (fuel := 5) hT 4 rfl rfl kr kr kr rfl (.load rfl (Ld.slc hT rfl hz rfl)) rfl ?_
                    refine AT.op (fuel := 4) 5 kr rfl sl (.chunk0 ?_)
                    refine OT.append hT el29 rfl rfl rfl rfl pl (Own.nil (enc := encSnap) (sz := 35) (e := 45)) (hoA.row.mono fun b o hb => Has.sel sl hb) (ones_snaps _) (by simp only [List.length_nil]; omega) rfl (fun v_179 H_179 ho_179 => ?_)
                    rw [List.nil_append] at ho_179
                    obtain ⟨aB, cB, hvB⟩ := (ho_179.row (hs := [])).len
                    subst hvB
                    refine OT.nil (.any (.op (fuel := 3) 6 kr rfl sl (.build (cs := [.int .i64 n2, .slice aB xs2.length cB]) hT rfl Try.zeroValue74 rfl rfl rfl rfl (.nil (.any (.takes (fuel := 1) hT [7, 8] kr kr rfl (.op (fuel := 0) 9 kr rfl sl (.store hT rfl rfl rfl rfl pl rfl (by rw [rb_len hSl.len]; show 0 + 96 + 2 ≤ 98; omega) rfl (.inl (Nat.le_refl _)) (by exact rb_all hSl.len (by omega)) ?_))))))))
                    refine OT.nil (.any (.done kr sl (.seq (.draw (([(b_28, blk (rbCells vs n2 (.slice aB xs2.length cB)) 76 (0, 0))] :: H_179 :: hs)) mixed (.takes (fuel := 4) hT [0, 1, 2, 3, 6, 7] kr kr rfl (.take (fuel := 3) hT 4 rfl rfl kr kr kr rfl (.load rfl (Ld.struct (vs := [.int .i64 n2, .slice aB xs2.length cB]) hT rfl hz (by exact rb_cat hSl.len) rfl)) rfl ?_))))))
                    refine AT.op (fuel := 2) 5 kr rfl sl (.call Try.call26 rfl rfl rfl rfl (ref_CatBytes (xs := xs2) (ho_179.row.mono fun b o hb => Has.sel sl hb) (by omega)) ?_)
                    rintro v_188 hs_188 ⟨HE, rfl, hoE⟩
                    refine OT.nil (.any (.index_at (fuel := 1) hT 8 rfl kr kr kr rfl rfl rfl rfl (by omega) (by decide) rfl (.op (fuel := 0) 9 kr rfl sl ?_)))
                    obtain ⟨i1, i2, i3⟩ := set_cat hst.long hso.good hso.h35 (hso.agree _ _ hA)
                    refine OT.bk_store (no := 0) hT rfl rfl rfl rfl pl hB pl hoE (catR_len hso.good hso.h35) rfl (by decide) (fun H_z hb_z ht_z => ?_)
                    refine OT.nil (.any (.done kr sl (.blk (.cut ((upd Q ((0 : Nat) : Int) (catBytesR n2 xs2)), R, n2, xs2, H_z, vs, .slice aB xs2.length cB, H_179, G) ?_ (SubR.cons rfl (SubR.cons rfl (SubR.cons rfl (SubR.cons rfl (SubR.nil _))))) sl))))
                    · dsimp only
                      exact ⟨hb_z, i1, i2, hSl, ho_179, i3⟩
            ·
              refine TT.seq (.region (.pures hT 1 rfl (.mkiface Try.underlying25 rfl rfl rfl rfl (.pures hT 1 rfl (.load rfl rfl (Ld.one hT rfl hz rfl) rfl ?_)))))
              refine OT.call Try.call22 rfl rfl rfl rfl (Fun.pull pl (cow_Revert (nm := onm) (I := fun H => H = HB) (book_PgsI fun _ e => e ▸ hB) rfl hst.long hst.cat hst.good)) ?_
              rintro v_74 hs_74 (⟨v, ts, HI, HR, rfl, rfl, hoI, hIR, i, s, hf, hs0, hi, hr⟩ | ⟨e, HR, rfl, he, (hE | ⟨rfl, hlt, hIR⟩ | ⟨rfl, hIR, i, s, hf, hs0, hi⟩), rfl⟩)
              ·
                have hIR := hIR.symm
                subst hIR
                refine OT.pures hT 5 rfl (.nil (.seq (.seq (.draw (([(b_10, blk (encCw ⟨ok, .slice ar rl.length cr, rl, onm⟩) 79 (0, 0))] :: [(b_28, blk (rbCells vs n (.slice aS xs.length cS)) 76 (0, 0))] :: HS :: hs)) mixed (.takes (fuel := 5) hT [0, 1, 2, 5] kr kr rfl (.take (fuel := 4) hT 3 rfl rfl kr kr kr rfl (.load rfl (Ld.struct (vs := [.int .i64 n, .slice aS xs.length cS]) hT rfl hz (by exact rb_cat hSl.len) rfl)) rfl ?_))))))
                refine AT.take (fuel := 3) hT 6 rfl rfl kr kr kr rfl (.load rfl (Ld.one hT rfl hz rfl)) rfl ?_
                refine AT.op (fuel := 2) 4 kr rfl sl (.call Try.call29 rfl rfl rfl rfl (law20_Of) ?_)
                rintro v_81 hs_81 ⟨rfl, rfl⟩
                refine OT.nil (.any (.op (fuel := 1) 7 kr rfl sl (.call Try.call31 rfl rfl rfl rfl (cat_Find (next := n) (hoS.row.mono fun b o hb => Has.sel sl hb) (by omega)) ?_)))
                rintro v_84 hs_84 ⟨rfl, rfl⟩
                refine OT.nil (.any (.takes (fuel := 0) hT [8] kr kr rfl (.done kr sl (.seq (.seq (.region (.pures hT 1 rfl (.nil (.seq (.seq (.seq (.region (.pures hT 2 rfl (.nil (.seq (.cond rfl (fun c86 => ?_) (fun c86 => ?_)))))))))))))))))
                ·
                  exact absurd (of_decide_eq_true c86) (by show ¬ findAt (named onm) 0 xs < 0; omega)
                ·
                  refine TT.seq (.region (.pures hT 4 rfl (.load rfl rfl (Ld.slc hT rfl hz (rb_v hSl.len)) rfl ?_)))
                  refine OT.pures hT 1 rfl (.reg 92 rfl (v := .int .i64 (i : Nat)) (int_eq hf) (.index hT rfl rfl rfl rfl (hoS.row.mono fun b o hb => Has.sel sl hb) (by omega) (by rw [Int.toNat_natCast]; exact hs0) rfl (fun ad_93 hel_93 => ?_)))
                  obtain ⟨eb_93, eo_93, rfl, hfld_93⟩ := hel_93.at (P := Try.prog)
                  refine OT.pures hT 1 rfl (.load rfl rfl (hfld_93 hT rfl rfl) rfl (.nil (.seq (.cond rfl (fun c95 => ?_) (fun c95 => ?_)))))
                  ·
                    rw [hi] at c95; cases c95
                  ·
                    refine TT.skip (.seq (.seq (.seq (.region (.pures hT 3 rfl (.nil (.seq (.cond_false rfl (.skip (.seq (.seq (.seq (.region (.pures hT 2 rfl (.nil (.seq (.cond_false rfl (.skip (.seq (.seq (.region (.pures hT 2 rfl (.call Try.call15 rfl rfl rfl rfl (book_Lay hB (own_at hoI hr (revertC_may hst hs0) (imgsOf_len _ 96)) (by rw [hr]; exact revertC_may hst hs0)) ?_)))))))))))))))))))))))
                    rintro v_103 hs_103 ⟨H3, rfl, rfl, hB3⟩
                    rw [hr] at hB3
                    obtain ⟨hX1, hX2, hX3⟩ := agree_back hst hA hs0 hi
                    refine OT.nil (.seq (.region (.pures hT 2 rfl (.reg 105 rfl (v := .int .i64 (i : Nat)) (int_eq hf) (.call Try.call32 rfl rfl rfl rfl (Fun.weaken (sl (hs' := [(b_28, blk (rbCells vs n (.slice aS xs.length cS)) 76 (0, 0))] :: HS :: G :: H3 :: hs)) (rb_back (F := H3) hst.good hSl hoS hs0)) ?_)))))
                    rintro v_106 hs_106 ⟨vs2, vS2, HS2, G2, rfl, rfl, hoS2, hS2⟩
                    refine OT.nil (.blk (.cut ((lay Q (revertC Q n xs i s)), (lay (sideLay R R (sides (xs.take (i + 1)) (expandS R s.id ((backL R s 32).map Prod.fst) (xs.take (i + 1))))) (backL R s 32)), n, (expandS R s.id ((backL R s 32).map Prod.fst) (xs.take (i + 1))), H3, vs2, vS2, HS2, G2) ?_ (SubR.cons rfl (SubR.cons rfl (SubR.cons rfl (SubR.cons rfl (SubR.nil _))))) sl))
                    · dsimp only
                      exact ⟨hB3, hX2, hX3, hS2, hoS2, hX1⟩
              ·
                exact hE.elim
              ·
                have hIR := hIR.symm
                subst hIR
                refine OT.pures hT 5 rfl (.nil (.seq (.seq (.draw (([(b_10, blk (encCw ⟨ok, .slice ar rl.length cr, rl, onm⟩) 79 (0, 0))] :: [(b_28, blk (rbCells vs n (.slice aS xs.length cS)) 76 (0, 0))] :: HS :: hs)) mixed (.takes (fuel := 5) hT [0, 1, 2, 5] kr kr rfl (.take (fuel := 4) hT 3 rfl rfl kr kr kr rfl (.load rfl (Ld.struct (vs := [.int .i64 n, .slice aS xs.length cS]) hT rfl hz (by exact rb_cat hSl.len) rfl)) rfl ?_))))))
                refine AT.take (fuel := 3) hT 6 rfl rfl kr kr kr rfl (.load rfl (Ld.one hT rfl hz rfl)) rfl ?_
                refine AT.op (fuel := 2) 4 kr rfl sl (.call Try.call29 rfl rfl rfl rfl (law20_Of) ?_)
                rintro v_81 hs_81 ⟨rfl, rfl⟩
                refine OT.nil (.any (.op (fuel := 1) 7 kr rfl sl (.call Try.call31 rfl rfl rfl rfl (cat_Find (next := n) (hoS.row.mono fun b o hb => Has.sel sl hb) (by omega)) ?_)))
                rintro v_84 hs_84 ⟨rfl, rfl⟩
                refine OT.nil (.any (.takes (fuel := 0) hT [8] kr kr rfl (.done kr sl (.seq (.seq (.region (.pures hT 1 rfl (.nil (.seq (.seq (.seq (.region (.pures hT 2 rfl (.nil (.seq (.cond rfl (fun c86 => ?_) (fun c86 => ?_)))))))))))))))))
                ·
                  refine TT.region (.pures hT 1 rfl (.nil (.seq (.seq (.seq (.region (.pures hT 3 rfl (.nil (.seq (.cond_false rfl (.skip (.seq (.seq (.seq (.region (.pures hT 2 rfl (.nil (.seq (.cond_true rfl (.exit (.seq (.blk rfl (.loop (.here (.seq (.region (.pures hT 3 rfl (.nil (.loop (pj + 1, Q, R, n, xs, HB, vs, .slice aS xs.length cS, HS, G) ?_ ?_ (SubR.cons rfl (SubR.cons rfl (SubR.cons rfl (SubR.cons' rfl (by (try dsimp only); exact (int_eq (by rw [wrap_i64 (by omega) (by omega)]; omega))) (SubR.nil _))))) sl)))))))))))))))))))))))))))))
                  · dsimp only
                    exact ⟨by omega, by omega, hB, hst, hcb, hSl, hoS, hA⟩
                  · dsimp only
                    omega
                ·
                  exact absurd hlt (of_decide_eq_false c86)
              ·
                have hIR := hIR.symm
                subst hIR
                refine OT.pures hT 5 rfl (.nil (.seq (.seq (.draw (([(b_10, blk (encCw ⟨ok, .slice ar rl.length cr, rl, onm⟩) 79 (0, 0))] :: [(b_28, blk (rbCells vs n (.slice aS xs.length cS)) 76 (0, 0))] :: HS :: hs)) mixed (.takes (fuel := 5) hT [0, 1, 2, 5] kr kr rfl (.take (fuel := 4) hT 3 rfl rfl kr kr kr rfl (.load rfl (Ld.struct (vs := [.int .i64 n, .slice aS xs.length cS]) hT rfl hz (by exact rb_cat hSl.len) rfl)) rfl ?_))))))
                refine AT.take (fuel := 3) hT 6 rfl rfl kr kr kr rfl (.load rfl (Ld.one hT rfl hz rfl)) rfl ?_
                refine AT.op (fuel := 2) 4 kr rfl sl (.call Try.call29 rfl rfl rfl rfl (law20_Of) ?_)
                rintro v_81 hs_81 ⟨rfl, rfl⟩
                refine OT.nil (.any (.op (fuel := 1) 7 kr rfl sl (.call Try.call31 rfl rfl rfl rfl (cat_Find (next := n) (hoS.row.mono fun b o hb => Has.sel sl hb) (by omega)) ?_)))
                rintro v_84 hs_84 ⟨rfl, rfl⟩
                refine OT.nil (.any (.takes (fuel := 0) hT [8] kr kr rfl (.done kr sl (.seq (.seq (.region (.pures hT 1 rfl (.nil (.seq (.seq (.seq (.region (.pures hT 2 rfl (.nil (.seq (.cond rfl (fun c86 => ?_) (fun c86 => ?_)))))))))))))))))
                ·
                  exact absurd (of_decide_eq_true c86) (by show ¬ findAt (named onm) 0 xs < 0; omega)
                ·
                  refine TT.seq (.region (.pures hT 4 rfl (.load rfl rfl (Ld.slc hT rfl hz (rb_v hSl.len)) rfl ?_)))
                  refine OT.pures hT 1 rfl (.reg 92 rfl (v := .int .i64 (i : Nat)) (int_eq hf) (.index hT rfl rfl rfl rfl (hoS.row.mono fun b o hb => Has.sel sl hb) (by omega) (by rw [Int.toNat_natCast]; exact hs0) rfl (fun ad_93 hel_93 => ?_)))
                  obtain ⟨eb_93, eo_93, rfl, hfld_93⟩ := hel_93.at (P := Try.prog)
                  refine OT.pures hT 1 rfl (.load rfl rfl (hfld_93 hT rfl rfl) rfl (.nil (.seq (.cond rfl (fun c95 => ?_) (fun c95 => ?_)))))
                  ·
                    refine TT.region (.pures hT 1 rfl (.nil (.seq (.seq (.seq (.region (.pures hT 3 rfl (.nil (.seq (.cond_false rfl (.skip (.seq (.seq (.seq (.region (.pures hT 2 rfl (.nil (.seq (.cond_true rfl (.exit (.seq (.blk rfl (.loop (.here (.seq (.region (.pures hT 3 rfl (.nil (.loop (pj + 1, Q, R, n, xs, HB, vs, .slice aS xs.length cS, HS, G) ?_ ?_ (SubR.cons rfl (SubR.cons rfl (SubR.cons rfl (SubR.cons' rfl (by (try dsimp only); exact (int_eq (by rw [wrap_i64 (by omega) (by omega)]; omega))) (SubR.nil _))))) sl)))))))))))))))))))))))))))))
                    · dsimp only
                      exact ⟨by omega, by omega, hB, hst, hcb, hSl, hoS, hA⟩
                    · dsimp only
                      omega
                  ·
                    rw [hi] at c95; cases c95
      ·
        rintro ⟨Q, R, n, xs, HB, vs, vS, HS, G⟩ hI
        dsimp only at hI
        obtain ⟨hB, hst, hcb, hSl, hoS, hA⟩ := hI
        show TT _ _ _ [(0, .slice ao os.length co), (6, .pointer (some ⟨b_26, 0, none⟩)), (7, .pointer (some ⟨b_28, 0, none⟩)), (9, .int .i64 (pj : Nat))] (HB :: [(b_28, blk (rbCells vs n vS) 76 (0, 0))] :: HS :: G :: hs)
        obtain ⟨aS, cS, hvS⟩ := (hoS.row (hs := [])).len
        subst hvS
        refine TT.seq (.region (.pures hT 2 rfl (.call Try.call33 rfl rfl rfl rfl (rb_same hB hst hcb hSl hoS hA) ?_)))
        rintro v_194 hs_194 ⟨rfl, rfl⟩
        refine OT.pures hT 1 rfl (.nil (.seq (.cond_false rfl (.skip (.blk (.seq (.region (.pures hT 3 rfl (.nil (.loop (pj + 1, Q, R, n, xs, HB, vs, .slice aS xs.length cS, HS, G) ?_ ?_ (SubR.cons rfl (SubR.cons rfl (SubR.cons rfl (SubR.cons' rfl (by (try dsimp only); exact (int_eq (by rw [wrap_i64 (by omega) (by omega)]; omega))) (SubR.nil _))))) sl))))))))))
        · dsimp only
          exact ⟨by omega, by omega, hB, hst, hcb, hSl, hoS, hA⟩
        · dsimp only
          omega
    ·
      have c60 := of_decide_eq_false c60
      refine TT.exit (.seq (.loop (.here (.seq (.seq (.region (.pures hT 1 rfl (.nil (.seq (.ret (.of (rs := [.tmp 4]) [_] hs rfl (.tmp rfl .nil) sl ?_)))))))))))
      dsimp only [one]
      exact ⟨rfl, rfl⟩
  ·
    have g57 := of_decide_eq_false g57
    refine OT.pures hT 3 rfl (.nil (.seq (.cond_false rfl (.exit (.seq (.loop (.here (.seq (.seq (.region (.pures hT 1 rfl (.nil (.seq (.ret (.of (rs := [.tmp 4]) [_] hs rfl (.tmp rfl .nil) sl ?_)))))))))))))))
    dsimp only [one]
    exact ⟨rfl, rfl⟩

end Go.Proofs.Ytnhkgchcdbideaa.Sx
end

section
namespace Go.Proofs.Ytnhkgchcdbideaa.Sx
open Go Go.Sx Go.Pl
variable [Outer]

set_option maxHeartbeats 1000000 in
set_option maxRecDepth 100000 in
theorem law21_lay {b : Nat} {Q : Pages} {n : Int} {xs : List Snap} {H : Chunk} {r : List Chunk} (hB : BkAt 28 b Q H) (hst : CowSt Q n xs) {no : Int} (h1 : 1 ≤ no) (h2 : no < 32) {x : UInt8} : Fun Try.prog 20 [.pointer (some ⟨b, 0, none⟩), .int .i64 no, .int .u8 x.toNat] (H :: r) (fun v' hs' => ∃ H', hs' = H' :: r ∧ v' = .bool true ∧ BkAt 28 b (lay Q (expandC Q n xs [(no, pageOf [x])])) H' ∧ CowSt (lay Q (expandC Q n xs [(no, pageOf [x])])) n (expandS Q 0 (nosOf (chgOf [(no, pageOf [x])])) xs)) := by
  refine Fun.enter 26 Try.func20 rfl Try.ntmps20 rfl ?_
  have hpl : (pageOf [x]).length = 256 := pageOf_length (by simp)
  have hd := one_data h1 h2 hpl
  refine TT.seq (.region (.pures hT 1 rfl (.nil (.seq (.seq (.region (.pures hT 1 rfl (.mkiface Try.underlying25 rfl rfl rfl rfl (.pures hT 2 rfl ?_)))))))))
  refine OT.buildSlice (enc := Go.Sx.encB) (xs := [x]) (xos := [.tmp 13]) el22 rfl rfl rfl rfl rfl (by simp [Value.cells]) (fun _ _ => rfl) rfl (by decide) rfl (fun v_14 H_14 ho_14 => ?_)
  refine OT.call Try.call21 rfl rfl rfl rfl (law9_Of ro (by simp)) ?_
  rintro v_15 hs_15 ⟨K15, rfl, ho15⟩
  obtain ⟨a15, c15, hv15⟩ := (ho15.row (hs := [])).len
  subst hv15
  refine OT.build (cs := [.int .i64 no, .slice a15 (pageOf [x]).length c15]) hT rfl Try.zeroValue66 rfl rfl rfl rfl ?_
  refine OT.buildSlice (enc := encIm) (xs := [(⟨no, .slice a15 (pageOf [x]).length c15, pageOf [x]⟩ : Im)]) (xos := [.tmp 16]) el37 rfl rfl rfl rfl rfl (by simp [Value.cells]) (fun _ _ => rfl) rfl (by decide) rfl (fun v_17 H_17 ho_17 => ?_)
  refine OT.call Try.call14 rfl rfl rfl rfl (Fun.pull pl (cow_Expand book_Pgs hB hst.long hst.cat hst.good (⟨ro, fun t ht => by rw [List.mem_singleton] at ht; subst ht; exact ro, (by show 1 ≤ 9223372036854775807; omega), fun t ht => by rw [List.mem_singleton] at ht; subst ht; exact Nat.le_trans (Nat.le_of_eq hpl) (by decide)⟩ : ImsAt _ _ [⟨no, .slice a15 (pageOf [x]).length c15, pageOf [x]⟩]) hd)) ?_
  rintro v_18 hs_18 (⟨v, ts2, HI, H2, rfl, rfl, hoI, hti, hI2⟩ | ⟨_, _, _, _, hE, _⟩)
  ·
    have hti : imgs ts2 = expandC Q n xs [(no, pageOf [x])] := hti
    have hmx := expandC_may hst hd
    refine OT.pures hT 5 rfl (.nil (.seq (.seq (.seq (.region (.pures hT 2 rfl (.nil (.seq (.cond_false rfl (.skip (.seq (.seq (.region (.pures hT 2 rfl (.call Try.call15 rfl rfl rfl rfl (book_Lay hI2 (own_at hoI hti hmx (expandC_len ..)) (by rw [hti]; exact hmx)) ?_)))))))))))))))
    rintro v_25 hs_25 ⟨H3, rfl, rfl, hB3⟩
    refine OT.nil (.seq (.seq (.region (.pures hT 1 rfl (.nil (.seq (.ret (.of (rs := [.tmp 6]) [_] (H3 :: r) rfl (.tmp rfl .nil) sl ?_))))))))
    dsimp only [one]
    exact ⟨H3, rfl, rfl, by rw [hti] at hB3; exact hB3, expandC_st hst hd⟩
  ·
    exact hE.elim

set_option maxHeartbeats 1000000 in
set_option maxRecDepth 100000 in
theorem law21_snap {b : Nat} {Q : Pages} {n : Int} {xs : List Snap} {H : Chunk} {r : List Chunk} (hB : BkAt 28 b Q H) (hst : CowSt Q n xs) {nm : ByteArray} {n2 : Int} {xs2 : List Snap} (hadd : addC n xs nm = ((n2, xs2), 0)) (hmay : mayB n2 xs2 = true) : Fun Try.prog 19 [.pointer (some ⟨b, 0, none⟩), .string nm] (H :: r) (fun v' hs' => ∃ H', hs' = H' :: r ∧ v' = .bool true ∧ BkAt 28 b (upd Q 0 (encode n2 xs2).1) H') := by
  refine Fun.enter 49 Try.func19 rfl Try.ntmps19 rfl ?_
  have hgc := hst.good
  have hfew := hgc.few
  have hn0 := hgc.n0
  have hee : (encode n2 xs2).2 = 0 := by unfold encode; rw [if_pos hmay]
  refine TT.seq (.region (.pures hT 1 rfl (.nil (.seq (.seq (.region (.pures hT 1 rfl (.call Try.call23 rfl rfl rfl rfl (book_Page hB) ?_))))))))
  rintro v_15 hs_15 ⟨K1, w1, rfl, rfl, ho1⟩
  rw [pg0 (by unfold mayPage; omega)] at ho1 ⊢
  dsimp only at ho1
  refine OT.pures hT 5 rfl (.nil (.seq (.seq (.region (.pures hT 1 rfl (.call Try.call24 rfl rfl rfl rfl (cat_Decode ro (by rw [hst.long 0 (by unfold mayPage; omega)]; omega)) ?_))))))
  rintro v_20 hs_20 ⟨w2, HS, rfl, rfl, hoS⟩
  rw [hst.cat] at hoS ⊢
  dsimp only at hoS
  obtain ⟨a2, c2, hw2⟩ := (hoS.row (hs := [])).len
  subst hw2
  refine OT.pures hT 3 rfl (.alloc Try.zeroValue31 rfl rfl (fun b_7 => ?_))
  refine OT.store_all hT rfl rfl rfl rfl pl rfl rfl rfl (.inl (Nat.le_refl _)) ?_
  refine OT.pures hT 1 rfl (.nil (.seq (.seq (.region (.load rfl rfl (Ld.struct_all hT rfl hz rfl) rfl ?_)))))
  refine OT.pures hT 1 rfl (.call Try.call11 rfl rfl rfl rfl (cat_Add (next := n) (xs := xs) ro (by omega) (by omega)) ?_)
  rintro v_26 hs_26 ⟨w3, HS3, rfl, rfl, hoS3⟩
  rw [hadd] at hoS3 ⊢
  dsimp only at hoS3
  obtain ⟨a3, c3, hw3⟩ := (hoS3.row (hs := [])).len
  subst hw3
  refine OT.pures hT 3 rfl (.alloc Try.zeroValue31 rfl rfl (fun b_9 => ?_))
  refine OT.store_all hT rfl rfl rfl rfl pl rfl rfl rfl (.inl (Nat.le_refl _)) ?_
  refine OT.pures hT 1 rfl (.nil (.seq (.seq (.region (.load rfl rfl (Ld.struct_all hT rfl hz rfl) rfl ?_)))))
  refine OT.call Try.call12 rfl rfl rfl rfl (cat_Encode ro (by have := (may_iff.1 hmay).few; omega)) ?_
  rintro v_31 hs_31 ⟨w4, HE, rfl, rfl, hoE⟩
  rw [hee]
  refine OT.pures hT 5 rfl (.nil (.seq (.seq (.region (.pures hT 4 rfl (.index_at hT rfl rfl rfl rfl (by omega) (by decide) rfl (.bk_store (no := 0) hT rfl rfl rfl rfl pl hB pl hoE (encode_256 (fun s hs => hoS3.enc_len s hs) hmay) rfl (by decide) (fun H_y hb_y ht_y => ?_))))))))
  refine OT.nil (.seq (.seq (.region (.pures hT 3 rfl (.pures hT 4 rfl (.pures hT 4 rfl (.nil (.seq (.ret (.of (rs := [.tmp 4]) [_] (H_y :: r) rfl (.tmp rfl .nil) sl ?_))))))))))
  dsimp only [one]
  exact ⟨H_y, rfl, rfl, hb_y⟩

end Go.Proofs.Ytnhkgchcdbideaa.Sx
end

section
namespace Go.Proofs.Ytnhkgchcdbideaa.Sx
open Go Go.Sx Go.Pl
variable [Outer]

set_option maxHeartbeats 8000000 in
set_option maxRecDepth 100000 in
theorem law_CowFree {no : Int} (hr : -9223372036854775808 ≤ no ∧ no ≤ 9223372036854775807) {used : Bool} {hs : List Chunk} (hbegun : ∀ hs, Fun Try.prog 10 [] hs fun v' hs' => v' = .bool true ∧ hs = hs') : Fun Try.prog 7 [.int .i64 no, .bool used] hs (fun v' hs' => v' = .bool true ∧ hs = hs') := by
  refine Fun.enter 75 Try.func7 rfl Try.ntmps7 rfl ?_
  refine TT.seq (.region (.pures hT 1 rfl (.nil (.seq (.seq (.region (.call Try.call10 rfl rfl rfl rfl (hbegun _) ?_)))))))
  rintro v_12 hs_12 ⟨rfl, rfl⟩
  refine OT.pures hT 1 rfl (.nil (.seq (.seq (.seq (.region (.pures hT 2 rfl (.nil (.seq (.cond_false rfl (.skip (.seq (.seq (.seq (.region (.pures hT 3 rfl (.split 17 rfl (fun g17 => ?_) (fun g17 => ?_)))))))))))))))))
  ·
    have g17 := of_decide_eq_true g17
    refine OT.pures hT 3 rfl (.nil (.seq (.cond_true rfl (.seq (.region (.pures hT 1 rfl (.nil (.seq (.ret (.of (rs := [.tmp 4]) [_] hs rfl (.tmp rfl .nil) sl ?_))))))))))
    dsimp only [one]
    exact ⟨rfl, rfl⟩
  ·
    have g17 := of_decide_eq_false g17
    refine OT.pures hT 3 rfl (.nil (.seq (.cond rfl (fun c20 => ?_) (fun c20 => ?_))))
    ·
      have c20 := of_decide_eq_true c20
      refine TT.seq (.region (.pures hT 1 rfl (.nil (.seq (.ret (.of (rs := [.tmp 4]) [_] hs rfl (.tmp rfl .nil) sl ?_))))))
      dsimp only [one]
      exact ⟨rfl, rfl⟩
    ·
      have c20 := of_decide_eq_false c20
      obtain ⟨n, rfl⟩ : ∃ n : Nat, no = n := ⟨no.toNat, by omega⟩
      refine TT.skip (.seq (.seq (.region (.build (cs := bkCells (List.replicate 96 (.slice none 0 0))) hT rfl Try.zeroValue28 rfl rfl kr rfl (.box rfl rfl rfl (fun b_22 => ?_))))))
      refine OT.pures hT 1 rfl (.nil (.seq (.seq (.draw (hs) mixed (.takes (fuel := 3) hT [0, 2, 3] kr kr rfl (.op (fuel := 2) 1 kr rfl sl ?_))))))
      refine OT.make (enc := Go.Sx.encB) (z0 := (0 : UInt8)) (n := 256) el22 Try.zeroValue5 rfl rfl rfl rfl rfl (by omega) rfl (fun v_24 H_24 ho_24 => ?_)
      obtain ⟨B1, O1, C1, _, _, hv24, _⟩ := ho_24.over (by rw [List.length_replicate]; decide)
      rw [List.length_replicate] at hv24
      subst hv24
      refine OT.nil (.any (.index_at (fuel := 1) hT 4 rfl kr kr kr rfl rfl rfl rfl (by omega) (by decide) rfl (.op (fuel := 0) 5 kr rfl sl (.store hT rfl rfl rfl rfl pl rfl (Nat.le_of_ble_eq_true rfl) rfl (.inl (Nat.le_refl _)) (bk_set (k := 1) (List.length_replicate) (by decide) _ rfl) ?_))))
      refine OT.nil (.any (.done kr sl (.seq (.cut (ι := Pages × Chunk) (fun j => BkAt 28 b_22 (j.1) (j.2) ∧ hasB ((j.1) 1) (n : Nat) = used) (fun j => [(0, .int .i64 (n : Nat)), (1, .bool used), (6, .pointer (some ⟨b_22, 0, none⟩))]) (fun j => (j.2) :: hs) ?_ ?_))))
      ·
        refine TT.seq (.region (.pures hT 1 rfl (.nil (.seq (.cond rfl (fun c28 => ?_) (fun c28 => ?_))))))
        ·
          refine TT.region (.pures hT 3 rfl (.index_at hT rfl rfl rfl rfl (by omega) (by decide) rfl (.load rfl rfl (Ld.slc hT rfl hz (bk_at (by rw [List.length_set, List.length_replicate]) (List.getElem?_set_self (by rw [List.length_replicate]; decide)) rfl)) rfl ?_)))
          refine OT.pures hT 5 rfl (.reg 35 rfl (v := .int .i64 ((n / 8 : Nat) : Int)) (int_eq (by rw [Int.tdiv_eq_ediv_of_nonneg (by omega), wrap_i64 (by omega) (by omega)]; omega)) (.reg 38 rfl (v := .int .u64 ((n % 8 : Nat) : Int)) (int_eq (by rw [Int.tmod_eq_emod_of_nonneg (by omega), wrap_u64 (by omega) (by omega)]; omega)) (.shl hT rfl rfl rfl (by omega) rfl (.reg 39 rfl (v := .int .u8 ((UInt8.ofNat (2 ^ (n % 8))).toNat : Int)) (int_eq (bit_byte ⟨n % 8, Nat.mod_lt _ (by decide)⟩)) (.index_raw hT rfl rfl rfl rfl (by omega) (by omega) rfl (.store_el (n / 8) 0 hT rfl rfl rfl rfl pl ho_24 (List.getElem?_replicate.trans (if_pos (by omega))) (by omega) rfl (by decide) rfl rfl (fun H_x ho_x => ?_)))))))
          refine OT.nil (.cut (upd (fun _ => noughts 256) (1 : Nat) (bitAt n), [(b_22, blk (bkCells ((List.replicate 96 (.slice none 0 0) : List Value).set 1 (.slice (some ⟨B1, O1, none⟩) 256 C1))) 28 (0, 0))] ++ ([] ++ H_x)) ?_ (SubR.cons rfl (SubR.cons rfl (SubR.cons rfl (SubR.nil _)))) sl)
          · dsimp only
            refine ⟨BkAt.one ((Slots.zero [[]]).grow (by decide) ho_x (bitAt_len n)), ?_⟩
            rw [c28, show upd (fun _ => noughts 256) ((1 : Nat) : Int) (bitAt n) 1 = bitAt n from if_pos rfl]; exact bit_has ⟨n, by omega⟩ (by show 2 ≤ n; omega)
        ·
          refine TT.skip (.cut (upd (fun _ => noughts 256) (1 : Nat) (List.replicate 256 0), [(b_22, blk (bkCells ((List.replicate 96 (.slice none 0 0) : List Value).set 1 (.slice (some ⟨B1, O1, none⟩) 256 C1))) 28 (0, 0))] ++ ([] ++ H_24)) ?_ (SubR.cons rfl (SubR.cons rfl (SubR.cons rfl (SubR.nil _)))) sl)
          · dsimp only
            refine ⟨BkAt.one ((Slots.zero [[]]).grow (by decide) ho_24 List.length_replicate), ?_⟩
            rw [c28, show upd (fun _ => noughts 256) ((1 : Nat) : Int) (List.replicate 256 0) 1 = List.replicate 256 0 from if_pos rfl]; exact nought_has _
      ·
        rintro ⟨Q1, H1⟩ hI
        dsimp only at hI
        obtain ⟨hB1, hus⟩ := hI
        show TT _ _ _ [(0, .int .i64 (n : Nat)), (1, .bool used), (6, .pointer (some ⟨b_22, 0, none⟩))] (H1 :: hs)
        have hst := st_one hB1.long
        have hpl : (pageOf [1]).length = 256 := pageOf_length (by simp)
        have hd := one_data (show 1 ≤ (n : Int) by omega) (show (n : Int) < 32 by omega) hpl
        have hq1 : (upd Q1 0 (encode 1 [(newSnap nmS 1)]).1) 1 = Q1 1 := by unfold upd; rw [if_neg (by decide)]
        refine TT.seq (.region (.build (cs := [.int .i64 0, .slice none 0 0]) hT rfl Try.zeroValue31 rfl rfl rfl rfl (.call Try.call11 rfl rfl rfl rfl (cat_Add (next := 0) (xs := []) Row.nil (by simp) (by decide)) ?_)))
        rintro v_43 hs_43 ⟨wS, HS, rfl, rfl, hoS⟩
        rw [show addC 0 [] ⟨#[115]⟩ = _ from addS] at hoS ⊢
        dsimp only at hoS
        obtain ⟨aS, cS, hwS⟩ := (hoS.row (hs := [])).len
        subst hwS
        refine OT.pures hT 3 rfl (.alloc Try.zeroValue31 rfl rfl (fun b_7 => ?_))
        refine OT.store_all hT rfl rfl rfl rfl pl rfl rfl rfl (.inl (Nat.le_refl _)) ?_
        refine OT.pures hT 1 rfl (.nil (.seq (.seq (.draw (([(b_7, blk [.int .i64 1, .slice aS [(newSnap nmS 1)].length cS] 31 (0, 0))] :: HS :: hs)) mixed (.takes (fuel := 7) hT [0, 6, 7] kr kr rfl (.take (fuel := 6) hT 1 rfl rfl kr kr kr rfl (.load rfl (Ld.struct_all hT rfl hz rfl)) rfl ?_))))))
        refine AT.op (fuel := 5) 2 kr rfl sl (.call Try.call12 rfl rfl rfl rfl (cat_Encode ro (by simp)) ?_)
        rintro v_49 hs_49 ⟨wE, HE, rfl, rfl, hoE⟩
        refine OT.nil (.any (.takes (fuel := 2) hT [3, 4, 5] kr kr rfl (.index_at (fuel := 1) hT 8 rfl kr kr kr rfl rfl rfl rfl (by omega) (by decide) rfl (.op (fuel := 0) 9 kr rfl sl (.bk_store (no := 0) hT rfl rfl rfl rfl pl hB1 pl hoE encS_len rfl (by decide) (fun H_y hb_y ht_y => ?_))))))
        refine OT.nil (.any (.done kr sl (.seq (.seq (.region (.pures hT 1 rfl (.mkiface Try.underlying25 rfl rfl rfl rfl (.pures hT 1 rfl ?_))))))))
        refine OT.buildSlice (enc := Go.Sx.encB) (xs := [(1 : UInt8)]) (xos := [.const (.int .u8 (1))]) el22 rfl rfl rfl rfl rfl (by simp [Value.cells]) (fun _ _ => rfl) rfl (by decide) rfl (fun v_59 H_59 ho_59 => ?_)
        refine OT.call Try.call21 rfl rfl rfl rfl (law9_Of ro (by simp)) ?_
        rintro v_60 hs_60 ⟨K60, rfl, ho60⟩
        obtain ⟨a60, c60, hv60⟩ := (ho60.row (hs := [])).len
        subst hv60
        refine OT.build (cs := [.int .i64 (n : Nat), .slice a60 (pageOf [1]).length c60]) hT rfl Try.zeroValue66 rfl rfl rfl rfl ?_
        refine OT.buildSlice (enc := encIm) (xs := [(⟨(n : Int), .slice a60 (pageOf [1]).length c60, pageOf [1]⟩ : Im)]) (xos := [.tmp 61]) el37 rfl rfl rfl rfl rfl (by simp [Value.cells]) (fun _ _ => rfl) rfl (by decide) rfl (fun v_62 H_62 ho_62 => ?_)
        refine OT.call Try.call14 rfl rfl rfl rfl (Fun.pull pl (cow_Expand book_Pgs hb_y hst.long hst.cat hst.good (⟨ro, fun t ht => by rw [List.mem_singleton] at ht; subst ht; exact ro, (by show 1 ≤ 9223372036854775807; omega), fun t ht => by rw [List.mem_singleton] at ht; subst ht; exact Nat.le_trans (Nat.le_of_eq hpl) (by decide)⟩ : ImsAt _ _ [⟨(n : Int), .slice a60 (pageOf [1]).length c60, pageOf [1]⟩]) hd)) ?_
        rintro v_63 hs_63 (⟨v, ts2, HI, H2, rfl, rfl, hoI, hti, hI2⟩ | ⟨_, _, _, _, hE, _⟩)
        ·
          have hti : imgs ts2 = expandC (upd Q1 0 (encode 1 [(newSnap nmS 1)]).1) 1 [(newSnap nmS 1)] [((n : Int), pageOf [1])] := hti
          obtain ⟨_, _, _, _, hoK, _⟩ := hoI.is
          obtain ⟨a30, c30, hv30⟩ := (hoK.row (hs := [])).len
          subst hv30
          have hneed : needsB (upd Q1 0 (encode 1 [(newSnap nmS 1)]).1) (newSnap nmS 1) (n : Nat) = used := by
            unfold needsB
            rw [if_neg (fun h => h.elim (fun h => by cases h) (fun h => h (newSnap_at ..))), if_neg (by omega), newSnap_view, hq1]; exact hus
          have hlen : (ts2.length : Int) = if used = true then 3 else 1 := by
            rw [← imgs_length, hti]
            rcases single hst (show 1 ≤ (n : Int) by omega) (show (n : Int) < 32 by omega) (b := pageOf [1]) with ⟨e1, _, e3⟩ | ⟨e1, _, _, _, _, e3⟩
            · rw [e3, ← hneed, e1]; rfl
            · rw [e3, ← hneed, e1]; rfl
          refine OT.pures hT 5 rfl (.nil (.seq (.seq (.region (.pures hT 1 rfl (.nil (.seq (.seq (.seq (.region (.pures hT 1 rfl (.nil (.seq (.cond rfl (fun c66 => ?_) (fun c66 => ?_)))))))))))))))
          ·
            refine TT.region (.pures hT 1 rfl (.nil (.seq (.seq (.region (.pures hT 3 rfl (.pures hT 6 rfl (.nil (.seq (.ret (.of (rs := [.tmp 4]) [_] hs rfl (.tmp rfl .nil) sl ?_)))))))))))
            dsimp only [one]
            rw [if_pos c66] at hlen
            exact ⟨congrArg Value.bool (beq_iff_eq.2 hlen), rfl⟩
          ·
            refine TT.skip (.seq (.seq (.region (.pures hT 3 rfl (.pures hT 6 rfl (.nil (.seq (.ret (.of (rs := [.tmp 4]) [_] hs rfl (.tmp rfl .nil) sl ?_)))))))))
            dsimp only [one]
            rw [if_neg (by rw [c66]; simp)] at hlen
            exact ⟨congrArg Value.bool (beq_iff_eq.2 hlen), rfl⟩
        ·
          exact hE.elim

set_option maxHeartbeats 8000000 in
set_option maxRecDepth 100000 in
theorem law_CowOnce {no times : Int} (hr : -9223372036854775808 ≤ no ∧ no ≤ 9223372036854775807) (hr2 : -9223372036854775808 ≤ times ∧ times ≤ 9223372036854775807) {old : UInt8} {hs : List Chunk} (hbegun : ∀ hs, Fun Try.prog 10 [] hs fun v' hs' => v' = .bool true ∧ hs = hs') : Fun Try.prog 6 [.int .i64 no, .int .i64 times, .int .u8 old.toNat] hs (fun v' hs' => v' = .bool true ∧ hs = hs') := by
  refine Fun.enter 142 Try.func6 rfl Try.ntmps6 rfl ?_
  refine TT.seq (.region (.pures hT 1 rfl (.nil (.seq (.seq (.region (.call Try.call10 rfl rfl rfl rfl (hbegun _) ?_)))))))
  rintro v_18 hs_18 ⟨rfl, rfl⟩
  refine OT.pures hT 1 rfl (.nil (.seq (.seq (.seq (.region (.pures hT 2 rfl (.nil (.seq (.cond_false rfl (.skip (.seq (.seq (.seq (.region (.pures hT 3 rfl (.split 23 rfl (fun g23 => ?_) (fun g23 => ?_)))))))))))))))))
  ·
    have g23 := of_decide_eq_true g23
    refine OT.pures hT 11 rfl (.nil (.seq (.cond_true rfl (.seq (.region (.pures hT 1 rfl (.nil (.seq (.ret (.of (rs := [.tmp 6]) [_] hs rfl (.tmp rfl .nil) sl ?_))))))))))
    dsimp only [one]
    exact ⟨rfl, rfl⟩
  ·
    have g23 := of_decide_eq_false g23
    refine OT.pures hT 4 rfl (.split 27 rfl (fun g27 => ?_) (fun g27 => ?_))
    ·
      have g27 := of_decide_eq_true g27
      refine OT.pures hT 7 rfl (.nil (.seq (.cond_true rfl (.seq (.region (.pures hT 1 rfl (.nil (.seq (.ret (.of (rs := [.tmp 6]) [_] hs rfl (.tmp rfl .nil) sl ?_))))))))))
      dsimp only [one]
      exact ⟨rfl, rfl⟩
    ·
      have g27 := of_decide_eq_false g27
      refine OT.pures hT 4 rfl (.split 31 rfl (fun g31 => ?_) (fun g31 => ?_))
      ·
        have g31 := of_decide_eq_true g31
        refine OT.pures hT 3 rfl (.nil (.seq (.cond_true rfl (.seq (.region (.pures hT 1 rfl (.nil (.seq (.ret (.of (rs := [.tmp 6]) [_] hs rfl (.tmp rfl .nil) sl ?_))))))))))
        dsimp only [one]
        exact ⟨rfl, rfl⟩
      ·
        have g31 := of_decide_eq_false g31
        refine OT.pures hT 3 rfl (.nil (.seq (.cond rfl (fun c34 => ?_) (fun c34 => ?_))))
        ·
          have c34 := of_decide_eq_true c34
          refine TT.seq (.region (.pures hT 1 rfl (.nil (.seq (.ret (.of (rs := [.tmp 6]) [_] hs rfl (.tmp rfl .nil) sl ?_))))))
          dsimp only [one]
          exact ⟨rfl, rfl⟩
        ·
          have c34 := of_decide_eq_false c34
          obtain ⟨n, rfl⟩ : ∃ n : Nat, no = n := ⟨no.toNat, by omega⟩
          have hpo : (pageOf [old]).length = 256 := pageOf_length (by simp)
          refine TT.skip (.seq (.seq (.region (.build (cs := bkCells (List.replicate 96 (.slice none 0 0))) hT rfl Try.zeroValue28 rfl rfl kr rfl (.box rfl rfl rfl (fun b_36 => ?_))))))
          refine OT.pures hT 1 rfl (.nil (.seq (.seq (.draw (hs) mixed (.takes (fuel := 3) hT [0, 2, 3] kr kr rfl (.op (fuel := 2) 1 kr rfl sl ?_))))))
          refine OT.make (enc := Go.Sx.encB) (z0 := (0 : UInt8)) (n := 256) el22 Try.zeroValue5 rfl rfl rfl rfl rfl (by omega) rfl (fun v_38 H_38 ho_38 => ?_)
          obtain ⟨B1, O1, C1, _, _, hv38, _⟩ := ho_38.over (by rw [List.length_replicate]; decide)
          rw [List.length_replicate] at hv38
          subst hv38
          refine OT.nil (.any (.index_at (fuel := 1) hT 4 rfl kr kr kr rfl rfl rfl rfl (by omega) (by decide) rfl (.op (fuel := 0) 5 kr rfl sl (.store hT rfl rfl rfl rfl pl rfl (Nat.le_of_ble_eq_true rfl) rfl (.inl (Nat.le_refl _)) (bk_set (k := 1) (List.length_replicate) (by decide) _ rfl) ?_))))
          refine OT.nil (.any (.done kr sl (.seq (.seq (.region (.pures hT 3 rfl (.index_at hT rfl rfl rfl rfl (by omega) (by decide) rfl (.load rfl rfl (Ld.slc hT rfl hz (bk_at (by rw [List.length_set, List.length_replicate]) (List.getElem?_set_self (by rw [List.length_replicate]; decide)) rfl)) rfl ?_))))))))
          refine OT.pures hT 5 rfl (.reg 48 rfl (v := .int .i64 ((n / 8 : Nat) : Int)) (int_eq (by rw [Int.tdiv_eq_ediv_of_nonneg (by omega), wrap_i64 (by omega) (by omega)]; omega)) (.reg 51 rfl (v := .int .u64 ((n % 8 : Nat) : Int)) (int_eq (by rw [Int.tmod_eq_emod_of_nonneg (by omega), wrap_u64 (by omega) (by omega)]; omega)) (.shl hT rfl rfl rfl (by omega) rfl (.reg 52 rfl (v := .int .u8 ((UInt8.ofNat (2 ^ (n % 8))).toNat : Int)) (int_eq (bit_byte ⟨n % 8, Nat.mod_lt _ (by decide)⟩)) (.index_raw hT rfl rfl rfl rfl (by omega) (by omega) rfl (.store_el (n / 8) 0 hT rfl rfl rfl rfl pl ho_38 (List.getElem?_replicate.trans (if_pos (by omega))) (by omega) rfl (by decide) rfl rfl (fun H_x ho_x => ?_)))))))
          refine OT.nil (.seq (.seq (.draw (hs) mixed (.takes (fuel := 4) hT [0, 1, 2, 5, 6] kr kr rfl (.op (fuel := 3) 3 kr rfl sl (.weaken (SubR.refl _) (sl (hs' := ([(b_36, blk (bkCells ((List.replicate 96 (.slice none 0 0) : List Value).set 1 (.slice (some ⟨B1, O1, none⟩) 256 C1))) 28 (0, 0))] ++ ([] ++ H_x)) :: hs)) ?_))))))
          have hB1 : BkAt 28 b_36 (upd (fun _ => noughts 256) ((1 : Nat) : Int) (bitAt n)) ([(b_36, blk (bkCells ((List.replicate 96 (.slice none 0 0) : List Value).set 1 (.slice (some ⟨B1, O1, none⟩) 256 C1))) 28 (0, 0))] ++ ([] ++ H_x)) := BkAt.one ((Slots.zero [[]]).grow (by decide) ho_x (bitAt_len n))
          generalize ([(b_36, blk (bkCells ((List.replicate 96 (.slice none 0 0) : List Value).set 1 (.slice (some ⟨B1, O1, none⟩) 256 C1))) 28 (0, 0))] ++ ([] ++ H_x)) = HB at hB1 ⊢
          refine OT.buildSlice (enc := Go.Sx.encB) (xs := [old]) (xos := [.tmp 56]) el22 rfl rfl rfl rfl rfl (by simp [Value.cells]) (fun _ _ => rfl) rfl (by decide) rfl (fun v_57 H_57 ho_57 => ?_)
          refine OT.nil (.any (.op (fuel := 2) 4 kr rfl sl (.call Try.call21 rfl rfl rfl rfl (law9_Of ro (by simp)) ?_)))
          rintro v_58 hs_58 ⟨K58, rfl, ho58⟩
          refine OT.nil (.any (.index_at (fuel := 1) hT 7 rfl kr kr kr rfl rfl rfl rfl (by omega) (by omega) rfl (.op (fuel := 0) 8 kr rfl sl (.bk_store (no := n) hT rfl rfl rfl rfl pl hB1 pl ho58 hpo (by omega) (by omega) (fun H_y hb_y ht_y => ?_)))))
          refine OT.nil (.any (.done kr sl (.seq (.seq (.region (.build (cs := [.int .i64 0, .slice none 0 0]) hT rfl Try.zeroValue31 rfl rfl rfl rfl (.call Try.call11 rfl rfl rfl rfl (cat_Add (next := 0) (xs := []) Row.nil (by simp) (by decide)) ?_)))))))
          rintro v_64 hs_64 ⟨wS, HS, rfl, rfl, hoS⟩
          rw [show addC 0 [] ⟨#[115]⟩ = _ from addS] at hoS ⊢
          dsimp only at hoS
          obtain ⟨aS, cS, hwS⟩ := (hoS.row (hs := [])).len
          subst hwS
          refine OT.pures hT 3 rfl (.alloc Try.zeroValue31 rfl rfl (fun b_9 => ?_))
          refine OT.store_all hT rfl rfl rfl rfl pl rfl rfl rfl (.inl (Nat.le_refl _)) ?_
          refine OT.pures hT 1 rfl (.nil (.seq (.seq (.draw (([(b_9, blk [.int .i64 1, .slice aS [(newSnap nmS 1)].length cS] 31 (0, 0))] :: HS :: hs)) mixed (.takes (fuel := 7) hT [0, 6, 7] kr kr rfl (.take (fuel := 6) hT 1 rfl rfl kr kr kr rfl (.load rfl (Ld.struct_all hT rfl hz rfl)) rfl ?_))))))
          refine AT.op (fuel := 5) 2 kr rfl sl (.call Try.call12 rfl rfl rfl rfl (cat_Encode ro (by simp)) ?_)
          rintro v_70 hs_70 ⟨wE, HE, rfl, rfl, hoE⟩
          refine OT.nil (.any (.takes (fuel := 2) hT [3, 4, 5] kr kr rfl (.index_at (fuel := 1) hT 8 rfl kr kr kr rfl rfl rfl rfl (by omega) (by decide) rfl (.op (fuel := 0) 9 kr rfl sl (.bk_store (no := 0) hT rfl rfl rfl rfl pl hb_y pl hoE encS_len rfl (by decide) (fun H_z hb_z ht_z => ?_))))))
          refine OT.nil (.any (.done kr sl (.seq (.seq (.seq (.region (.pures hT 1 rfl (.nil (.seq (.block ?_))))))))))
          have hone : One (upd (upd (upd (fun _ => noughts 256) ((1 : Nat) : Int) (bitAt n)) ((n : Nat) : Int) (pageOf [old])) 0 (encode 1 [(newSnap nmS 1)]).1) (newSnap nmS 1) (n : Nat) (pageOf [old]) := ⟨st_one hb_y.long, rfl, by rw [newSnap_view]; unfold upd; rw [if_neg (by omega), if_pos rfl], by rw [newSnap_view]; unfold upd; rw [if_neg (by decide), if_neg (by omega), if_pos (by decide)]; exact bit_has ⟨n, by omega⟩ (by show 2 ≤ n; omega), newSnap_only nmS 1 _⟩
          refine TT.loop (ι := Nat × Pages × Snap × Chunk) (fun j => ((j.1) : Int) ≤ times ∧ BkAt 28 b_36 (j.2.1) (j.2.2.2) ∧ One (j.2.1) (j.2.2.1) (n : Nat) (pageOf [old]) ∧ (j.2.2.1).name = nmS ∧ ((j.1) = 0 ↔ (j.2.2.1).at (n : Nat) = 0)) (fun j => times.toNat - (j.1)) (fun j => [(0, .int .i64 (n : Nat)), (1, .int .i64 times), (2, .int .u8 old.toNat), (8, .pointer (some ⟨b_36, 0, none⟩)), (11, .int .i64 ((j.1) : Nat))]) (fun j => (j.2.2.2) :: hs) (0, (upd (upd (upd (fun _ => noughts 256) ((1 : Nat) : Int) (bitAt n)) ((n : Nat) : Int) (pageOf [old])) 0 (encode 1 [(newSnap nmS 1)]).1), (newSnap nmS 1), H_z) ?_ (SubR.cons rfl (SubR.cons rfl (SubR.cons rfl (SubR.cons rfl (SubR.cons rfl (SubR.nil _)))))) sl ?_
          · dsimp only
            exact ⟨by omega, hb_z, hone, rfl, fun _ => newSnap_at .., fun _ => rfl⟩
          rintro ⟨i, Q, s, H1⟩ hI
          dsimp only at hI
          obtain ⟨hi, hB, ho, hnm, hat⟩ := hI
          show TT _ _ _ [(0, .int .i64 (n : Nat)), (1, .int .i64 times), (2, .int .u8 old.toNat), (8, .pointer (some ⟨b_36, 0, none⟩)), (11, .int .i64 (i : Nat))] (H1 :: hs)
          refine TT.seq (.seq (.region (.pures hT 3 rfl (.nil (.seq (.cond rfl (fun c78 => ?_) (fun c78 => ?_)))))))
          ·
            have c78 := of_decide_eq_true c78
            refine TT.skip (.seq (.seq (.block (.seq (.region (.pures hT 1 rfl (.mkiface Try.underlying25 rfl rfl rfl rfl (.pures hT 6 rfl ?_))))))))
            obtain ⟨x, hx⟩ := u8_is (IntKind.u8.wrap ((old.toNat : Int) + IntKind.u8.wrap ((i : Nat) : Int)) + 1)
            refine OT.reg 89 rfl (v := .int .u8 (x.toNat : Int)) (int_eq hx) ?_
            refine OT.buildSlice (enc := Go.Sx.encB) (xs := [x]) (xos := [.tmp 89]) el22 rfl rfl rfl rfl rfl (by simp [Value.cells]) (fun _ _ => rfl) rfl (by decide) rfl (fun v_90 H_90 ho_90 => ?_)
            refine OT.call Try.call21 rfl rfl rfl rfl (law9_Of ro (by simp)) ?_
            rintro v_91 hs_91 ⟨K60, rfl, ho60⟩
            have hpl : (pageOf [x]).length = 256 := pageOf_length (by simp)
            have hd := one_data (show 1 ≤ (n : Int) by omega) (show (n : Int) < 32 by omega) hpl
            obtain ⟨a60, c60, hv60⟩ := (ho60.row (hs := [])).len
            subst hv60
            refine OT.build (cs := [.int .i64 (n : Nat), .slice a60 (pageOf [x]).length c60]) hT rfl Try.zeroValue66 rfl rfl rfl rfl ?_
            refine OT.buildSlice (enc := encIm) (xs := [(⟨(n : Int), .slice a60 (pageOf [x]).length c60, pageOf [x]⟩ : Im)]) (xos := [.tmp 92]) el37 rfl rfl rfl rfl rfl (by simp [Value.cells]) (fun _ _ => rfl) rfl (by decide) rfl (fun v_93 H_93 ho_93 => ?_)
            refine OT.call Try.call14 rfl rfl rfl rfl (Fun.pull pl (cow_Expand book_Pgs hB ho.st.long ho.st.cat ho.st.good (⟨ro, fun t ht => by rw [List.mem_singleton] at ht; subst ht; exact ro, (by show 1 ≤ 9223372036854775807; omega), fun t ht => by rw [List.mem_singleton] at ht; subst ht; exact Nat.le_trans (Nat.le_of_eq hpl) (by decide)⟩ : ImsAt _ _ [⟨(n : Int), .slice a60 (pageOf [x]).length c60, pageOf [x]⟩]) hd)) ?_
            rintro v_94 hs_94 (⟨v, ts2, HI, H2, rfl, rfl, hoI, hti, hI2⟩ | ⟨_, _, _, _, hE, _⟩)
            ·
              have hti : imgs ts2 = expandC Q 1 [s] [((n : Int), pageOf [x])] := hti
              obtain ⟨hlen, t, ht1, ht2, ht3⟩ := ho.step (by omega) (by omega) hpl
              rw [← hti, imgs_length] at hlen
              have hmx := expandC_may ho.st hd
              obtain ⟨_, _, _, _, hoK, _⟩ := hoI.is
              obtain ⟨a30, c30, hv30⟩ := (hoK.row (hs := [])).len
              subst hv30
              refine OT.pures hT 5 rfl (.nil (.seq (.seq (.seq (.region (.pures hT 3 rfl (.pures hT 3 rfl (.split 102 rfl (fun g102 => ?_) (fun g102 => ?_)))))))))
              ·
                have g102 := beq_iff_eq.1 g102
                rw [if_pos (hat.1 (by omega))] at hlen
                refine OT.pures hT 6 rfl (.split 108 rfl (fun g108 => ?_) (fun g108 => ?_))
                ·
                  exact absurd hlen (by have := bne_iff_ne.1 g108; omega)
                ·
                  refine OT.pures hT 3 rfl (.split 111 rfl (fun g111 => ?_) (fun g111 => ?_))
                  ·
                    exact absurd (of_decide_eq_true g111) (by omega)
                  ·
                    refine OT.pures hT 5 rfl (.nil (.seq (.cond_false rfl (.skip (.seq (.region (.pures hT 2 rfl (.call Try.call15 rfl rfl rfl rfl (book_Lay hI2 (own_at hoI hti hmx (expandC_len ..)) (by rw [hti]; exact hmx)) ?_))))))))
                    rintro v_119 hs_119 ⟨H3, rfl, rfl, hB3⟩
                    rw [hti] at hB3
                    refine OT.nil (.blk (.seq (.region (.pures hT 3 rfl (.nil (.loop (i + 1, lay Q (expandC Q 1 [s] [((n : Int), pageOf [x])]), t, H3) ?_ ?_ (SubR.cons rfl (SubR.cons rfl (SubR.cons rfl (SubR.cons rfl (SubR.cons' rfl (by (try dsimp only); exact (int_eq (by rw [wrap_i64 (by omega) (by omega)]; omega))) (SubR.nil _)))))) sl))))))
                    · dsimp only
                      exact ⟨by omega, hB3, ht3, ht1.trans hnm, fun h => absurd h (by omega), fun h => absurd h ht2⟩
                    · dsimp only
                      omega
              ·
                have g102 := beq_eq_false_iff_ne.1 g102
                rw [if_neg (fun h => g102 (by have := hat.2 h; omega))] at hlen
                refine OT.pures hT 9 rfl (.split 111 rfl (fun g111 => ?_) (fun g111 => ?_))
                ·
                  refine OT.pures hT 5 rfl (.nil (.seq (.cond rfl (fun c116 => ?_) (fun c116 => ?_))))
                  ·
                    exact absurd hlen (by have := bne_iff_ne.1 c116; omega)
                  ·
                    refine TT.skip (.seq (.region (.pures hT 2 rfl (.call Try.call15 rfl rfl rfl rfl (book_Lay hI2 (own_at hoI hti hmx (expandC_len ..)) (by rw [hti]; exact hmx)) ?_))))
                    rintro v_119 hs_119 ⟨H3, rfl, rfl, hB3⟩
                    rw [hti] at hB3
                    refine OT.nil (.blk (.seq (.region (.pures hT 3 rfl (.nil (.loop (i + 1, lay Q (expandC Q 1 [s] [((n : Int), pageOf [x])]), t, H3) ?_ ?_ (SubR.cons rfl (SubR.cons rfl (SubR.cons rfl (SubR.cons rfl (SubR.cons' rfl (by (try dsimp only); exact (int_eq (by rw [wrap_i64 (by omega) (by omega)]; omega))) (SubR.nil _)))))) sl))))))
                    · dsimp only
                      exact ⟨by omega, hB3, ht3, ht1.trans hnm, fun h => absurd h (by omega), fun h => absurd h ht2⟩
                    · dsimp only
                      omega
                ·
                  exact absurd (of_decide_eq_false g111) (by omega)
            ·
              exact hE.elim
          ·
            have c78 := of_decide_eq_false c78
            have hsh : shownOf [s] ⟨#[115]⟩ = some s := by
              have := shown_at ho.st.good (k := 0) (s := s) rfl
              rw [hnm, ho.inv, if_neg (by simp)] at this; exact this
            have h35 := ho.st.h35 s (by simp)
            have hsd := ho.st.good.sides s (by simp)
            refine TT.exit (.seq (.loop (.here (.seq (.seq (.region (.pures hT 1 rfl (.call Try.call16 rfl rfl rfl rfl (Fun.pull pl (law21_show hB ho.st)) ?_))))))))
            rintro v_122 hs_122 ⟨rfl, cs, rfl, hcl, hco, hcs⟩
            obtain rfl := hcs _ hsh
            rw [hsh]
            refine OT.pures hT 3 rfl (.alloc Try.zeroValue47 rfl rfl (fun b_14 => ?_))
            refine OT.store_all hT rfl rfl rfl rfl pl (by exact hcl) rfl hco (.inl (Nat.le_refl _)) ?_
            refine OT.pures hT 1 rfl (.nil (.seq (.seq (.seq (.region (.pures hT 2 rfl (.nil (.seq (.cond_false rfl (.skip (.seq (.seq (.region (.load rfl rfl (Ld.struct_all hT rfl hz (by exact hcl)) rfl ?_))))))))))))))
            refine OT.pures hT 1 rfl (.call Try.call18 rfl rfl rfl rfl (Fun.pull pl (shown_Page hB h35 hsd)) ?_)
            rintro v_130 hs_130 ⟨KP, wP, rfl, rfl, hoP⟩
            rw [viewPg_ok hsd (by omega) (by omega), ho.shows] at hoP ⊢
            dsimp only at hoP
            refine OT.pures hT 5 rfl (.nil (.seq (.seq (.region (.pures hT 3 rfl (.pures hT 1 rfl (.index hT rfl rfl rfl rfl ro (by decide) (show (pageOf [old])[0]? = some old from rfl) rfl (fun ad_137 hel_137 => ?_))))))))
            refine OT.load rfl rfl (hel_137.ld_one hT rfl rfl) rfl (.pures hT 4 rfl (.nil (.seq (.ret (.of (rs := [.tmp 6]) [_] hs rfl (.tmp rfl .nil) sl ?_)))))
            dsimp only [one]
            exact ⟨congrArg Value.bool (by simp), rfl⟩

end Go.Proofs.Ytnhkgchcdbideaa.Sx
end

section
namespace Go.Proofs.Ytnhkgchcdbideaa.Sx
open Go Go.Sx Go.Pl
variable [Outer]

omit [Outer] in
theorem old_new : pageOf [111, 108, 100] ≠ pageOf [110, 101, 119] := by decide +kernel
omit [Outer] in
theorem bit4 : hasB (pageOf [4]) 2 = true := by decide +kernel

set_option maxHeartbeats 8000000 in
set_option maxRecDepth 100000 in
theorem law21_begun {hs : List Chunk} : Fun Try.prog 10 [] hs (fun v' hs' => v' = .bool true ∧ hs = hs') := by
  refine Fun.enter 134 Try.func10 rfl Try.ntmps10 rfl ?_
  have hp4 : (pageOf [4]).length = 256 := pageOf_length (by simp)
  have hpo : (pageOf [111, 108, 100]).length = 256 := pageOf_length (by simp)
  have hpn : (pageOf [110, 101, 119]).length = 256 := pageOf_length (by simp)
  refine TT.seq (.region (.pures hT 1 rfl (.nil (.seq (.seq (.region (.build (cs := bkCells (List.replicate 96 (.slice none 0 0))) hT rfl Try.zeroValue28 rfl rfl kr rfl (.box rfl rfl rfl (fun b_17 => ?_)))))))))
  refine OT.pures hT 1 rfl (.nil (.seq (.seq (.draw (hs) mixed (.takes (fuel := 4) hT [0, 3, 4] kr kr rfl (.op (fuel := 3) 1 kr rfl sl ?_))))))
  have hB0 : BkAt 28 b_17 (fun _ => noughts 256) [(b_17, blk (bkCells (List.replicate 96 (.slice none 0 0))) 28 (0, 0))] := BkAt.one (Slots.zero [[]])
  show OT _ _ _ _ _ ([(b_17, blk (bkCells (List.replicate 96 (.slice none 0 0))) 28 (0, 0))] :: hs)
  generalize ([(b_17, blk (bkCells (List.replicate 96 (.slice none 0 0))) 28 (0, 0))] : Chunk) = HB at hB0 ⊢
  refine OT.buildSlice (enc := Go.Sx.encB) (xs := [(4 : UInt8)]) (xos := [.const (.int .u8 (4))]) el22 rfl rfl rfl rfl rfl (by simp [Value.cells]) (fun _ _ => rfl) rfl (by decide) rfl (fun v_19 H_19 ho_19 => ?_)
  refine OT.nil (.any (.op (fuel := 2) 2 kr rfl sl (.call Try.call21 rfl rfl rfl rfl (law9_Of ro (by simp)) ?_)))
  rintro v_20 hs_20 ⟨K20, rfl, ho20⟩
  refine OT.nil (.any (.index_at (fuel := 1) hT 5 rfl kr kr kr rfl rfl rfl rfl (by omega) (by decide) rfl (.op (fuel := 0) 6 kr rfl sl (.bk_store (no := 1) hT rfl rfl rfl rfl pl hB0 pl ho20 hp4 rfl (by decide) (fun H_x hb_x ht_x => ?_)))))
  refine OT.nil (.any (.done kr sl (.seq (.seq (.draw (hs) mixed (.takes (fuel := 5) hT [0, 4, 5] kr kr rfl (.op (fuel := 4) 1 kr rfl sl (.buildSlice_raw (enc := Go.Sx.encB) (xs := ([111, 108, 100] : List UInt8)) (xos := [.const (.int .u8 (111)), .const (.int .u8 (108)), .const (.int .u8 (100))]) el22 rfl rfl rfl rfl rfl (by simp [Value.cells]) (fun _ _ => rfl) rfl (by decide) rfl (fun b_25 => ?_)))))))))
  refine OT.nil (.any (.op (fuel := 3) 2 kr rfl sl (.conv_same hT rfl rfl rfl rfl pl rfl ?_)))
  have ho_25 : Own Go.Sx.encB 1 5 (.slice (some ⟨b_25, 0, none⟩) 3 3) [111, 108, 100] [(b_25, blk (([111, 108, 100] : List UInt8).flatMap Go.Sx.encB) 5 ((([111, 108, 100] : List UInt8).flatMap Go.Sx.encB).length, (([111, 108, 100] : List UInt8).flatMap Go.Sx.encB).length + 1))] := Own.marked (e := 5) (fun _ _ => rfl) rfl
  refine OT.nil (.any (.op (fuel := 2) 3 kr rfl sl (.call Try.call21 rfl rfl rfl rfl (law9_Of ro (by simp)) ?_)))
  rintro v_27 hs_27 ⟨K27, rfl, ho27⟩
  refine OT.nil (.any (.index_at (fuel := 1) hT 6 rfl kr kr kr rfl rfl rfl rfl (by omega) (by decide) rfl (.op (fuel := 0) 7 kr rfl sl (.bk_store (no := 2) hT rfl rfl rfl rfl pl hb_x pl ho27 hpo rfl (by decide) (fun H_y hb_y ht_y => ?_)))))
  refine OT.nil (.any (.done kr sl (.seq (.seq (.region (.build (cs := [.int .i64 0, .slice none 0 0]) hT rfl Try.zeroValue31 rfl rfl rfl rfl (.call Try.call11 rfl rfl rfl rfl (cat_Add (next := 0) (xs := []) Row.nil (by simp) (by decide)) ?_)))))))
  rintro v_33 hs_33 ⟨wS, HS, rfl, rfl, hoS⟩
  rw [show addC 0 [] ⟨#[115]⟩ = _ from addS] at hoS ⊢
  dsimp only at hoS
  obtain ⟨aS, cS, hvS⟩ := (hoS.row (hs := [])).len
  subst hvS
  refine OT.pures hT 3 rfl (.alloc Try.zeroValue31 rfl rfl (fun b_2 => ?_))
  refine OT.store_all hT rfl rfl rfl rfl pl rfl rfl rfl (.inl (Nat.le_refl _)) ?_
  refine OT.pures hT 1 rfl (.nil (.seq (.seq (.draw (([(b_2, blk [.int .i64 1, .slice aS [(newSnap nmS 1)].length cS] 31 (0, 0))] :: HS :: hs)) mixed (.takes (fuel := 7) hT [0, 6, 7] kr kr rfl (.take (fuel := 6) hT 1 rfl rfl kr kr kr rfl (.load rfl (Ld.struct_all hT rfl hz rfl)) rfl ?_))))))
  refine AT.op (fuel := 5) 2 kr rfl sl (.call Try.call12 rfl rfl rfl rfl (cat_Encode ro (by simp)) ?_)
  rintro v_39 hs_39 ⟨wE, HE, rfl, rfl, hoE⟩
  refine OT.nil (.any (.takes (fuel := 2) hT [3, 4, 5] kr kr rfl (.index_at (fuel := 1) hT 8 rfl kr kr kr rfl rfl rfl rfl (by omega) (by decide) rfl (.op (fuel := 0) 9 kr rfl sl (.bk_store (no := 0) hT rfl rfl rfl rfl pl hb_y pl hoE encS_len rfl (by decide) (fun H_z hb_z ht_z => ?_))))))
  refine OT.nil (.any (.done kr sl (.seq (.seq (.region (.pures hT 1 rfl (.mkiface Try.underlying25 rfl rfl rfl rfl ?_)))))))
  have hone : One (upd (upd (upd (fun _ => noughts 256) ((1 : Nat) : Int) (pageOf [4])) ((2 : Nat) : Int) (pageOf [111, 108, 100])) ((0 : Nat) : Int) (encode 1 [(newSnap nmS 1)]).1) (newSnap nmS 1) 2 (pageOf [111, 108, 100]) := ⟨st_one hb_y.long, rfl, by rw [newSnap_view]; unfold upd; rw [if_neg (by decide), if_pos (by decide)], by rw [newSnap_view]; unfold upd; rw [if_neg (by decide), if_neg (by decide), if_pos (by decide)]; exact bit4, newSnap_only nmS 1 _⟩
  have hd := one_data (show (1 : Int) ≤ 2 by decide) (show (2 : Int) < 32 by decide) hpn
  refine OT.buildSlice_raw (enc := Go.Sx.encB) (xs := ([110, 101, 119] : List UInt8)) (xos := [.const (.int .u8 (110)), .const (.int .u8 (101)), .const (.int .u8 (119))]) el22 rfl rfl rfl rfl rfl (by simp [Value.cells]) (fun _ _ => rfl) rfl (by decide) rfl (fun b_48 => ?_)
  refine OT.conv_same hT rfl rfl rfl rfl pl rfl ?_
  have ho_48 : Own Go.Sx.encB 1 5 (.slice (some ⟨b_48, 0, none⟩) 3 3) [110, 101, 119] [(b_48, blk (([110, 101, 119] : List UInt8).flatMap Go.Sx.encB) 5 ((([110, 101, 119] : List UInt8).flatMap Go.Sx.encB).length, (([110, 101, 119] : List UInt8).flatMap Go.Sx.encB).length + 1))] := Own.marked (e := 5) (fun _ _ => rfl) rfl
  refine OT.call Try.call21 rfl rfl rfl rfl (law9_Of ro (by simp)) ?_
  rintro v_50 hs_50 ⟨K50, rfl, ho50⟩
  obtain ⟨a50, c50, hv50⟩ := (ho50.row (hs := [])).len
  subst hv50
  refine OT.build (cs := [.int .i64 2, .slice a50 (pageOf [110, 101, 119]).length c50]) hT rfl Try.zeroValue66 rfl rfl rfl rfl ?_
  refine OT.buildSlice (enc := encIm) (xs := [(⟨2, .slice a50 (pageOf [110, 101, 119]).length c50, pageOf [110, 101, 119]⟩ : Im)]) (xos := [.tmp 51]) el37 rfl rfl rfl rfl rfl (by simp [Value.cells]) (fun _ _ => rfl) rfl (by decide) rfl (fun v_52 H_52 ho_52 => ?_)
  refine OT.call Try.call14 rfl rfl rfl rfl (Fun.pull pl (cow_Expand book_Pgs hb_z hone.st.long hone.st.cat hone.st.good (⟨ro, fun t ht => by rw [List.mem_singleton] at ht; subst ht; exact ro, (by show 1 ≤ 9223372036854775807; omega), fun t ht => by rw [List.mem_singleton] at ht; subst ht; exact Nat.le_trans (Nat.le_of_eq hpn) (by decide)⟩ : ImsAt _ _ [⟨2, .slice a50 (pageOf [110, 101, 119]).length c50, pageOf [110, 101, 119]⟩]) hd)) ?_
  rintro v_53 hs_53 (⟨v, ts2, HI, H2, rfl, rfl, hoI, hti, hI2⟩ | ⟨_, _, _, _, hE, _⟩)
  ·
    have hti : imgs ts2 = expandC (upd (upd (upd (fun _ => noughts 256) ((1 : Nat) : Int) (pageOf [4])) ((2 : Nat) : Int) (pageOf [111, 108, 100])) ((0 : Nat) : Int) (encode 1 [(newSnap nmS 1)]).1) 1 [(newSnap nmS 1)] [((2 : Int), pageOf [110, 101, 119])] := hti
    obtain ⟨hlen, t, ht1, ht2, ht3⟩ := hone.step (by decide) (by decide) hpn
    rw [← hti, imgs_length, if_pos (newSnap_at ..)] at hlen
    have hmx := expandC_may hone.st hd
    obtain ⟨_, _, _, _, hoK, _⟩ := hoI.is
    obtain ⟨a30, c30, hv30⟩ := (hoK.row (hs := [])).len
    subst hv30
    refine OT.pures hT 5 rfl (.nil (.seq (.seq (.seq (.region (.pures hT 3 rfl (.pures hT 4 rfl (.nil (.seq (.cond rfl (fun c62 => ?_) (fun c62 => ?_)))))))))))
    ·
      exact absurd hlen (by have := bne_iff_ne.1 c62; omega)
    ·
      refine TT.skip (.seq (.seq (.region (.pures hT 2 rfl (.call Try.call15 rfl rfl rfl rfl (book_Lay hI2 (own_at hoI hti hmx (expandC_len ..)) (by rw [hti]; exact hmx)) ?_)))))
      rintro v_65 hs_65 ⟨H3, rfl, rfl, hB3⟩
      rw [hti] at hB3
      have hnew : (lay (upd (upd (upd (fun _ => noughts 256) ((1 : Nat) : Int) (pageOf [4])) ((2 : Nat) : Int) (pageOf [111, 108, 100])) ((0 : Nat) : Int) (encode 1 [(newSnap nmS 1)]).1) (expandC (upd (upd (upd (fun _ => noughts 256) ((1 : Nat) : Int) (pageOf [4])) ((2 : Nat) : Int) (pageOf [111, 108, 100])) ((0 : Nat) : Int) (encode 1 [(newSnap nmS 1)]).1) 1 [(newSnap nmS 1)] [((2 : Int), pageOf [110, 101, 119])])) 2 = pageOf [110, 101, 119] := (expandC_data hone.st _ (by decide) (by decide)).trans (show upd (upd (upd (upd (fun _ => noughts 256) ((1 : Nat) : Int) (pageOf [4])) ((2 : Nat) : Int) (pageOf [111, 108, 100])) ((0 : Nat) : Int) (encode 1 [(newSnap nmS 1)]).1) 2 (pageOf [110, 101, 119]) 2 = pageOf [110, 101, 119] from if_pos rfl)
      generalize (lay (upd (upd (upd (fun _ => noughts 256) ((1 : Nat) : Int) (pageOf [4])) ((2 : Nat) : Int) (pageOf [111, 108, 100])) ((0 : Nat) : Int) (encode 1 [(newSnap nmS 1)]).1) (expandC (upd (upd (upd (fun _ => noughts 256) ((1 : Nat) : Int) (pageOf [4])) ((2 : Nat) : Int) (pageOf [111, 108, 100])) ((0 : Nat) : Int) (encode 1 [(newSnap nmS 1)]).1) 1 [(newSnap nmS 1)] [((2 : Int), pageOf [110, 101, 119])])) = Q at hB3 ht3 hnew
      have hsh : shownOf [t] ⟨#[115]⟩ = some t := by
        have := shown_at ht3.st.good (k := 0) (s := t) rfl
        rw [ht1, ht3.inv, if_neg (by simp)] at this; exact this
      have hfs : findAt (named ⟨#[115]⟩) 0 [t] = 0 := by
        have := find_self ht3.st.good (k := 0) (s := t) rfl
        rw [ht1] at this; exact this
      have hft : findAt (named ⟨#[116]⟩) 0 [t] < 0 := by
        unfold findAt named findAt
        rw [if_neg (by rw [ht1]; decide)]; decide
      have h35 := ht3.st.h35 t (by simp)
      have hsd := ht3.st.good.sides t (by simp)
      refine OT.nil (.seq (.seq (.region (.pures hT 1 rfl (.call Try.call16 rfl rfl rfl rfl (Fun.pull pl (law21_show hB3 ht3.st)) ?_)))))
      rintro v_68 hs_68 ⟨rfl, cs, rfl, hcl, hco, hcs⟩
      obtain rfl := hcs _ hsh
      rw [hsh]
      refine OT.pures hT 3 rfl (.alloc Try.zeroValue47 rfl rfl (fun b_6 => ?_))
      refine OT.store_all hT rfl rfl rfl rfl pl (by exact hcl) rfl hco (.inl (Nat.le_refl _)) ?_
      refine OT.pures hT 1 rfl (.nil (.seq (.seq (.seq (.region (.pures hT 2 rfl (.nil (.seq (.cond_false rfl (.skip (.seq (.seq (.region (.load rfl rfl (Ld.struct_all hT rfl hz (by exact hcl)) rfl ?_))))))))))))))
      refine OT.call Try.call18 rfl rfl rfl rfl (Fun.pull pl (shown_Page hB3 h35 hsd)) ?_
      rintro v_75 hs_75 ⟨KP, wP, rfl, rfl, hoP⟩
      rw [viewPg_ok hsd (by decide) (by decide), ht3.shows] at hoP ⊢
      dsimp only at hoP
      refine OT.pures hT 5 rfl (.nil (.seq (.seq (.region (.pures hT 1 rfl (.call Try.call23 rfl rfl rfl rfl (Fun.pull pl (book_Page hB3)) ?_))))))
      rintro v_80 hs_80 ⟨KY, wY, rfl, rfl, hoY⟩
      rw [pg0 (by unfold mayPage; omega), hnew] at hoY ⊢
      dsimp only at hoY
      refine OT.pures hT 5 rfl (.nil (.seq (.seq (.region (.pures hT 1 rfl (.mkiface Try.underlying25 rfl rfl rfl rfl (.call Try.call22 rfl rfl rfl rfl (Fun.pull pl (cow_Revert book_Pgs hB3 ht3.st.long ht3.st.cat ht3.st.good)) ?_)))))))
      rintro v_86 hs_86 (⟨v7, ts7, HI7, HR7, rfl, rfl, hoI7, hIR7, i7, s7, hf7, hs7, hi7, hr7⟩ | ⟨e7, HR7, rfl, he7, hE7, rfl⟩)
      ·
        obtain rfl : i7 = 0 := by omega
        cases hs7
        rw [one_back ht3 (by decide) (by decide) ht2 (by rw [hnew]; exact old_new)] at hr7
        obtain ⟨u, rfl, hu⟩ : ∃ u, ts7 = [u] ∧ u.img = (2, pageOf [111, 108, 100]) := by
          cases ts7 with
          | nil => exact absurd (congrArg List.length hr7) (by simp [imgs])
          | cons u l => cases l with
            | nil => exact ⟨u, rfl, by injection hr7⟩
            | cons w l => exact absurd (congrArg List.length hr7) (by simp [imgs])
        obtain ⟨u1, rfl⟩ : ∃ v, u = ⟨2, v, pageOf [111, 108, 100]⟩ := ⟨u.v, by obtain ⟨a, b, c⟩ := u; injection hu with h1 h2; dsimp only at h1 h2; rw [h1, h2]⟩
        have hat7 := own_at (hs := hs) hoI7 hr7 (fun x hx => by rw [List.mem_singleton] at hx; subst hx; exact ⟨by decide, hpo⟩) (by simp)
        obtain ⟨_, _, _, _, hoK7, _⟩ := hoI7.is
        obtain ⟨a7, c7, hv7⟩ := (hoK7.row (hs := [])).len
        subst hv7
        obtain ⟨a8, c8, hv8⟩ := (hat7.each _ (List.mem_singleton.2 rfl)).len
        replace hv8 : u1 = .slice a8 (pageOf [111, 108, 100]).length c8 := hv8
        subst hv8
        refine OT.pures hT 5 rfl (.nil (.seq (.seq (.region (.pures hT 1 rfl (.mkiface Try.underlying25 rfl rfl rfl rfl (.call Try.call22 rfl rfl rfl rfl (Fun.pull pl (cow_Revert book_Pgs hIR7 ht3.st.long ht3.st.cat ht3.st.good)) ?_)))))))
        rintro v_92 hs_92 (⟨v8, ts8, HI8, HR8, rfl, rfl, hoI8, hIR8, i8, s8, hf8, hs8, hi8, hr8⟩ | ⟨e8, HR8, rfl, he8, hE8, rfl⟩)
        ·
          omega
        ·
          have he8 : e8 = 6 := by
            rcases hE8 with h | ⟨h, _⟩ | ⟨_, _, i, s, h1, _⟩
            · exact h.elim
            · exact h
            · omega
          subst he8
          refine OT.pures hT 5 rfl (.nil (.seq (.seq (.region (.pures hT 1 rfl (.index hT rfl rfl rfl rfl ro (by decide) (show (pageOf [111, 108, 100])[0]? = some 111 from rfl) rfl (fun ad_96 hel_96 => ?_)))))))
          refine OT.load rfl rfl (hel_96.ld_one hT rfl rfl) rfl (.pures hT 2 rfl (.split 99 rfl (fun g99 => ?_) (fun g99 => ?_)))
          ·
            refine OT.pures hT 1 rfl (.index hT rfl rfl rfl rfl ro (by decide) (show (pageOf [110, 101, 119])[0]? = some 110 from rfl) rfl (fun ad_101 hel_101 => ?_))
            refine OT.load rfl rfl (hel_101.ld_one hT rfl rfl) rfl (.pures hT 3 rfl (.split 105 rfl (fun g105 => ?_) (fun g105 => ?_)))
            ·
              refine OT.pures hT 4 rfl (.split 109 rfl (fun g109 => ?_) (fun g109 => ?_))
              ·
                refine OT.pures hT 5 rfl (.split 114 rfl (fun g114 => ?_) (fun g114 => ?_))
                ·
                  refine OT.pures hT 1 rfl (.index hT rfl rfl rfl rfl (hat7.row.mono fun b o hb => Has.sel sl hb) (by decide) rfl rfl (fun ad_116 hel_116 => ?_))
                  obtain ⟨eb_116, eo_116, rfl, hfld_116, hfls_116⟩ := Go.Pl.El.at2 (P := Try.prog) hel_116
                  refine OT.pures hT 1 rfl (.load rfl rfl (hfld_116 hT rfl rfl) rfl (.pures hT 3 rfl (.split 121 rfl (fun g121 => ?_) (fun g121 => ?_))))
                  ·
                    refine OT.pures hT 1 rfl (.index hT rfl rfl rfl rfl (hat7.row.mono fun b o hb => Has.sel sl hb) (by decide) rfl rfl (fun ad_123 hel_123 => ?_))
                    obtain ⟨eb_123, eo_123, rfl, hfld_123, hfls_123⟩ := Go.Pl.El.at2 (P := Try.prog) hel_123
                    refine OT.pures hT 1 rfl (.load rfl rfl (hfls_123 hT rfl rfl) rfl (.index hT rfl rfl rfl rfl ((hat7.each _ (List.mem_singleton.2 rfl)).mono fun b o hb => Has.sel sl hb) (by decide) (by show (pageOf [111, 108, 100])[0]? = some 111; rfl) rfl (fun ad_126 hel_126 => ?_)))
                    refine OT.load rfl rfl (hel_126.ld_one hT rfl rfl) rfl (.pures hT 3 rfl (.split 130 rfl (fun g130 => ?_) (fun g130 => ?_)))
                    ·
                      refine OT.pures hT 4 rfl (.nil (.seq (.ret (.of (rs := [.tmp 0]) [_] hs rfl (.tmp rfl .nil) sl ?_))))
                      dsimp only [one]
                      exact ⟨rfl, rfl⟩
                    ·
                      exact absurd g130 (by decide)
                  ·
                    exact absurd g121 (by simp)
                ·
                  exact absurd g114 (by simp)
              ·
                exact absurd g109 (by decide)
            ·
              exact absurd g105 (by decide)
          ·
            exact absurd g99 (by decide)
      ·
        rcases hE7 with h | ⟨_, h, _⟩ | ⟨_, _, i, s, h1, h2, h3⟩
        · exact h.elim
        · omega
        · obtain rfl : i = 0 := by omega
          cases h2; rw [ht3.inv] at h3; cases h3
  ·
    exact hE.elim

end Go.Proofs.Ytnhkgchcdbideaa.Sx
end

section
namespace Go.Proofs.Ytnhkgchcdbideaa.Sx
open Go Go.Sx Go.Pl
variable [Outer]

omit [Outer] in
theorem bytes_set {l : List UInt8} {i : Nat} (h : i < l.length) (c : UInt8) {o : Nat} (ho : o = i) : splice (l.flatMap Go.Sx.encB) o [.int .u8 c.toNat] = (l.set i c).flatMap Go.Sx.encB := by
  subst ho
  have e : ∀ m : List UInt8, m.flatMap Go.Sx.encB = m.map fun c => Value.int .u8 c.toNat := fun m => by induction m with
    | nil => rfl
    | cons x m ih => simpa using ih
  rw [e, e, splice_at (k := o) (by rw [List.length_map]; exact h) _ rfl, List.map_set]

omit [Outer] in
theorem bytes_at {l : List UInt8} {i : Nat} {c : UInt8} (h : l[i]? = some c) {o : Nat} (ho : o = i) : (l.flatMap Go.Sx.encB)[o]? = some (.int .u8 c.toNat) := by
  subst ho
  have e : ∀ m : List UInt8, m.flatMap Go.Sx.encB = m.map fun c => Value.int .u8 c.toNat := fun m => by induction m with
    | nil => rfl
    | cons x m ih => simpa using ih
  rw [e, List.getElem?_map, h]; rfl

omit [Outer] in
theorem bytes_len (l : List UInt8) : (l.flatMap Go.Sx.encB).length = l.length := by rw [length_flatMap_enc (sz := 1) (fun _ _ => rfl), Nat.mul_one]

set_option maxHeartbeats 8000000 in
set_option maxRecDepth 100000 in
theorem law_CowTwo {no : Int} (hr : -9223372036854775808 ≤ no ∧ no ≤ 9223372036854775807) {v : Value} {vals : List UInt8} {hs : List Chunk} (hv : Row Go.Sx.encB 1 hs v vals) (hvl : vals.length ≤ 9223372036854775807) (hbegun : ∀ hs, Fun Try.prog 10 [] hs fun v' hs' => v' = .bool true ∧ hs = hs') : Fun Try.prog 4 [.int .i64 no, v] hs (fun v' hs' => v' = .bool true ∧ hs = hs') := by
  refine Fun.enter 121 Try.func4 rfl Try.ntmps4 rfl ?_
  obtain ⟨av, cv, hvv⟩ := hv.len
  subst hvv
  refine TT.seq (.region (.pures hT 1 rfl (.nil (.seq (.seq (.region (.call Try.call10 rfl rfl rfl rfl (hbegun _) ?_)))))))
  rintro v_16 hs_16 ⟨rfl, rfl⟩
  refine OT.pures hT 1 rfl (.nil (.seq (.seq (.seq (.region (.pures hT 2 rfl (.nil (.seq (.cond_false rfl (.skip (.seq (.seq (.seq (.region (.pures hT 3 rfl (.split 21 rfl (fun g21 => ?_) (fun g21 => ?_)))))))))))))))))
  ·
    have g21 := of_decide_eq_true g21
    refine OT.pures hT 3 rfl (.nil (.seq (.cond_true rfl (.seq (.region (.pures hT 1 rfl (.nil (.seq (.ret (.of (rs := [.tmp 4]) [_] hs rfl (.tmp rfl .nil) sl ?_))))))))))
    dsimp only [one]
    exact ⟨rfl, rfl⟩
  ·
    have g21 := of_decide_eq_false g21
    refine OT.pures hT 3 rfl (.nil (.seq (.cond rfl (fun c24 => ?_) (fun c24 => ?_))))
    ·
      have c24 := of_decide_eq_true c24
      refine TT.seq (.region (.pures hT 1 rfl (.nil (.seq (.ret (.of (rs := [.tmp 4]) [_] hs rfl (.tmp rfl .nil) sl ?_))))))
      dsimp only [one]
      exact ⟨rfl, rfl⟩
    ·
      have c24 := of_decide_eq_false c24
      obtain ⟨n, rfl⟩ : ∃ n : Nat, no = n := ⟨no.toNat, by omega⟩
      refine TT.skip (.seq (.seq (.region (.build (cs := bkCells (List.replicate 96 (.slice none 0 0))) hT rfl Try.zeroValue28 rfl rfl kr rfl (.box rfl rfl rfl (fun b_26 => ?_))))))
      refine OT.pures hT 1 rfl (.nil (.seq (.seq (.draw (hs) mixed (.takes (fuel := 3) hT [0, 2, 3] kr kr rfl (.op (fuel := 2) 1 kr rfl sl ?_))))))
      refine OT.make (enc := Go.Sx.encB) (z0 := (0 : UInt8)) (n := 256) el22 Try.zeroValue5 rfl rfl rfl rfl rfl (by omega) rfl (fun v_28 H_28 ho_28 => ?_)
      obtain ⟨B1, O1, C1, _, _, hv28, _⟩ := ho_28.over (by rw [List.length_replicate]; decide)
      rw [List.length_replicate] at hv28
      subst hv28
      refine OT.nil (.any (.index_at (fuel := 1) hT 4 rfl kr kr kr rfl rfl rfl rfl (by omega) (by decide) rfl (.op (fuel := 0) 5 kr rfl sl (.store hT rfl rfl rfl rfl pl rfl (Nat.le_of_ble_eq_true rfl) rfl (.inl (Nat.le_refl _)) (bk_set (k := 1) (List.length_replicate) (by decide) _ rfl) ?_))))
      refine OT.nil (.any (.done kr sl (.seq (.seq (.region (.pures hT 3 rfl (.index_at hT rfl rfl rfl rfl (by omega) (by decide) rfl (.load rfl rfl (Ld.slc hT rfl hz (bk_at (by rw [List.length_set, List.length_replicate]) (List.getElem?_set_self (by rw [List.length_replicate]; decide)) rfl)) rfl ?_))))))))
      refine OT.pures hT 5 rfl (.reg 38 rfl (v := .int .i64 ((n / 8 : Nat) : Int)) (int_eq (by rw [Int.tdiv_eq_ediv_of_nonneg (by omega), wrap_i64 (by omega) (by omega)]; omega)) (.reg 41 rfl (v := .int .u64 ((n % 8 : Nat) : Int)) (int_eq (by rw [Int.tmod_eq_emod_of_nonneg (by omega), wrap_u64 (by omega) (by omega)]; omega)) (.shl hT rfl rfl rfl (by omega) rfl (.reg 42 rfl (v := .int .u8 ((UInt8.ofNat (2 ^ (n % 8))).toNat : Int)) (int_eq (bit_byte ⟨n % 8, Nat.mod_lt _ (by decide)⟩)) (.index_raw hT rfl rfl rfl rfl (by omega) (by omega) rfl (.store_el (n / 8) 0 hT rfl rfl rfl rfl pl ho_28 (List.getElem?_replicate.trans (if_pos (by omega))) (by omega) rfl (by decide) rfl rfl (fun H_x ho_x => ?_)))))))
      refine OT.nil (.seq (.seq (.region (.alloc Try.zeroValue55 rfl rfl (fun b_7 => ?_)))))
      refine OT.nil (.seq (.seq (.region (.pures hT 1 rfl (.nil (.seq (.seq (.seq (.region (.pures hT 1 rfl (.nil (.seq (.block ?_)))))))))))))
      have hB0 : BkAt 28 b_26 (upd (fun _ => noughts 256) ((1 : Nat) : Int) (bitAt n)) ([(b_26, blk (bkCells ((List.replicate 96 (.slice none 0 0) : List Value).set 1 (.slice (some ⟨B1, O1, none⟩) 256 C1))) 28 (0, 0))] ++ ([] ++ H_x)) := BkAt.one ((Slots.zero [[]]).grow (by decide) ho_x (bitAt_len n))
      refine TT.loop (ι := Nat × Pages × (List Snap) × (List Pages) × (List UInt8) × UInt8 × Chunk) (fun j => (j.1) ≤ 4 ∧ (j.2.2.2.2.1).length = 4 ∧ (∀ (k : Nat) (w : Pages), (j.2.2.2.1)[k]? = some w → k < (j.1) ∧ w 1 = bitAt n ∧ ∃ x, (j.2.2.2.2.1)[k]? = some x ∧ w (n : Nat) = pageOf [x]) ∧ BkAt 28 b_26 (j.2.1) (j.2.2.2.2.2.2) ∧ Keeps (j.2.1) ((j.1) : Nat) (j.2.2.1) (j.2.2.2.1) ∧ Named (j.2.2.1) ∧ Kept [(n : Int)] (j.2.2.1) ∧ (j.2.2.1).length = (j.1) ∧ (j.2.1) 1 = bitAt n ∧ (j.2.1) (n : Nat) = pageOf [(j.2.2.2.2.2.1)]) (fun j => 4 - (j.1)) (fun j => [(0, .int .i64 (n : Nat)), (1, .slice av vals.length cv), (6, .pointer (some ⟨b_26, 0, none⟩)), (7, .pointer (some ⟨b_7, 0, none⟩)), (8, .int .u8 (j.2.2.2.2.2.1).toNat), (9, .int .i64 ((j.1) : Nat))]) (fun j => [(b_7, blk ((j.2.2.2.2.1).flatMap Go.Sx.encB) 55 (0, 0))] :: (j.2.2.2.2.2.2) :: hs) (0, upd (fun _ => noughts 256) ((1 : Nat) : Int) (bitAt n), [], [], List.replicate 4 0, 0, ([(b_26, blk (bkCells ((List.replicate 96 (.slice none 0 0) : List Value).set 1 (.slice (some ⟨B1, O1, none⟩) 256 C1))) 28 (0, 0))] ++ ([] ++ H_x))) ?_ (SubR.cons rfl (SubR.cons rfl (SubR.cons rfl (SubR.cons rfl (SubR.cons rfl (SubR.cons rfl (SubR.nil _))))))) sl ?_
      · dsimp only
        exact ⟨by omega, rfl, (fun k w h => by cases h), hB0, Keeps.none hB0.long (by unfold upd; rw [if_neg (by decide)]), (fun k s h => by cases h), (fun s h => by cases h), rfl, if_pos rfl, by unfold upd; rw [if_neg (by omega)]; show noughts 256 = pageOf [0]; decide +kernel⟩
      rintro ⟨i, Q, xs, ws, wl, now, H1⟩ hI
      dsimp only at hI
      obtain ⟨hi, hwl, hws, hB, hK, hN, hD, hxl, hq1, hqn⟩ := hI
      show TT _ _ _ [(0, .int .i64 (n : Nat)), (1, .slice av vals.length cv), (6, .pointer (some ⟨b_26, 0, none⟩)), (7, .pointer (some ⟨b_7, 0, none⟩)), (8, .int .u8 now.toNat), (9, .int .i64 (i : Nat))] ([(b_7, blk (wl.flatMap Go.Sx.encB) 55 (0, 0))] :: H1 :: hs)
      refine TT.seq (.seq (.region (.pures hT 2 rfl (.nil (.seq (.cond rfl (fun c45 => ?_) (fun c45 => ?_)))))))
      ·
        have c45 := of_decide_eq_true c45
        obtain ⟨hadd, hgo, hN1⟩ := hN.add hK.st.good (by rw [hxl]) (by omega)
        rw [hxl] at hadd hgo hN1
        have hK1 := hK.snap hgo
        have hwsl : ws.length = i := hK.len.trans hxl
        obtain ⟨ws2, hwe⟩ : ∃ ws2, ws2 = ws ++ [Q] := ⟨_, rfl⟩
        have hws2 : ∀ (k : Nat) (w : Pages), ws2[k]? = some w → k < i + 1 ∧ w 1 = bitAt n ∧ ∃ x, (wl.set i now)[k]? = some x ∧ w (n : Nat) = pageOf [x] := fun k w h => by
          rw [hwe, List.getElem?_append] at h
          split at h
          · rename_i hk
            obtain ⟨a1, a2, x, a3, a4⟩ := hws k w h
            exact ⟨by omega, a2, x, by rw [List.getElem?_set_ne (by omega)]; exact a3, a4⟩
          · have := (List.getElem?_eq_some_iff.1 h).1
            simp only [List.length_singleton] at this
            rw [show k - ws.length = 0 by omega] at h
            cases h
            exact ⟨by omega, hq1, now, by rw [show k = i by omega]; exact List.getElem?_set_self (by omega), hqn⟩
        rw [← hwe] at hK1
        refine TT.skip (.seq (.seq (.block (.seq (.region (.pures hT 2 rfl (.index_at hT rfl rfl rfl rfl (by omega) (by omega) rfl (.store hT rfl rfl rfl rfl pl rfl (by show _ ≤ (wl.flatMap Go.Sx.encB).length; rw [bytes_len, hwl]; show _ + 1 ≤ 4; omega) rfl (.inl (Nat.le_refl _)) (bytes_set (i := i) (by omega) now (by omega)) ?_))))))))
        refine OT.nil (.seq (.seq (.seq (.region (.pures hT 4 rfl (.reg 54 rfl (v := .int .u8 ((b8 (97 + ((i : Nat) : Int))).toNat : Int)) (int_eq (by rw [wrap_i64 (by omega) (by omega)]; exact b8_wrap _)) ?_))))))
        refine OT.buildSlice (enc := Go.Sx.encB) (xs := [b8 (97 + ((i : Nat) : Int))]) (xos := [.tmp 54]) el22 rfl rfl rfl rfl rfl (by simp [Value.cells]) (fun _ _ => rfl) rfl (by decide) rfl (fun v_55 H_55 ho_55 => ?_)
        refine OT.conv_bs (fun _ => rfl) hT rfl rfl rfl rfl rfl ro rfl ?_
        refine OT.call Try.call19 rfl rfl rfl rfl (Fun.pull pl (law21_snap (nm := nmK i) hB hK.st hadd (may_iff.2 hgo))) ?_
        rintro v_57 hs_57 ⟨H3, rfl, rfl, hB3⟩
        refine OT.pures hT 1 rfl (.nil (.seq (.cond_false rfl (.skip (.seq (.seq (.region (.pures hT 1 rfl (.nil (.seq (.block (.loop (ι := Nat × Pages × (List Snap) × UInt8 × Chunk) (fun j => (j.1) ≤ 2 ∧ BkAt 28 b_26 (j.2.1) (j.2.2.2.2) ∧ Keeps (j.2.1) ((i + 1) : Nat) (j.2.2.1) ws2 ∧ Named (j.2.2.1) ∧ Kept [(n : Int)] (j.2.2.1) ∧ (j.2.2.1).length = (i + 1) ∧ (j.2.1) 1 = bitAt n ∧ (j.2.1) (n : Nat) = pageOf [(j.2.2.2.1)]) (fun j => 2 - (j.1)) (fun j => [(0, .int .i64 (n : Nat)), (1, .slice av vals.length cv), (6, .pointer (some ⟨b_26, 0, none⟩)), (7, .pointer (some ⟨b_7, 0, none⟩)), (8, .int .u8 (j.2.2.2.1).toNat), (9, .int .i64 (i : Nat)), (10, .int .i64 ((j.1) : Nat))]) (fun j => [(b_7, blk ((wl.set i now).flatMap Go.Sx.encB) 55 (0, 0))] :: (j.2.2.2.2) :: hs) (0, upd Q ((0 : Nat) : Int) (encode ((i : Nat) + 1) (xs ++ [newSnap (nmK i) ((i : Nat) + 1)])).1, xs ++ [newSnap (nmK i) ((i : Nat) + 1)], now, H3) ?_ (SubR.cons rfl (SubR.cons rfl (SubR.cons rfl (SubR.cons rfl (SubR.cons rfl (SubR.cons rfl (SubR.cons rfl (SubR.nil _)))))))) sl ?_))))))))))))
        · dsimp only
          exact ⟨by omega, hB3, hK1, hN1, hD.snap _ _, by rw [List.length_append, hxl]; rfl, by unfold upd; rw [if_neg (by decide)]; exact hq1, by unfold upd; rw [if_neg (by omega)]; exact hqn⟩
        rintro ⟨k, Q2, xs2, now2, H2⟩ hI
        dsimp only at hI
        obtain ⟨hk, hB2, hK2, hN2, hD2, hxl2, hq12, hqn2⟩ := hI
        show TT _ _ _ [(0, .int .i64 (n : Nat)), (1, .slice av vals.length cv), (6, .pointer (some ⟨b_26, 0, none⟩)), (7, .pointer (some ⟨b_7, 0, none⟩)), (8, .int .u8 now2.toNat), (9, .int .i64 (i : Nat)), (10, .int .i64 (k : Nat))] ([(b_7, blk ((wl.set i now).flatMap Go.Sx.encB) 55 (0, 0))] :: H2 :: hs)
        refine TT.seq (.seq (.region (.pures hT 2 rfl (.nil (.seq (.cond rfl (fun c60 => ?_) (fun c60 => ?_)))))))
        ·
          have c60 := of_decide_eq_true c60
          refine TT.skip (.seq (.seq (.block (.seq (.region (.pures hT 7 rfl (.nil (.seq (.cut (ι := UInt8) (fun j => True) (fun j => [(0, .int .i64 (n : Nat)), (1, .slice av vals.length cv), (6, .pointer (some ⟨b_26, 0, none⟩)), (7, .pointer (some ⟨b_7, 0, none⟩)), (8, .int .u8 (j).toNat), (9, .int .i64 (i : Nat)), (10, .int .i64 (k : Nat))]) (fun j => [(b_7, blk ((wl.set i now).flatMap Go.Sx.encB) 55 (0, 0))] :: H2 :: hs) ?_ ?_)))))))))
          ·
            refine TT.seq (.region (.pures hT 7 rfl (.nil (.seq (.cond rfl (fun c75 => ?_) (fun c75 => ?_))))))
            ·
              have c75 := of_decide_eq_true c75
              rw [wrap_i64 (n := 2 * ((i : Nat) : Int)) (by omega) (by omega), wrap_i64 (by omega) (by omega)] at c75
              obtain ⟨y, hy⟩ := nth (l := vals) (i := 2 * i + k) (by omega)
              refine TT.region (.pures hT 5 rfl (.reg 80 rfl (v := .int .i64 ((2 * i + k : Nat) : Int)) (int_eq (by rw [wrap_i64 (n := 2 * ((i : Nat) : Int)) (by omega) (by omega), wrap_i64 (by omega) (by omega)]; omega)) (.index hT rfl rfl rfl rfl hv.there.there (by omega) (by rw [Int.toNat_natCast]; exact hy) rfl (fun ad_81 hel_81 => ?_))))
              refine OT.load rfl rfl (hel_81.ld_one hT rfl rfl) rfl (.pures hT 1 rfl (.nil (.cut (y) ?_ (SubR.cons rfl (SubR.cons rfl (SubR.cons rfl (SubR.cons rfl (SubR.cons rfl (SubR.cons rfl (SubR.cons rfl (SubR.nil _)))))))) sl)))
              · trivial
            ·
              have c75 := of_decide_eq_false c75
              refine TT.skip (.cut (b8 (IntKind.i64.wrap (IntKind.i64.wrap (IntKind.i64.wrap (10 * ((i : Nat) : Int)) + ((k : Nat) : Int)) + 1))) ?_ (SubR.cons rfl (SubR.cons rfl (SubR.cons rfl (SubR.cons rfl (SubR.cons' rfl (by (try dsimp only); exact (int_eq (b8_wrap _))) (SubR.cons rfl (SubR.cons rfl (SubR.nil _)))))))) sl)
              · trivial
          ·
            rintro y _
            show TT _ _ _ [(0, .int .i64 (n : Nat)), (1, .slice av vals.length cv), (6, .pointer (some ⟨b_26, 0, none⟩)), (7, .pointer (some ⟨b_7, 0, none⟩)), (8, .int .u8 y.toNat), (9, .int .i64 (i : Nat)), (10, .int .i64 (k : Nat))] ([(b_7, blk ((wl.set i now).flatMap Go.Sx.encB) 55 (0, 0))] :: H2 :: hs)
            refine TT.seq (.region (.pures hT 3 rfl (.call Try.call20 rfl rfl rfl rfl (Fun.pull pl (law21_lay hB2 hK2.st (no := (n : Nat)) (by omega) (by omega) (x := y))) ?_)))
            rintro v_86 hs_86 ⟨H4, rfl, rfl, hB4, _⟩
            have hd := one_data (b := pageOf [y]) (show 1 ≤ (n : Int) by omega) (show (n : Int) < 32 by omega) (pageOf_length (by simp))
            have hK4 := hK2.step hd
            have hlk := (expandS_good (Q := Q2) (but := 0) hK2.st.good hK2.st.h32 (nosOf_nodup (chgOf [((n : Int), pageOf [y])]))).2
            have hN4 := hN2.likes hlk
            have hD4 := hD2.step (Q := Q2) (but := 0) (nos := nosOf (chgOf [((n : Int), pageOf [y])])) (by rw [hxl2, List.length_singleton]; omega) (fun no h => by
              rw [nos_one (by omega) (by omega)] at h; subst h; exact ⟨by omega, by simp⟩)
            have hxl4 : (expandS Q2 0 (nosOf (chgOf [((n : Int), pageOf [y])])) xs2).length = i + 1 := hlk.1.symm.trans hxl2
            have hq14 : lay Q2 (expandC Q2 ((i + 1 : Nat) : Int) xs2 [((n : Int), pageOf [y])]) 1 = bitAt n := by
              rw [expandC_data hK2.st _ (by omega) (by omega)]
              show upd Q2 (n : Int) (pageOf [y]) 1 = _
              unfold upd; rw [if_neg (by omega)]; exact hq12
            have hqn4 : lay Q2 (expandC Q2 ((i + 1 : Nat) : Int) xs2 [((n : Int), pageOf [y])]) (n : Nat) = pageOf [y] := by
              rw [expandC_data hK2.st _ (by omega) (by omega)]
              show upd Q2 (n : Int) (pageOf [y]) (n : Int) = _
              unfold upd; rw [if_pos rfl]
            refine OT.pures hT 1 rfl (.nil (.seq (.cond_false rfl (.skip (.blk (.seq (.region (.pures hT 3 rfl (.nil (.loop (k + 1, lay Q2 (expandC Q2 ((i + 1 : Nat) : Int) xs2 [((n : Int), pageOf [y])]), expandS Q2 0 (nosOf (chgOf [((n : Int), pageOf [y])])) xs2, y, H4) ?_ ?_ (SubR.cons rfl (SubR.cons rfl (SubR.cons rfl (SubR.cons rfl (SubR.cons rfl (SubR.cons rfl (SubR.cons' rfl (by (try dsimp only); exact (int_eq (by rw [wrap_i64 (by omega) (by omega)]; omega))) (SubR.nil _)))))))) sl))))))))))
            · dsimp only
              exact ⟨by omega, hB4, hK4, hN4, hD4, hxl4, hq14, hqn4⟩
            · dsimp only
              omega
        ·
          have c60 := of_decide_eq_false c60
          obtain rfl : k = 2 := by omega
          refine TT.exit (.seq (.loop (.here (.blk (.seq (.region (.pures hT 3 rfl (.nil (.loop (i + 1, Q2, xs2, ws2, wl.set i now, now2, H2) ?_ ?_ (SubR.cons rfl (SubR.cons rfl (SubR.cons rfl (SubR.cons rfl (SubR.cons rfl (SubR.cons' rfl (by (try dsimp only); exact (int_eq (by rw [wrap_i64 (by omega) (by omega)]; omega))) (SubR.nil _))))))) sl)))))))))
          · dsimp only
            exact ⟨by omega, by rw [List.length_set]; exact hwl, hws2, hB2, hK2, hN2, hD2, hxl2, hq12, hqn2⟩
          · dsimp only
            omega
      ·
        have c45 := of_decide_eq_false c45
        refine TT.exit (.seq (.loop (.here (.seq (.seq (.seq (.region (.pures hT 1 rfl (.nil (.seq (.block ?_)))))))))))
        obtain rfl : i = 4 := by omega
        refine TT.loop (ι := Nat) (fun j => (j) ≤ 4) (fun j => 4 - (j)) (fun j => [(0, .int .i64 (n : Nat)), (6, .pointer (some ⟨b_26, 0, none⟩)), (7, .pointer (some ⟨b_7, 0, none⟩)), (11, .int .i64 ((j) : Nat))]) (fun j => [(b_7, blk (wl.flatMap Go.Sx.encB) 55 (0, 0))] :: H1 :: hs) (0) ?_ (SubR.cons rfl (SubR.cons rfl (SubR.cons rfl (SubR.cons rfl (SubR.nil _))))) sl ?_
        · omega
        rintro j hj
        show TT _ _ _ [(0, .int .i64 (n : Nat)), (6, .pointer (some ⟨b_26, 0, none⟩)), (7, .pointer (some ⟨b_7, 0, none⟩)), (11, .int .i64 (j : Nat))] ([(b_7, blk (wl.flatMap Go.Sx.encB) 55 (0, 0))] :: H1 :: hs)
        refine TT.seq (.seq (.region (.pures hT 2 rfl (.nil (.seq (.cond rfl (fun c89 => ?_) (fun c89 => ?_)))))))
        ·
          have c89 := of_decide_eq_true c89
          obtain ⟨s, hsx⟩ := nth (l := xs) (i := j) (by omega)
          obtain ⟨w, hw⟩ := nth (l := ws) (i := j) (by rw [hK.len]; omega)
          obtain ⟨_, hw1, x, hx, hwn⟩ := hws j w hw
          have hsi := (hD s (List.mem_of_getElem? hsx)).1
          have hsh : shownOf xs (nmK j) = some s := by rw [shown_named hN hK.st.good hsx, if_neg (by rw [hsi]; simp)]
          have h35 := hK.st.h35 s (List.mem_of_getElem? hsx)
          have hsd := hK.st.good.sides s (List.mem_of_getElem? hsx)
          have hsv : Q (viewNo s (n : Nat)) = pageOf [x] := by
            rw [hK.shows j s w hsx hw hsi (n : Nat) (by omega) (by omega) (.inr (by rw [hw1]; exact bit_has ⟨n, by omega⟩ (by show 2 ≤ n; omega)))]; exact hwn
          refine TT.skip (.seq (.seq (.block (.seq (.region (.pures hT 4 rfl (.reg 96 rfl (v := .int .u8 ((b8 (97 + ((j : Nat) : Int))).toNat : Int)) (int_eq (by rw [wrap_i64 (by omega) (by omega)]; exact b8_wrap _)) ?_)))))))
          refine OT.buildSlice (enc := Go.Sx.encB) (xs := [b8 (97 + ((j : Nat) : Int))]) (xos := [.tmp 96]) el22 rfl rfl rfl rfl rfl (by simp [Value.cells]) (fun _ _ => rfl) rfl (by decide) rfl (fun v_97 H_97 ho_97 => ?_)
          refine OT.conv_bs (fun _ => rfl) hT rfl rfl rfl rfl rfl ro rfl ?_
          refine OT.call Try.call16 rfl rfl rfl rfl (Fun.pull pl (law21_show (nm := nmK j) hB hK.st)) ?_
          rintro v_99 hs_99 ⟨rfl, cs, rfl, hcl, hco, hcs⟩
          obtain rfl := hcs _ hsh
          rw [hsh]
          refine OT.pures hT 3 rfl (.alloc Try.zeroValue47 rfl rfl (fun b_12 => ?_))
          refine OT.store_all hT rfl rfl rfl rfl pl (by exact hcl) rfl hco (.inl (Nat.le_refl _)) ?_
          refine OT.pures hT 1 rfl (.nil (.seq (.seq (.seq (.region (.pures hT 2 rfl (.nil (.seq (.cond_false rfl (.skip (.seq (.seq (.region (.load rfl rfl (Ld.struct_all hT rfl hz (by exact hcl)) rfl ?_))))))))))))))
          refine OT.pures hT 1 rfl (.call Try.call18 rfl rfl rfl rfl (Fun.pull pl (shown_Page hB h35 hsd)) ?_)
          rintro v_107 hs_107 ⟨KP, wP, rfl, rfl, hoP⟩
          rw [viewPg_ok hsd (by omega) (by omega), hsv] at hoP ⊢
          dsimp only at hoP
          refine OT.pures hT 5 rfl (.nil (.seq (.seq (.draw ((KP :: [(b_7, blk (wl.flatMap Go.Sx.encB) 55 (0, 0))] :: hs)) mixed (.takes (fuel := 8) hT [0, 1, 2] kr kr rfl (.takes (fuel := 6) hT [3, 6] kr kr rfl (.index (fuel := 5) hT 4 rfl kr kr kr rfl rfl rfl rfl hoP.row (by decide) (by show (pageOf [x])[0]? = some x; rfl) rfl (fun ad_114 hel_114 => ?_))))))))
          refine AT.take (fuel := 4) hT 5 rfl rfl kr kr kr rfl (.load rfl (hel_114.ld_one hT rfl rfl)) rfl (.index_at (fuel := 3) hT 7 rfl kr kr kr rfl rfl rfl rfl (by omega) (by omega) rfl (.take (fuel := 2) hT 8 rfl rfl kr kr kr rfl (.load rfl (Ld.one hT rfl hz (bytes_at hx (by omega)))) rfl ?_))
          refine AT.takes (fuel := 0) hT [9, 10] kr kr rfl (.done kr sl (.seq (.cond rfl (fun c120 => ?_) (fun c120 => ?_))))
          ·
            exact absurd c120 (by simp)
          ·
            refine TT.skip (.blk (.seq (.region (.pures hT 3 rfl (.nil (.loop (j + 1) ?_ ?_ (SubR.cons rfl (SubR.cons rfl (SubR.cons rfl (SubR.cons' rfl (by (try dsimp only); exact (int_eq (by rw [wrap_i64 (by omega) (by omega)]; omega))) (SubR.nil _))))) sl))))))
            · omega
            · omega
        ·
          have c89 := of_decide_eq_false c89
          refine TT.exit (.seq (.loop (.here (.seq (.seq (.region (.pures hT 1 rfl (.nil (.seq (.ret (.of (rs := [.tmp 4]) [_] hs rfl (.tmp rfl .nil) sl ?_)))))))))))
          dsimp only [one]
          exact ⟨rfl, rfl⟩

end Go.Proofs.Ytnhkgchcdbideaa.Sx
end
