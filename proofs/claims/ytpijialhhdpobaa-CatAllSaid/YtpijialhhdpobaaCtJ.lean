/- What the laws' own helpers compute: tells, begun. Printed by a program of ours off the loaded program and our notes; Lean checks it. -/
import Derived.Test.YtpijialhhdpobaaPlI
import Derived.Test.YtpijialhhdpobaaSxT
import Derived.Test.YtpijialhhdpobaaCtI
import Derived.Test.YtpijialhhdpobaaCtG
import Derived.Test.YtpijialhhdpobaaCtF
namespace Go.Proofs.Ytpijialhhdpobaa.Sx
open Go Go.Sx Go.Pl
variable [Outer]

set_option maxHeartbeats 4000000 in
set_option maxRecDepth 100000 in
theorem law20_tells {v : Value} {xs : List UInt8} {hs : List Chunk} (hr : Row Go.Sx.encB 1 hs v xs) (hl : xs.length ≤ 1073741824) : Fun Try.prog 27 [v] hs (fun v' hs' => v' = .bool true ∧ hs = hs') := by
  refine Fun.enter 32 Try.func27 rfl Try.ntmps27 rfl ?_
  obtain ⟨a0, c0, hv⟩ := hr.len
  subst hv
  have hany := decode_any xs
  obtain ⟨⟨⟨n, s⟩, e⟩, hd⟩ : ∃ r, decodeS xs = r := ⟨_, rfl⟩
  rw [hd] at hany
  refine TT.seq ?_
  refine TT.region ?_
  refine OT.pures hT 1 rfl ?_
  refine OT.nil ?_
  refine KT.seq ?_
  refine TT.seq ?_
  refine TT.region ?_
  refine OT.pures hT 1 rfl ?_
  refine OT.call Try.call19 rfl rfl rfl rfl (cat_Decode hr hl) ?_
  rintro v_7 hs_7 ⟨w7, H7, rfl, rfl, ho7⟩
  rw [hd] at ho7 ⊢
  dsimp only at ho7 ⊢
  obtain ⟨a7, c7, hv7⟩ := (ho7.row (hs := hs)).len
  subst hv7
  refine OT.pures hT 3 rfl ?_
  refine OT.alloc Try.zeroValue33 rfl rfl (fun b_3 => ?_)
  refine OT.store_all hT rfl rfl rfl rfl (by repeat (first | exact Pull.head | apply Pull.tail)) rfl rfl rfl (.inl (Nat.le_refl _)) ?_
  refine OT.pures hT 1 rfl ?_
  refine OT.nil ?_
  refine KT.seq ?_
  refine TT.seq ?_
  refine TT.seq ?_
  refine TT.region ?_
  refine OT.pures hT 2 rfl ?_
  refine OT.nil ?_
  refine KT.seq ?_
  refine TT.cond rfl (fun c11 => ?_) (fun c11 => ?_)
  ·
    have c11 : ¬ e = 0 := by simpa using c11
    have hz : n = 0 ∧ s = [] ∧ e = 8 := by
      rcases hany with h | ⟨n', s', h, _⟩
      · simp only [Prod.mk.injEq] at h; exact ⟨h.1.1, h.1.2, h.2⟩
      · simp only [Prod.mk.injEq] at h; exact absurd h.2 c11
    obtain ⟨rfl, rfl, rfl⟩ := hz
    refine TT.seq ?_
    refine TT.region ?_
    refine OT.pures hT 3 rfl ?_
    refine OT.split 14 rfl (fun g14 => ?_) (fun g14 => ?_)
    ·
      refine OT.pures hT 1 rfl ?_
      refine OT.load rfl rfl (Ld.one hT rfl (by repeat (first | exact Has.one | apply Has.there)) rfl) rfl ?_
      refine OT.pures hT 3 rfl ?_
      refine OT.split 19 rfl (fun g19 => ?_) (fun g19 => ?_)
      ·
        refine OT.pures hT 1 rfl ?_
        refine OT.load rfl rfl (Ld.slc hT rfl (by repeat (first | exact Has.one | apply Has.there)) rfl) rfl ?_
        refine OT.pures hT 4 rfl ?_
        refine OT.nil ?_
        refine KT.seq ?_
        refine TT.ret ?_
        refine RT.of (rs := [.tmp 2]) [_] hs rfl (.tmp rfl .nil) (by repeat (first | exact Sel.refl _ | refine Sel.empty ?_ | refine Sel.pull (by repeat (first | exact Pull.head | apply Pull.tail)) ?_ | refine Sel.drop ?_)) ?_
        dsimp only [one]
        exact ⟨rfl, rfl⟩
      ·
        exact absurd g19 (by decide)
    ·
      exact absurd g14 (by decide)
  ·
    have c11 : e = 0 := by simpa using c11
    have hz : (encode n s).1 = xs ∧ mayB n s = true ∧ ∀ x ∈ s, (encSnap x).length = 35 := by
      rcases hany with h | ⟨n', s', h, h1, h2, h3⟩
      · simp only [Prod.mk.injEq] at h; omega
      · simp only [Prod.mk.injEq] at h; obtain ⟨⟨rfl, rfl⟩, _⟩ := h; exact ⟨h1, enc_may h2, h3⟩
    obtain ⟨hb, hmay, h35⟩ := hz
    have hm4 := (may_ok hmay).2.2.1
    refine TT.skip ?_
    refine KT.seq ?_
    refine TT.seq ?_
    refine TT.draw ([(b_3, blk [.int .i64 n, .slice a7 s.length c7] 33 (0, 0))] :: H7 :: hs) mixed ?_
    refine AT.takes (fuel := 7) hT [4] (by kernel_rfl) (by kernel_rfl) rfl ?_
    refine AT.take (fuel := 6) hT 0 rfl rfl (by kernel_rfl) (by kernel_rfl) (by kernel_rfl) rfl (.load rfl (Ld.struct_all hT rfl (by repeat (first | exact Has.one | apply Has.there)) rfl)) rfl ?_
    refine AT.all (fuel := 5) [1, 5] (by kernel_rfl) (by decide) (by repeat (first | exact Sel.refl _ | refine Sel.empty ?_ | refine Sel.pull (by repeat (first | exact Pull.head | apply Pull.tail)) ?_ | refine Sel.drop ?_)) ?_
    intro i hi
    simp only [List.mem_cons, List.not_mem_nil, or_false] at hi
    rcases hi with rfl | rfl
    ·
      refine ⟨_, rfl, ?_⟩
      refine OT.call Try.call25 rfl rfl rfl rfl (law20_Back) ?_
      rintro v_26 hs_26 ⟨rfl, rfl⟩
      refine OT.nil ?_
      refine KT.any ?_
      refine AT.all (fuel := 4) [2, 5] (by kernel_rfl) (by decide) (by repeat (first | exact Sel.refl _ | refine Sel.empty ?_ | refine Sel.pull (by repeat (first | exact Pull.head | apply Pull.tail)) ?_ | refine Sel.drop ?_)) ?_
      intro i hi
      simp only [List.mem_cons, List.not_mem_nil, or_false] at hi
      rcases hi with rfl | rfl
      ·
        refine ⟨_, rfl, ?_⟩
        refine OT.call Try.call16 rfl rfl rfl rfl (ref_CatBytes (by first | exact ho7.row | exact ho7.row.there | exact ho7.row.there.there | exact ho7.row.there.there.there | exact ho7.row.there.there.there.there | exact ho7.row.there.there.there.there.there | exact ho7.row.there.there.there.there.there.there | exact ho7.row.there.there.there.there.there.there.there | exact ho7.row.there.there.there.there.there.there.there.there | exact ho7.row.there.there.there.there.there.there.there.there.there | exact ho7.row.there.there.there.there.there.there.there.there.there.there | exact ho7.row.there.there.there.there.there.there.there.there.there.there.there | exact ho7.row.there.there.there.there.there.there.there.there.there.there.there.there | exact ho7.row.there.there.there.there.there.there.there.there.there.there.there.there.there) (by omega)) ?_
        rintro v_27 hs_27 ⟨H27, rfl, ho27⟩
        refine OT.nil ?_
        refine KT.any ?_
        refine AT.all (fuel := 3) [3, 5] (by kernel_rfl) (by decide) (by repeat (first | exact Sel.refl _ | refine Sel.empty ?_ | refine Sel.pull (by repeat (first | exact Pull.head | apply Pull.tail)) ?_ | refine Sel.drop ?_)) ?_
        intro i hi
        simp only [List.mem_cons, List.not_mem_nil, or_false] at hi
        rcases hi with rfl | rfl
        ·
          refine ⟨_, rfl, ?_⟩
          refine OT.conv_bs (fun _ => rfl) hT rfl rfl rfl rfl rfl (by first | exact ho27.row | exact ho27.row.there | exact ho27.row.there.there | exact ho27.row.there.there.there | exact ho27.row.there.there.there.there | exact ho27.row.there.there.there.there.there | exact ho27.row.there.there.there.there.there.there | exact ho27.row.there.there.there.there.there.there.there | exact ho27.row.there.there.there.there.there.there.there.there | exact ho27.row.there.there.there.there.there.there.there.there.there | exact ho27.row.there.there.there.there.there.there.there.there.there.there | exact ho27.row.there.there.there.there.there.there.there.there.there.there.there | exact ho27.row.there.there.there.there.there.there.there.there.there.there.there.there | exact ho27.row.there.there.there.there.there.there.there.there.there.there.there.there.there) rfl ?_
          rw [bytes_eq h35, hb]
          refine OT.nil ?_
          refine KT.any ?_
          refine AT.op (fuel := 2) 5 (by kernel_rfl) rfl (by repeat (first | exact Sel.refl _ | refine Sel.empty ?_ | refine Sel.pull (by repeat (first | exact Pull.head | apply Pull.tail)) ?_ | refine Sel.drop ?_)) ?_
          refine OT.conv_bs (fun _ => rfl) hT rfl rfl rfl rfl rfl (by first | exact hr | exact hr.there | exact hr.there.there | exact hr.there.there.there | exact hr.there.there.there.there | exact hr.there.there.there.there.there | exact hr.there.there.there.there.there.there | exact hr.there.there.there.there.there.there.there | exact hr.there.there.there.there.there.there.there.there | exact hr.there.there.there.there.there.there.there.there.there | exact hr.there.there.there.there.there.there.there.there.there.there | exact hr.there.there.there.there.there.there.there.there.there.there.there | exact hr.there.there.there.there.there.there.there.there.there.there.there.there | exact hr.there.there.there.there.there.there.there.there.there.there.there.there.there) rfl ?_
          refine OT.nil ?_
          refine KT.any ?_
          refine AT.takes (fuel := 0) hT [6, 7] (by kernel_rfl) (by kernel_rfl) rfl ?_
          refine AT.done (by kernel_rfl) (by repeat (first | exact Sel.refl _ | refine Sel.empty ?_ | refine Sel.pull (by repeat (first | exact Pull.head | apply Pull.tail)) ?_ | refine Sel.drop ?_)) ?_
          refine KT.seq ?_
          refine TT.ret ?_
          refine RT.of (rs := [.tmp 2]) [_] hs rfl (.tmp rfl .nil) (by repeat (first | exact Sel.refl _ | refine Sel.empty ?_ | refine Sel.pull (by repeat (first | exact Pull.head | apply Pull.tail)) ?_ | refine Sel.drop ?_)) ?_
          dsimp only [one]
          exact ⟨by simp; rfl, rfl⟩
        ·
          refine ⟨_, rfl, ?_⟩
          refine OT.conv_bs (fun _ => rfl) hT rfl rfl rfl rfl rfl (by first | exact hr | exact hr.there | exact hr.there.there | exact hr.there.there.there | exact hr.there.there.there.there | exact hr.there.there.there.there.there | exact hr.there.there.there.there.there.there | exact hr.there.there.there.there.there.there.there | exact hr.there.there.there.there.there.there.there.there | exact hr.there.there.there.there.there.there.there.there.there | exact hr.there.there.there.there.there.there.there.there.there.there | exact hr.there.there.there.there.there.there.there.there.there.there.there | exact hr.there.there.there.there.there.there.there.there.there.there.there.there | exact hr.there.there.there.there.there.there.there.there.there.there.there.there.there) rfl ?_
          refine OT.nil ?_
          refine KT.any ?_
          refine AT.op (fuel := 2) 3 (by kernel_rfl) rfl (by repeat (first | exact Sel.refl _ | refine Sel.empty ?_ | refine Sel.pull (by repeat (first | exact Pull.head | apply Pull.tail)) ?_ | refine Sel.drop ?_)) ?_
          refine OT.conv_bs (fun _ => rfl) hT rfl rfl rfl rfl rfl (by first | exact ho27.row | exact ho27.row.there | exact ho27.row.there.there | exact ho27.row.there.there.there | exact ho27.row.there.there.there.there | exact ho27.row.there.there.there.there.there | exact ho27.row.there.there.there.there.there.there | exact ho27.row.there.there.there.there.there.there.there | exact ho27.row.there.there.there.there.there.there.there.there | exact ho27.row.there.there.there.there.there.there.there.there.there | exact ho27.row.there.there.there.there.there.there.there.there.there.there | exact ho27.row.there.there.there.there.there.there.there.there.there.there.there | exact ho27.row.there.there.there.there.there.there.there.there.there.there.there.there | exact ho27.row.there.there.there.there.there.there.there.there.there.there.there.there.there) rfl ?_
          rw [bytes_eq h35, hb]
          refine OT.nil ?_
          refine KT.any ?_
          refine AT.takes (fuel := 0) hT [6, 7] (by kernel_rfl) (by kernel_rfl) rfl ?_
          refine AT.done (by kernel_rfl) (by repeat (first | exact Sel.refl _ | refine Sel.empty ?_ | refine Sel.pull (by repeat (first | exact Pull.head | apply Pull.tail)) ?_ | refine Sel.drop ?_)) ?_
          refine KT.seq ?_
          refine TT.ret ?_
          refine RT.of (rs := [.tmp 2]) [_] hs rfl (.tmp rfl .nil) (by repeat (first | exact Sel.refl _ | refine Sel.empty ?_ | refine Sel.pull (by repeat (first | exact Pull.head | apply Pull.tail)) ?_ | refine Sel.drop ?_)) ?_
          dsimp only [one]
          exact ⟨by simp; rfl, rfl⟩
      ·
        refine ⟨_, rfl, ?_⟩
        refine OT.conv_bs (fun _ => rfl) hT rfl rfl rfl rfl rfl (by first | exact hr | exact hr.there | exact hr.there.there | exact hr.there.there.there | exact hr.there.there.there.there | exact hr.there.there.there.there.there | exact hr.there.there.there.there.there.there | exact hr.there.there.there.there.there.there.there | exact hr.there.there.there.there.there.there.there.there | exact hr.there.there.there.there.there.there.there.there.there | exact hr.there.there.there.there.there.there.there.there.there.there | exact hr.there.there.there.there.there.there.there.there.there.there.there | exact hr.there.there.there.there.there.there.there.there.there.there.there.there | exact hr.there.there.there.there.there.there.there.there.there.there.there.there.there) rfl ?_
        refine OT.nil ?_
        refine KT.any ?_
        refine AT.op (fuel := 3) 2 (by kernel_rfl) rfl (by repeat (first | exact Sel.refl _ | refine Sel.empty ?_ | refine Sel.pull (by repeat (first | exact Pull.head | apply Pull.tail)) ?_ | refine Sel.drop ?_)) ?_
        refine OT.call Try.call16 rfl rfl rfl rfl (ref_CatBytes (by first | exact ho7.row | exact ho7.row.there | exact ho7.row.there.there | exact ho7.row.there.there.there | exact ho7.row.there.there.there.there | exact ho7.row.there.there.there.there.there | exact ho7.row.there.there.there.there.there.there | exact ho7.row.there.there.there.there.there.there.there | exact ho7.row.there.there.there.there.there.there.there.there | exact ho7.row.there.there.there.there.there.there.there.there.there | exact ho7.row.there.there.there.there.there.there.there.there.there.there | exact ho7.row.there.there.there.there.there.there.there.there.there.there.there | exact ho7.row.there.there.there.there.there.there.there.there.there.there.there.there | exact ho7.row.there.there.there.there.there.there.there.there.there.there.there.there.there) (by omega)) ?_
        rintro v_27 hs_27 ⟨H27, rfl, ho27⟩
        refine OT.nil ?_
        refine KT.any ?_
        refine AT.op (fuel := 2) 3 (by kernel_rfl) rfl (by repeat (first | exact Sel.refl _ | refine Sel.empty ?_ | refine Sel.pull (by repeat (first | exact Pull.head | apply Pull.tail)) ?_ | refine Sel.drop ?_)) ?_
        refine OT.conv_bs (fun _ => rfl) hT rfl rfl rfl rfl rfl (by first | exact ho27.row | exact ho27.row.there | exact ho27.row.there.there | exact ho27.row.there.there.there | exact ho27.row.there.there.there.there | exact ho27.row.there.there.there.there.there | exact ho27.row.there.there.there.there.there.there | exact ho27.row.there.there.there.there.there.there.there | exact ho27.row.there.there.there.there.there.there.there.there | exact ho27.row.there.there.there.there.there.there.there.there.there | exact ho27.row.there.there.there.there.there.there.there.there.there.there | exact ho27.row.there.there.there.there.there.there.there.there.there.there.there | exact ho27.row.there.there.there.there.there.there.there.there.there.there.there.there | exact ho27.row.there.there.there.there.there.there.there.there.there.there.there.there.there) rfl ?_
        rw [bytes_eq h35, hb]
        refine OT.nil ?_
        refine KT.any ?_
        refine AT.takes (fuel := 0) hT [6, 7] (by kernel_rfl) (by kernel_rfl) rfl ?_
        refine AT.done (by kernel_rfl) (by repeat (first | exact Sel.refl _ | refine Sel.empty ?_ | refine Sel.pull (by repeat (first | exact Pull.head | apply Pull.tail)) ?_ | refine Sel.drop ?_)) ?_
        refine KT.seq ?_
        refine TT.ret ?_
        refine RT.of (rs := [.tmp 2]) [_] hs rfl (.tmp rfl .nil) (by repeat (first | exact Sel.refl _ | refine Sel.empty ?_ | refine Sel.pull (by repeat (first | exact Pull.head | apply Pull.tail)) ?_ | refine Sel.drop ?_)) ?_
        dsimp only [one]
        exact ⟨by simp; rfl, rfl⟩
    ·
      refine ⟨_, rfl, ?_⟩
      refine OT.conv_bs (fun _ => rfl) hT rfl rfl rfl rfl rfl (by first | exact hr | exact hr.there | exact hr.there.there | exact hr.there.there.there | exact hr.there.there.there.there | exact hr.there.there.there.there.there | exact hr.there.there.there.there.there.there | exact hr.there.there.there.there.there.there.there | exact hr.there.there.there.there.there.there.there.there | exact hr.there.there.there.there.there.there.there.there.there | exact hr.there.there.there.there.there.there.there.there.there.there | exact hr.there.there.there.there.there.there.there.there.there.there.there | exact hr.there.there.there.there.there.there.there.there.there.there.there.there | exact hr.there.there.there.there.there.there.there.there.there.there.there.there.there) rfl ?_
      refine OT.nil ?_
      refine KT.any ?_
      refine AT.op (fuel := 4) 1 (by kernel_rfl) rfl (by repeat (first | exact Sel.refl _ | refine Sel.empty ?_ | refine Sel.pull (by repeat (first | exact Pull.head | apply Pull.tail)) ?_ | refine Sel.drop ?_)) ?_
      refine OT.call Try.call25 rfl rfl rfl rfl (law20_Back) ?_
      rintro v_26 hs_26 ⟨rfl, rfl⟩
      refine OT.nil ?_
      refine KT.any ?_
      refine AT.op (fuel := 3) 2 (by kernel_rfl) rfl (by repeat (first | exact Sel.refl _ | refine Sel.empty ?_ | refine Sel.pull (by repeat (first | exact Pull.head | apply Pull.tail)) ?_ | refine Sel.drop ?_)) ?_
      refine OT.call Try.call16 rfl rfl rfl rfl (ref_CatBytes (by first | exact ho7.row | exact ho7.row.there | exact ho7.row.there.there | exact ho7.row.there.there.there | exact ho7.row.there.there.there.there | exact ho7.row.there.there.there.there.there | exact ho7.row.there.there.there.there.there.there | exact ho7.row.there.there.there.there.there.there.there | exact ho7.row.there.there.there.there.there.there.there.there | exact ho7.row.there.there.there.there.there.there.there.there.there | exact ho7.row.there.there.there.there.there.there.there.there.there.there | exact ho7.row.there.there.there.there.there.there.there.there.there.there.there | exact ho7.row.there.there.there.there.there.there.there.there.there.there.there.there | exact ho7.row.there.there.there.there.there.there.there.there.there.there.there.there.there) (by omega)) ?_
      rintro v_27 hs_27 ⟨H27, rfl, ho27⟩
      refine OT.nil ?_
      refine KT.any ?_
      refine AT.op (fuel := 2) 3 (by kernel_rfl) rfl (by repeat (first | exact Sel.refl _ | refine Sel.empty ?_ | refine Sel.pull (by repeat (first | exact Pull.head | apply Pull.tail)) ?_ | refine Sel.drop ?_)) ?_
      refine OT.conv_bs (fun _ => rfl) hT rfl rfl rfl rfl rfl (by first | exact ho27.row | exact ho27.row.there | exact ho27.row.there.there | exact ho27.row.there.there.there | exact ho27.row.there.there.there.there | exact ho27.row.there.there.there.there.there | exact ho27.row.there.there.there.there.there.there | exact ho27.row.there.there.there.there.there.there.there | exact ho27.row.there.there.there.there.there.there.there.there | exact ho27.row.there.there.there.there.there.there.there.there.there | exact ho27.row.there.there.there.there.there.there.there.there.there.there | exact ho27.row.there.there.there.there.there.there.there.there.there.there.there | exact ho27.row.there.there.there.there.there.there.there.there.there.there.there.there | exact ho27.row.there.there.there.there.there.there.there.there.there.there.there.there.there) rfl ?_
      rw [bytes_eq h35, hb]
      refine OT.nil ?_
      refine KT.any ?_
      refine AT.takes (fuel := 0) hT [6, 7] (by kernel_rfl) (by kernel_rfl) rfl ?_
      refine AT.done (by kernel_rfl) (by repeat (first | exact Sel.refl _ | refine Sel.empty ?_ | refine Sel.pull (by repeat (first | exact Pull.head | apply Pull.tail)) ?_ | refine Sel.drop ?_)) ?_
      refine KT.seq ?_
      refine TT.ret ?_
      refine RT.of (rs := [.tmp 2]) [_] hs rfl (.tmp rfl .nil) (by repeat (first | exact Sel.refl _ | refine Sel.empty ?_ | refine Sel.pull (by repeat (first | exact Pull.head | apply Pull.tail)) ?_ | refine Sel.drop ?_)) ?_
      dsimp only [one]
      exact ⟨by simp; rfl, rfl⟩

set_option maxHeartbeats 8000000 in
set_option maxRecDepth 100000 in
theorem law20_begun {hs : List Chunk} : Fun Try.prog 9 [] hs (fun v' hs' => v' = .bool true ∧ hs = hs') := by
  refine Fun.enter 153 Try.func9 rfl Try.ntmps9 rfl ?_
  refine TT.seq ?_
  refine TT.region ?_
  refine OT.pures hT 1 rfl ?_
  refine OT.nil ?_
  refine KT.seq ?_
  refine TT.seq ?_
  refine TT.region ?_
  refine OT.alloc Try.zeroValue33 rfl rfl (fun b_1 => ?_)
  refine OT.nil ?_
  refine KT.seq ?_
  refine TT.seq ?_
  refine TT.region ?_
  refine OT.load rfl rfl (Ld.struct_all hT rfl (by repeat (first | exact Has.one | apply Has.there)) rfl) rfl ?_
  refine OT.call Try.call31 rfl rfl rfl rfl (cat_Add (xs := []) (nm := ⟨#[97]⟩) Row.nil (by decide) (by decide)) ?_
  rintro v_20 hs_20 ⟨w20, H20, rfl, rfl, ho20⟩
  rw [add1] at ho20 ⊢
  dsimp only at ho20 ⊢
  obtain ⟨a20, c20, hv20⟩ := (ho20.row (hs := hs)).len
  subst hv20
  refine OT.pures hT 3 rfl ?_
  refine OT.alloc Try.zeroValue33 rfl rfl (fun b_2 => ?_)
  refine OT.store_all hT rfl rfl rfl rfl (by repeat (first | exact Pull.head | apply Pull.tail)) rfl rfl rfl (.inl (Nat.le_refl _)) ?_
  refine OT.pures hT 1 rfl ?_
  refine OT.nil ?_
  refine KT.seq ?_
  refine TT.seq ?_
  refine TT.region ?_
  refine OT.load rfl rfl (Ld.struct_all hT rfl (by repeat (first | exact Has.one | apply Has.there)) rfl) rfl ?_
  refine OT.call Try.call31 rfl rfl rfl rfl (cat_Add (nm := ⟨#[98]⟩) (by first | exact ho20.row | exact ho20.row.there | exact ho20.row.there.there | exact ho20.row.there.there.there | exact ho20.row.there.there.there.there | exact ho20.row.there.there.there.there.there | exact ho20.row.there.there.there.there.there.there | exact ho20.row.there.there.there.there.there.there.there | exact ho20.row.there.there.there.there.there.there.there.there | exact ho20.row.there.there.there.there.there.there.there.there.there | exact ho20.row.there.there.there.there.there.there.there.there.there.there | exact ho20.row.there.there.there.there.there.there.there.there.there.there.there | exact ho20.row.there.there.there.there.there.there.there.there.there.there.there.there | exact ho20.row.there.there.there.there.there.there.there.there.there.there.there.there.there) (by decide) (by decide)) ?_
  rintro v_25 hs_25 ⟨w25, H25, rfl, rfl, ho25⟩
  rw [add2] at ho25 ⊢
  dsimp only at ho25 ⊢
  obtain ⟨a25, c25, hv25⟩ := (ho25.row (hs := hs)).len
  subst hv25
  refine OT.pures hT 3 rfl ?_
  refine OT.alloc Try.zeroValue33 rfl rfl (fun b_4 => ?_)
  refine OT.store_all hT rfl rfl rfl rfl (by repeat (first | exact Pull.head | apply Pull.tail)) rfl rfl rfl (.inl (Nat.le_refl _)) ?_
  refine OT.pures hT 1 rfl ?_
  refine OT.nil ?_
  refine KT.seq ?_
  refine TT.seq ?_
  refine TT.region ?_
  refine OT.load rfl rfl (Ld.struct_all hT rfl (by repeat (first | exact Has.one | apply Has.there)) rfl) rfl ?_
  refine OT.call Try.call31 rfl rfl rfl rfl (cat_Add (nm := ⟨#[97]⟩) (by first | exact ho25.row | exact ho25.row.there | exact ho25.row.there.there | exact ho25.row.there.there.there | exact ho25.row.there.there.there.there | exact ho25.row.there.there.there.there.there | exact ho25.row.there.there.there.there.there.there | exact ho25.row.there.there.there.there.there.there.there | exact ho25.row.there.there.there.there.there.there.there.there | exact ho25.row.there.there.there.there.there.there.there.there.there | exact ho25.row.there.there.there.there.there.there.there.there.there.there | exact ho25.row.there.there.there.there.there.there.there.there.there.there.there | exact ho25.row.there.there.there.there.there.there.there.there.there.there.there.there | exact ho25.row.there.there.there.there.there.there.there.there.there.there.there.there.there) (by decide) (by decide)) ?_
  rintro v_30 hs_30 ⟨w30, H30, rfl, rfl, ho30⟩
  rw [add3] at ho30 ⊢
  dsimp only at ho30 ⊢
  obtain ⟨a30, c30, hv30⟩ := (ho30.row (hs := hs)).len
  subst hv30
  refine OT.pures hT 3 rfl ?_
  refine OT.alloc Try.zeroValue33 rfl rfl (fun b_6 => ?_)
  refine OT.store_all hT rfl rfl rfl rfl (by repeat (first | exact Pull.head | apply Pull.tail)) rfl rfl rfl (.inl (Nat.le_refl _)) ?_
  refine OT.pures hT 1 rfl ?_
  refine OT.nil ?_
  refine KT.seq ?_
  refine TT.seq ?_
  refine TT.region ?_
  refine OT.load rfl rfl (Ld.struct_all hT rfl (by repeat (first | exact Has.one | apply Has.there)) rfl) rfl ?_
  refine OT.call Try.call30 rfl rfl rfl rfl (cat_Drop (nm := ⟨#[97]⟩) (by first | exact ho25.row | exact ho25.row.there | exact ho25.row.there.there | exact ho25.row.there.there.there | exact ho25.row.there.there.there.there | exact ho25.row.there.there.there.there.there | exact ho25.row.there.there.there.there.there.there | exact ho25.row.there.there.there.there.there.there.there | exact ho25.row.there.there.there.there.there.there.there.there | exact ho25.row.there.there.there.there.there.there.there.there.there | exact ho25.row.there.there.there.there.there.there.there.there.there.there | exact ho25.row.there.there.there.there.there.there.there.there.there.there.there | exact ho25.row.there.there.there.there.there.there.there.there.there.there.there.there | exact ho25.row.there.there.there.there.there.there.there.there.there.there.there.there.there) (by decide)) ?_
  rintro v_35 hs_35 ⟨w35, H35, rfl, rfl, ho35⟩
  rw [drop1] at ho35 ⊢
  dsimp only at ho35 ⊢
  obtain ⟨a35, c35, hv35⟩ := (ho35.row (hs := hs)).len
  subst hv35
  refine OT.pures hT 3 rfl ?_
  refine OT.alloc Try.zeroValue33 rfl rfl (fun b_8 => ?_)
  refine OT.store_all hT rfl rfl rfl rfl (by repeat (first | exact Pull.head | apply Pull.tail)) rfl rfl rfl (.inl (Nat.le_refl _)) ?_
  refine OT.pures hT 1 rfl ?_
  refine OT.nil ?_
  refine KT.seq ?_
  refine TT.seq ?_
  refine TT.region ?_
  refine OT.load rfl rfl (Ld.struct_all hT rfl (by repeat (first | exact Has.one | apply Has.there)) rfl) rfl ?_
  refine OT.call Try.call13 rfl rfl rfl rfl (cat_Encode (by first | exact ho35.row | exact ho35.row.there | exact ho35.row.there.there | exact ho35.row.there.there.there | exact ho35.row.there.there.there.there | exact ho35.row.there.there.there.there.there | exact ho35.row.there.there.there.there.there.there | exact ho35.row.there.there.there.there.there.there.there | exact ho35.row.there.there.there.there.there.there.there.there | exact ho35.row.there.there.there.there.there.there.there.there.there | exact ho35.row.there.there.there.there.there.there.there.there.there.there | exact ho35.row.there.there.there.there.there.there.there.there.there.there.there | exact ho35.row.there.there.there.there.there.there.there.there.there.there.there.there | exact ho35.row.there.there.there.there.there.there.there.there.there.there.there.there.there) (by decide)) ?_
  rintro v_40 hs_40 ⟨w40, H40, rfl, rfl, ho40⟩
  rw [enc1] at ho40 ⊢
  dsimp only at ho40 ⊢
  obtain ⟨a40, c40, hv40⟩ := (ho40.row (hs := hs)).len
  subst hv40
  rw [len1]
  refine OT.pures hT 5 rfl ?_
  refine OT.nil ?_
  refine KT.seq ?_
  refine TT.seq ?_
  refine TT.region ?_
  refine OT.pures hT 1 rfl ?_
  refine OT.call Try.call19 rfl rfl rfl rfl (cat_Decode (by first | exact (len1 ▸ ho40.row) | exact (len1 ▸ ho40.row).there | exact (len1 ▸ ho40.row).there.there | exact (len1 ▸ ho40.row).there.there.there | exact (len1 ▸ ho40.row).there.there.there.there | exact (len1 ▸ ho40.row).there.there.there.there.there | exact (len1 ▸ ho40.row).there.there.there.there.there.there | exact (len1 ▸ ho40.row).there.there.there.there.there.there.there | exact (len1 ▸ ho40.row).there.there.there.there.there.there.there.there | exact (len1 ▸ ho40.row).there.there.there.there.there.there.there.there.there | exact (len1 ▸ ho40.row).there.there.there.there.there.there.there.there.there.there | exact (len1 ▸ ho40.row).there.there.there.there.there.there.there.there.there.there.there | exact (len1 ▸ ho40.row).there.there.there.there.there.there.there.there.there.there.there.there | exact (len1 ▸ ho40.row).there.there.there.there.there.there.there.there.there.there.there.there.there) (by rw [len1]; decide)) ?_
  rintro v_45 hs_45 ⟨w45, H45, rfl, rfl, ho45⟩
  rw [dec1] at ho45 ⊢
  dsimp only at ho45 ⊢
  obtain ⟨a45, c45, hv45⟩ := (ho45.row (hs := hs)).len
  subst hv45
  refine OT.pures hT 3 rfl ?_
  refine OT.alloc Try.zeroValue33 rfl rfl (fun b_12 => ?_)
  refine OT.store_all hT rfl rfl rfl rfl (by repeat (first | exact Pull.head | apply Pull.tail)) rfl rfl rfl (.inl (Nat.le_refl _)) ?_
  refine OT.pures hT 1 rfl ?_
  refine OT.nil ?_
  refine KT.seq ?_
  refine TT.seq ?_
  refine TT.region ?_
  refine OT.make (enc := Go.Sx.encB) (z0 := (0 : UInt8)) (n := 256) el29 Try.zeroValue5 rfl rfl rfl rfl rfl (by decide) rfl (fun v_49 H_49 ho_49 => ?_)
  refine OT.call Try.call19 rfl rfl rfl rfl (cat_Decode (xs := List.replicate 256 0) (by first | exact ho_49.row | exact ho_49.row.there | exact ho_49.row.there.there | exact ho_49.row.there.there.there | exact ho_49.row.there.there.there.there | exact ho_49.row.there.there.there.there.there | exact ho_49.row.there.there.there.there.there.there | exact ho_49.row.there.there.there.there.there.there.there | exact ho_49.row.there.there.there.there.there.there.there.there | exact ho_49.row.there.there.there.there.there.there.there.there.there | exact ho_49.row.there.there.there.there.there.there.there.there.there.there | exact ho_49.row.there.there.there.there.there.there.there.there.there.there.there | exact ho_49.row.there.there.there.there.there.there.there.there.there.there.there.there | exact ho_49.row.there.there.there.there.there.there.there.there.there.there.there.there.there) (by rw [List.length_replicate]; decide)) ?_
  rintro v_50 hs_50 ⟨w50, H50, rfl, rfl, ho50⟩
  rw [dec0] at ho50 ⊢
  dsimp only at ho50 ⊢
  obtain ⟨a50, c50, hv50⟩ := (ho50.row (hs := hs)).len
  subst hv50
  refine OT.pures hT 3 rfl ?_
  refine OT.alloc Try.zeroValue33 rfl rfl (fun b_14 => ?_)
  refine OT.store_all hT rfl rfl rfl rfl (by repeat (first | exact Pull.head | apply Pull.tail)) rfl rfl rfl (.inl (Nat.le_refl _)) ?_
  refine OT.pures hT 1 rfl ?_
  refine OT.nil ?_
  refine KT.seq ?_
  refine TT.seq ?_
  refine TT.region ?_
  refine OT.load rfl rfl (Ld.struct_all hT rfl (by repeat (first | exact Has.one | apply Has.there)) rfl) rfl ?_
  refine OT.call Try.call20 rfl rfl rfl rfl (cat_Take (by first | exact ho35.row | exact ho35.row.there | exact ho35.row.there.there | exact ho35.row.there.there.there | exact ho35.row.there.there.there.there | exact ho35.row.there.there.there.there.there | exact ho35.row.there.there.there.there.there.there | exact ho35.row.there.there.there.there.there.there.there | exact ho35.row.there.there.there.there.there.there.there.there | exact ho35.row.there.there.there.there.there.there.there.there.there | exact ho35.row.there.there.there.there.there.there.there.there.there.there | exact ho35.row.there.there.there.there.there.there.there.there.there.there.there | exact ho35.row.there.there.there.there.there.there.there.there.there.there.there.there | exact ho35.row.there.there.there.there.there.there.there.there.there.there.there.there.there) (by decide)) ?_
  rintro v_55 hs_55 ⟨rfl, rfl⟩
  rw [take1]
  refine OT.pures hT 5 rfl ?_
  refine OT.nil ?_
  refine KT.seq ?_
  refine TT.seq ?_
  refine TT.region ?_
  refine OT.pures hT 3 rfl ?_
  refine OT.split 60 rfl (fun g60 => ?_) (fun g60 => ?_)
  ·
    refine OT.pures hT 4 rfl ?_
    refine OT.split 64 rfl (fun g64 => ?_) (fun g64 => ?_)
    ·
      refine OT.pures hT 4 rfl ?_
      refine OT.split 68 rfl (fun g68 => ?_) (fun g68 => ?_)
      ·
        refine OT.pures hT 4 rfl ?_
        refine OT.split 72 rfl (fun g72 => ?_) (fun g72 => ?_)
        ·
          refine OT.load rfl rfl (Ld.struct_all hT rfl (by repeat (first | exact Has.one | apply Has.there)) rfl) rfl ?_
          refine OT.call Try.call26 rfl rfl rfl rfl (cat_Find (nm := ⟨#[98]⟩) (by first | exact ho35.row | exact ho35.row.there | exact ho35.row.there.there | exact ho35.row.there.there.there | exact ho35.row.there.there.there.there | exact ho35.row.there.there.there.there.there | exact ho35.row.there.there.there.there.there.there | exact ho35.row.there.there.there.there.there.there.there | exact ho35.row.there.there.there.there.there.there.there.there | exact ho35.row.there.there.there.there.there.there.there.there.there | exact ho35.row.there.there.there.there.there.there.there.there.there.there | exact ho35.row.there.there.there.there.there.there.there.there.there.there.there | exact ho35.row.there.there.there.there.there.there.there.there.there.there.there.there | exact ho35.row.there.there.there.there.there.there.there.there.there.there.there.there.there) (by decide)) ?_
          rintro v_74 hs_74 ⟨rfl, rfl⟩
          rw [findb]
          refine OT.pures hT 3 rfl ?_
          refine OT.split 77 rfl (fun g77 => ?_) (fun g77 => ?_)
          ·
            refine OT.load rfl rfl (Ld.struct_all hT rfl (by repeat (first | exact Has.one | apply Has.there)) rfl) rfl ?_
            refine OT.call Try.call26 rfl rfl rfl rfl (cat_Find (nm := ⟨#[97]⟩) (by first | exact ho35.row | exact ho35.row.there | exact ho35.row.there.there | exact ho35.row.there.there.there | exact ho35.row.there.there.there.there | exact ho35.row.there.there.there.there.there | exact ho35.row.there.there.there.there.there.there | exact ho35.row.there.there.there.there.there.there.there | exact ho35.row.there.there.there.there.there.there.there.there | exact ho35.row.there.there.there.there.there.there.there.there.there | exact ho35.row.there.there.there.there.there.there.there.there.there.there | exact ho35.row.there.there.there.there.there.there.there.there.there.there.there | exact ho35.row.there.there.there.there.there.there.there.there.there.there.there.there | exact ho35.row.there.there.there.there.there.there.there.there.there.there.there.there.there) (by decide)) ?_
            rintro v_79 hs_79 ⟨rfl, rfl⟩
            rw [finda]
            refine OT.pures hT 3 rfl ?_
            refine OT.split 82 rfl (fun g82 => ?_) (fun g82 => ?_)
            ·
              refine OT.pures hT 4 rfl ?_
              refine OT.split 86 rfl (fun g86 => ?_) (fun g86 => ?_)
              ·
                refine OT.pures hT 5 rfl ?_
                refine OT.split 91 rfl (fun g91 => ?_) (fun g91 => ?_)
                ·
                  refine OT.pures hT 4 rfl ?_
                  refine OT.split 95 rfl (fun g95 => ?_) (fun g95 => ?_)
                  ·
                    refine OT.pures hT 1 rfl ?_
                    refine OT.load rfl rfl (Ld.one hT rfl (by repeat (first | exact Has.one | apply Has.there)) rfl) rfl ?_
                    refine OT.pures hT 3 rfl ?_
                    refine OT.split 100 rfl (fun g100 => ?_) (fun g100 => ?_)
                    ·
                      refine OT.pures hT 1 rfl ?_
                      refine OT.load rfl rfl (Ld.slc hT rfl (by repeat (first | exact Has.one | apply Has.there)) rfl) rfl ?_
                      refine OT.pures hT 4 rfl ?_
                      refine OT.split 106 rfl (fun g106 => ?_) (fun g106 => ?_)
                      ·
                        refine OT.pures hT 1 rfl ?_
                        refine OT.load rfl rfl (Ld.slc hT rfl (by repeat (first | exact Has.one | apply Has.there)) rfl) rfl ?_
                        refine OT.index hT rfl rfl rfl rfl (by first | exact ho45.row | exact ho45.row.there | exact ho45.row.there.there | exact ho45.row.there.there.there | exact ho45.row.there.there.there.there | exact ho45.row.there.there.there.there.there | exact ho45.row.there.there.there.there.there.there | exact ho45.row.there.there.there.there.there.there.there | exact ho45.row.there.there.there.there.there.there.there.there | exact ho45.row.there.there.there.there.there.there.there.there.there | exact ho45.row.there.there.there.there.there.there.there.there.there.there | exact ho45.row.there.there.there.there.there.there.there.there.there.there.there | exact ho45.row.there.there.there.there.there.there.there.there.there.there.there.there | exact ho45.row.there.there.there.there.there.there.there.there.there.there.there.there.there) (by omega) rfl rfl (fun ad_109 hel_109 => ?_)
                        obtain ⟨eb_109, eo_109, rfl, hfld_109⟩ := hel_109.at (P := Try.prog)
                        refine OT.pures hT 1 rfl ?_
                        refine OT.load rfl rfl (hfld_109 hT rfl rfl) rfl ?_
                        refine OT.pures hT 3 rfl ?_
                        refine OT.split 114 rfl (fun g114 => ?_) (fun g114 => ?_)
                        ·
                          refine OT.pures hT 4 rfl ?_
                          refine OT.split 118 rfl (fun g118 => ?_) (fun g118 => ?_)
                          ·
                            refine OT.pures hT 1 rfl ?_
                            refine OT.load rfl rfl (Ld.one hT rfl (by repeat (first | exact Has.one | apply Has.there)) rfl) rfl ?_
                            refine OT.pures hT 3 rfl ?_
                            refine OT.split 123 rfl (fun g123 => ?_) (fun g123 => ?_)
                            ·
                              refine OT.pures hT 4 rfl ?_
                              refine OT.split 127 rfl (fun g127 => ?_) (fun g127 => ?_)
                              ·
                                refine OT.pures hT 3 rfl ?_
                                refine OT.split 130 rfl (fun g130 => ?_) (fun g130 => ?_)
                                ·
                                  refine OT.load rfl rfl (Ld.struct_all hT rfl (by repeat (first | exact Has.one | apply Has.there)) rfl) rfl ?_
                                  refine OT.call Try.call22 rfl rfl rfl rfl (cat_Copies (by first | exact ho35.row | exact ho35.row.there | exact ho35.row.there.there | exact ho35.row.there.there.there | exact ho35.row.there.there.there.there | exact ho35.row.there.there.there.there.there | exact ho35.row.there.there.there.there.there.there | exact ho35.row.there.there.there.there.there.there.there | exact ho35.row.there.there.there.there.there.there.there.there | exact ho35.row.there.there.there.there.there.there.there.there.there | exact ho35.row.there.there.there.there.there.there.there.there.there.there | exact ho35.row.there.there.there.there.there.there.there.there.there.there.there | exact ho35.row.there.there.there.there.there.there.there.there.there.there.there.there | exact ho35.row.there.there.there.there.there.there.there.there.there.there.there.there.there) (by decide)) ?_
                                  rintro v_132 hs_132 ⟨H132, rfl, ho132⟩
                                  rw [cop1] at ho132
                                  obtain ⟨a132, c132, hv132⟩ := (ho132.row (hs := hs)).len
                                  subst hv132
                                  refine OT.pures hT 4 rfl ?_
                                  refine OT.split 136 rfl (fun g136 => ?_) (fun g136 => ?_)
                                  ·
                                    refine OT.load rfl rfl (Ld.struct_all hT rfl (by repeat (first | exact Has.one | apply Has.there)) rfl) rfl ?_
                                    refine OT.call Try.call15 rfl rfl rfl rfl (cat_May (by first | exact ho35.row | exact ho35.row.there | exact ho35.row.there.there | exact ho35.row.there.there.there | exact ho35.row.there.there.there.there | exact ho35.row.there.there.there.there.there | exact ho35.row.there.there.there.there.there.there | exact ho35.row.there.there.there.there.there.there.there | exact ho35.row.there.there.there.there.there.there.there.there | exact ho35.row.there.there.there.there.there.there.there.there.there | exact ho35.row.there.there.there.there.there.there.there.there.there.there | exact ho35.row.there.there.there.there.there.there.there.there.there.there.there | exact ho35.row.there.there.there.there.there.there.there.there.there.there.there.there | exact ho35.row.there.there.there.there.there.there.there.there.there.there.there.there.there) (by decide)) ?_
                                    rintro v_138 hs_138 ⟨rfl, rfl⟩
                                    rw [mayB1]
                                    refine OT.pures hT 2 rfl ?_
                                    refine OT.split 140 rfl (fun g140 => ?_) (fun g140 => ?_)
                                    ·
                                      refine OT.call Try.call17 rfl rfl rfl rfl (cat_Name (s := ⟨#[97]⟩)) ?_
                                      rintro v_141 hs_141 ⟨rfl, rfl⟩
                                      rw [namea]
                                      refine OT.pures hT 2 rfl ?_
                                      refine OT.split 143 rfl (fun g143 => ?_) (fun g143 => ?_)
                                      ·
                                        refine OT.call Try.call17 rfl rfl rfl rfl (cat_Name (s := ⟨#[]⟩)) ?_
                                        rintro v_144 hs_144 ⟨rfl, rfl⟩
                                        rw [name0]
                                        refine OT.pures hT 3 rfl ?_
                                        refine OT.split 147 rfl (fun g147 => ?_) (fun g147 => ?_)
                                        ·
                                          refine OT.pures hT 1 rfl ?_
                                          refine OT.load rfl rfl (Ld.slc hT rfl (by repeat (first | exact Has.one | apply Has.there)) rfl) rfl ?_
                                          refine OT.pures hT 4 rfl ?_
                                          refine OT.nil ?_
                                          refine KT.seq ?_
                                          refine TT.ret ?_
                                          refine RT.of (rs := [.tmp 0]) [_] hs rfl (.tmp rfl .nil) (by repeat (first | exact Sel.refl _ | refine Sel.empty ?_ | refine Sel.pull (by repeat (first | exact Pull.head | apply Pull.tail)) ?_ | refine Sel.drop ?_)) ?_
                                          dsimp only [one]
                                          exact ⟨rfl, rfl⟩
                                        ·
                                          exact absurd g147 (by decide)
                                      ·
                                        exact absurd g143 (by decide)
                                    ·
                                      exact absurd g140 (by decide)
                                  ·
                                    exact absurd g136 (by decide)
                                ·
                                  exact absurd g130 (by decide)
                              ·
                                exact absurd g127 (by decide)
                            ·
                              exact absurd g123 (by decide)
                          ·
                            exact absurd g118 (by decide)
                        ·
                          exact absurd g114 (by decide)
                      ·
                        exact absurd g106 (by decide)
                    ·
                      exact absurd g100 (by decide)
                  ·
                    exact absurd g95 (by decide)
                ·
                  exact absurd g91 (by decide)
              ·
                exact absurd g86 (by decide)
            ·
              exact absurd g82 (by decide)
          ·
            exact absurd g77 (by decide)
        ·
          exact absurd g72 (by decide)
      ·
        exact absurd g68 (by decide)
    ·
      exact absurd g64 (by decide)
  ·
    exact absurd g60 (by decide)

end Go.Proofs.Ytpijialhhdpobaa.Sx
