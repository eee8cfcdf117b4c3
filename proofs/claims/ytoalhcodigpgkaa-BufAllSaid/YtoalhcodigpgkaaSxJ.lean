/- Slices cut and cleared in place. No program in sight. -/
import Derived.Test.YtoalhcodigpgkaaSxI
namespace Go.Sx
open Go
variable [Outer]
section
variable {X : Cx} {k : Kont} {R : Reg} {hs : List Chunk} {ops : Array Oper} {l : List Oper} {T : Tab} {d ty' : Nat} {pos : String} {after : Array Edge} {gd : Option (Nat × Bool)}
  {α : Type} {enc : α → List Value} {sz e t : Nat}

omit [Outer] in
theorem Own.take {a : Option Addr} {n c : Nat} {xs : List α} {H : Chunk} (h : Own enc sz e (.slice a n c) xs H) {m : Nat} (hm : m ≤ xs.length) : Own enc sz e (.slice a m c) (xs.take m) H := by
  refine ⟨fun x hx => h.1 x (List.mem_of_mem_take hx), ?_⟩
  rcases h.2 with ⟨hv, hx, hH⟩ | ⟨b, cap, pre, sp, fr, hv, hH, hc, hsp, hth⟩
  · injection hv with e1 e2 e3
    subst hx
    have : m = 0 := by simpa using hm
    subst this; subst e1; subst e3
    exact .inl ⟨rfl, rfl, hH⟩
  · injection hv with e1 e2 e3
    subst e1; subst e3
    have hl : (xs.take m).length = m := by rw [List.length_take]; omega
    have hsplit : xs.flatMap enc = (xs.take m).flatMap enc ++ (xs.drop m).flatMap enc := by rw [← List.flatMap_append, List.take_append_drop]
    have hdl : ((xs.drop m).flatMap enc).length = (xs.length - m) * sz := by rw [length_flatMap_enc (fun x hx => h.1 x (List.mem_of_mem_drop hx)), List.length_drop]
    refine .inr ⟨b, c, pre, (xs.drop m).flatMap enc ++ sp, fr, by rw [hl], ?_, by omega, ?_, ?_⟩
    · rw [hH, hsplit]; simp only [List.append_assoc]
    · rw [hl, List.length_append, hdl, show c - m = (xs.length - m) + (c - xs.length) from by omega, Nat.add_mul]
      omega
    · rw [hsplit] at hth
      simpa only [List.append_assoc] using hth
omit [Outer] in
theorem Own.cap {a : Option Addr} {n c : Nat} {xs : List α} {H : Chunk} (h : Own enc sz e (.slice a n c) xs H) : n = xs.length ∧ xs.length ≤ c := by
  rcases h.2 with ⟨hv, hx, hH⟩ | ⟨b, cap, pre, sp, fr, hv, hH, hc, hsp, hth⟩
  · injection hv with e1 e2 e3
    subst hx
    exact ⟨by simpa using e2, by simp⟩
  · injection hv with e1 e2 e3
    exact ⟨e2, by omega⟩

/-- x[l:h] with its value told -/
theorem OT.slice_val {x : Operand} {lo hi : Option Operand} {a : Option Addr} {n c : Nat} {vl vh : Option Value} (L H : Nat) (hT : T.ok X.P) (ht : ty T t = some (.slice e sz)) (hg : grd ops R gd = some true) (hx : ev R x = some (.slice a n c))
    (hlo : evo R lo = some vl) (hhi : evo R hi = some vh) (hL : bnd vl 0 L) (hH : bnd vh n H) (h1 : L ≤ H) (h2 : H ≤ c) (hdn : Nat.ble (d + 1) X.n = true)
    (h : OT X ops l k ((d, .slice (if c = L then a else a.map (·.add (L * sz))) (H - L) (c - L)) :: R) hs) : OT X ops (⟨some d, .slice t x lo hi none, ty', pos, after, gd⟩ :: l) k R hs := by
  refine OT.value hg rfl hdn fun ac w ha hm => ⟨_, hs, w, ?_, hm, h⟩
  simp only [execOp, ha.ev hx, ha.evo hlo, ha.evo hhi, Option.map_none]
  have := slice_run (hT.ty ht).1 (hT.ty ht).2.1 a n c vl vh L H hL hH h1 h2 w
  simp [this]
/-- x[:h]: a slice that is owned stays so -/
theorem OT.slice_to {x y : Operand} {a : Option Addr} {c : Nat} {ky : IntKind} {xs : List α} {H : Chunk} (h' : Nat) (hT : T.ok X.P) (ht : ty T t = some (.slice e sz)) (hg : grd ops R gd = some true) (hx : ev R x = some (.slice a xs.length c))
    (hy : ev R y = some (.int ky h')) (hown : Own enc sz e (.slice a xs.length c) xs H) (h2 : h' ≤ xs.length) (hdn : Nat.ble (d + 1) X.n = true)
    (h : Own enc sz e (.slice a h' c) (xs.take h') H → OT X ops l k ((d, .slice a h' c) :: R) hs) : OT X ops (⟨some d, .slice t x none (some y) none, ty', pos, after, gd⟩ :: l) k R hs := by
  have hc := hown.cap.2
  refine OT.slice_val 0 h' hT ht hg hx (vl := none) rfl (vh := some (.int ky h')) (by simp only [evo, hy]) (.inl ⟨rfl, rfl⟩) (.inr ⟨_, rfl⟩) (by omega) (by omega) hdn ?_
  have e1 : (if c = 0 then a else a.map (·.add (0 * sz))) = a := by
    split
    · rfl
    · cases a <;> simp [Addr.add]
  rw [e1, Nat.sub_zero, Nat.sub_zero]
  exact h (hown.take h2)
/-- x[l:h:m], its value of no matter -/
theorem OT.slice3 {x y z u : Operand} {v : Value} {xs : List α} {ky kz ku : IntKind} (L H M : Nat) (hT : T.ok X.P) (ht : ty T t = some (.slice e sz)) (hg : grd ops R gd = some true) (hx : ev R x = some v) (hrow : Row enc sz hs v xs)
    (hy : ev R y = some (.int ky L)) (hz : ev R z = some (.int kz H)) (hu : ev R u = some (.int ku M)) (h1 : L ≤ H) (h2 : H ≤ M) (h3 : M ≤ xs.length) (hdn : Nat.ble (d + 1) X.n = true)
    (h : ∀ v', OT X ops l k ((d, v') :: R) hs) : OT X ops (⟨some d, .slice t x (some y) (some z) (some u), ty', pos, after, gd⟩ :: l) k R hs := by
  have hun := (hT.ty ht).1
  have hsz := (hT.ty ht).2.1
  obtain ⟨a0, c0, hv⟩ := hrow.len
  subst hv
  have hc : xs.length ≤ c0 := by
    rcases hrow.2 with ⟨hv, hx⟩ | ⟨b, o, cap, cs, t', fr, hv, _, hc, _⟩
    · subst hx; simp
    · injection hv with e1 e2 e3; omega
  have hM : M ≤ c0 := by omega
  refine OT.value hg rfl hdn fun ac w ha hm => ⟨_, hs, w, ?_, hm, h (.slice (if M = L then a0 else a0.map (·.add (L * sz))) (H - L) (M - L))⟩
  simp only [execOp, ha.ev hx, Option.map_some, ha.ev hy, ha.ev hz, ha.ev hu]
  simp [Instr.sliceAt, run_underlying hun, Instr.slice, Instr.sliceBounds, Instr.sliceBound, asIntOf, h1, h2, hM, hsz w]

theorem OT.value0 {o : Oper} (hg : grd ops R o.guard = some true) (hd : o.dst = none)
    (h : ∀ a w, Fits X.n R a → Mem hs w → ∃ v hs' w', (execOp a.eval o).run X.P w = .ok (.value v) w' ∧ Mem hs' w' ∧ OT X ops l k R hs') : OT X ops (o :: l) k R hs := by
  intro a w ha hm
  obtain ⟨v, hs', w', hr, hm', hk⟩ := h a w ha hm
  simp only [wpList]
  rw [grd_ok ha hg, if_pos rfl]
  refine Or.inl ?_
  unfold Oper.wp
  rw [hr, Oper.upon_value, hd]
  exact hk _ _ ha hm'
/-- clear(x[len(x):h]): what is behind an owned slice's end is struck -/
theorem OT.clear_spare {x : Operand} {a : Option Addr} {n c h' : Nat} {xs : List α} {H : Chunk} {r : List Chunk} {z : Value} (he : Elem X.P t e sz) (hz : ∀ w, (zeroValue e).run X.P w = .ok z w) (hzs : z.cells.size = sz) (hz1 : ones z.cells.toList = true) (hn : n = xs.length) (hg : grd ops R gd = some true)
    (hx : ev R x = some (.slice (if c = n then a else a.map (·.add (n * sz))) (h' - n) (c - n)))
    (hp : Pull hs H r) (hown : Own enc sz e (.slice a n c) xs H) (h2 : n ≤ h') (h3 : h' ≤ c)
    (h : ∀ H', Own enc sz e (.slice a n c) xs H' → OT X ops l k R (H' :: r)) : OT X ops (⟨none, .call ⟨.builtin .clear, #[x], #[t]⟩, ty', pos, after, gd⟩ :: l) k R hs := by
  subst hn
  refine OT.value0 hg rfl fun ac w ha hm => ?_
  have hm := hm.pull hp
  have hexec : ∀ w', (Builtin.clear_ #[t] ty' #[.slice (if c = xs.length then a else a.map (·.add (xs.length * sz))) (h' - xs.length) (c - xs.length)]).run X.P w = .ok (.tuple #[]) w' →
      (execOp ac.eval ⟨none, .call ⟨.builtin .clear, #[x], #[t]⟩, ty', pos, after, gd⟩).run X.P w = .ok (.value (.tuple #[])) w' := by
    intro w' hw
    simp [execOp, resolve, ha.ev hx, invoke, builtin, hw]
  rcases hown.2 with ⟨hv, hxs, hH⟩ | ⟨b, cap, pre, sp, fr, hv, hH, hc, hsp, hth⟩
  · injection hv with e1 e2 e3
    subst hxs; subst e1; subst e3
    have : h' = 0 := by simpa using h3
    subst this
    refine ⟨_, _, w, hexec w ?_, hm, h H hown⟩
    simp [Builtin.clear_, run_underlying he.und]
  · injection hv with e1 e2 e3
    subst e1; subst e3
    by_cases h0 : h' - xs.length = 0
    · refine ⟨_, _, w, hexec w ?_, hm, h H hown⟩
      rw [h0]
      simp only [Builtin.clear_, List.getElem?_toArray, List.getElem?_cons_zero]
      rw [Sem.run_bind, run_underlying he.und]
      by_cases hcl : c = xs.length
      · rw [if_pos hcl]; rfl
      · rw [if_neg hcl]; rfl
    · have hcl : ¬ c = xs.length := by omega
      have hl1 : (xs.flatMap enc).length = xs.length * sz := length_flatMap_enc hown.1
      have hzl : (Builtin.zeroCells z.cells (h' - xs.length)).toList.length = (h' - xs.length) * sz := by simp [Builtin.zeroCells, hzs]
      have hfit : (h' - xs.length) * sz ≤ sp.length := Nat.le_trans (Nat.mul_le_mul_right _ (by omega)) hsp
      have hzo : ones (Builtin.zeroCells z.cells (h' - xs.length)).toList = true := by
        unfold ones at hz1 ⊢
        rw [List.all_eq_true] at hz1 ⊢
        intro u hu
        simp only [Builtin.zeroCells, Array.toList_map, List.mem_map] at hu
        obtain ⟨i, hi, rfl⟩ := hu
        simp only [Array.toList_range, List.mem_range] at hi
        have hpos : 0 < z.cells.size := by
          rcases Nat.eq_zero_or_pos z.cells.size with h | h
          · rw [h] at hi; simp at hi
          · exact h
        have hlt : i % z.cells.size < z.cells.size := Nat.mod_lt _ hpos
        refine hz1 _ ?_
        rw [getElem!_pos z.cells _ hlt]
        simp
      subst hH
      obtain ⟨w', hr, hm'⟩ := hm.storeCells (P := X.P) (o := pre.length + xs.length * sz) (Builtin.zeroCells z.cells (h' - xs.length)).toList 0 (by rw [hzl]; simp [hl1]; omega) hzo hth
      have hspl : splice (pre ++ xs.flatMap enc ++ sp) (pre.length + xs.length * sz + 0) (Builtin.zeroCells z.cells (h' - xs.length)).toList = pre ++ xs.flatMap enc ++ ((Builtin.zeroCells z.cells (h' - xs.length)).toList ++ sp.drop ((h' - xs.length) * sz)) := by
        simp only [splice, Nat.add_zero]
        rw [hzl, ← hl1, ← List.length_append, List.take_left, ← List.drop_drop, List.drop_left]
        simp
      rw [hspl] at hm'
      refine ⟨_, _, w', hexec w' ?_, hm', h _ ⟨hown.1, .inr ⟨b, c, pre, (Builtin.zeroCells z.cells (h' - xs.length)).toList ++ sp.drop ((h' - xs.length) * sz), fr, rfl, rfl, hc, ?_, ?_⟩⟩⟩
      · rw [if_neg hcl]
        simp only [Builtin.clear_, List.getElem?_toArray, List.getElem?_cons_zero, Option.map_some, addr_add]
        rw [Sem.run_bind, run_underlying he.und]
        simp only [Result.andThen_ok]
        obtain ⟨m, hm0⟩ : ∃ m, h' - xs.length = m + 1 := ⟨h' - xs.length - 1, by omega⟩
        rw [hm0] at hr ⊢
        rw [Sem.run_bind, hz]
        simp only [Result.andThen_ok]
        rw [Sem.run_bind, hr]
        rfl
      · rw [List.length_append, hzl, List.length_drop]; omega
      · refine hth.imp id (fun hh => ?_)
        simp only [List.length_append, hzl, List.length_drop, hl1] at hh ⊢
        omega
end
end Go.Sx
