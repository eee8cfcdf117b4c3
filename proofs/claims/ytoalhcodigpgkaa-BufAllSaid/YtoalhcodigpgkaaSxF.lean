/- The operations on slices that make or write memory; structs written out; closures. No program in sight. -/
import Derived.Test.YtoalhcodigpgkaaSxE
namespace Go.Sx
open Go
variable [Outer]

section
variable {X : Cx} {k : Kont} {R : Reg} {hs : List Chunk} {ops : Array Oper} {l : List Oper} {T : Tab} {d ty' : Nat} {pos : String} {after : Array Edge} {gd : Option (Nat × Bool)}
  {α : Type} {enc : α → List Value} {sz e t : Nat}

omit [Outer] in
theorem exec_append {a : Act} {x y : Operand} {v u : Value} (hx : a.eval x = v) (hy : a.eval y = u) (t t2 : Nat) {P : Program} {w w' : World} {v' : Value} (h : (Builtin.append_ #[t, t2] ty' #[v, u]).run P w = .ok v' w') :
    (execOp a.eval ⟨some d, .call ⟨.builtin .append, #[x, y], #[t, t2]⟩, ty', pos, after, gd⟩).run P w = .ok (.value v') w' := by
  simp [execOp, resolve, hx, hy, invoke, builtin, h]

/-- append(x, y...): x owned, y read -/
theorem OT.append {x y : Operand} {t2 e2 sz2 : Nat} {v u : Value} {xs ys : List α} {H : Chunk} {r : List Chunk} (hT : T.ok X.P) (he : Elem X.P t e sz) (ht2 : ty T t2 = some (.slice e2 sz2)) (hg : grd ops R gd = some true)
    (hx : ev R x = some v) (hy : ev R y = some u) (hp : Pull hs H r) (hown : Own enc sz e v xs H) (hrow : Row enc sz hs u ys) (hones : ones (ys.flatMap enc) = true) (hb : xs.length + ys.length ≤ 4294967296) (hdn : Nat.ble (d + 1) X.n = true)
    (h : ∀ v' H', Own enc sz e v' (xs ++ ys) H' → OT X ops l k ((d, v') :: R) (H' :: r)) : OT X ops (⟨some d, .call ⟨.builtin .append, #[x, y], #[t, t2]⟩, ty', pos, after, gd⟩ :: l) k R hs := by
  refine OT.value hg rfl hdn fun a w ha hm => ?_
  obtain ⟨v', H', w', hr, ho, hm', _⟩ := append_row he (hT.ty ht2).1 (fun kk h => by cases h) hown (hrow.pull hp) hones hb (hm.pull hp) ty'
  exact ⟨v', _, w', exec_append (ha.ev hx) (ha.ev hy) t t2 hr, hm', h v' H' ho⟩
/-- append(x, y...) where there is room -/
theorem OT.append_room {x y : Operand} {t2 e2 sz2 : Nat} {a : Option Addr} {n c : Nat} {u : Value} {xs ys : List α} {H : Chunk} {r : List Chunk} (hT : T.ok X.P) (he : Elem X.P t e sz) (ht2 : ty T t2 = some (.slice e2 sz2)) (hg : grd ops R gd = some true)
    (hx : ev R x = some (.slice a n c)) (hy : ev R y = some u) (hp : Pull hs H r) (hn : n = xs.length) (hown : Own enc sz e (.slice a n c) xs H) (hrow : Row enc sz hs u ys) (hones : ones (ys.flatMap enc) = true) (hb : xs.length + ys.length ≤ 4294967296) (hroom : n + ys.length ≤ c) (hdn : Nat.ble (d + 1) X.n = true)
    (h : ∀ H', Own enc sz e (.slice a (n + ys.length) c) (xs ++ ys) H' → OT X ops l k ((d, .slice a (n + ys.length) c) :: R) (H' :: r)) : OT X ops (⟨some d, .call ⟨.builtin .append, #[x, y], #[t, t2]⟩, ty', pos, after, gd⟩ :: l) k R hs := by
  subst hn
  refine OT.value hg rfl hdn fun ac w ha hm => ?_
  obtain ⟨v', H', w', hr, ho, hm', hv⟩ := append_row he (hT.ty ht2).1 (fun kk h => by cases h) hown (hrow.pull hp) hones hb (hm.pull hp) ty'
  have hv := hv a c rfl hroom
  subst hv
  exact ⟨_, _, w', exec_append (ha.ev hx) (ha.ev hy) t t2 hr, hm', h H' ho⟩
/-- append(b, s...) -/
theorem OT.append_str {enc : UInt8 → List Value} (henc : ∀ c, enc c = [.int .u8 c.toNat]) {x y : Operand} {t2 : Nat} {v : Value} {s : ByteArray} {xs : List UInt8} {H : Chunk} {r : List Chunk} (hT : T.ok X.P) (he : Elem X.P t e 1) (ht2 : ty T t2 = some (.one .string)) (hg : grd ops R gd = some true)
    (hx : ev R x = some v) (hy : ev R y = some (.string s)) (hp : Pull hs H r) (hown : Own enc 1 e v xs H) (hb : xs.length + s.data.toList.length ≤ 4294967296) (hdn : Nat.ble (d + 1) X.n = true)
    (h : ∀ v' H', Own enc 1 e v' (xs ++ s.data.toList) H' → OT X ops l k ((d, v') :: R) (H' :: r)) : OT X ops (⟨some d, .call ⟨.builtin .append, #[x, y], #[t, t2]⟩, ty', pos, after, gd⟩ :: l) k R hs := by
  refine OT.value hg rfl hdn fun a w ha hm => ?_
  obtain ⟨v', H', w', hr, ho, hm'⟩ := Sx.append_str henc he rfl (hT.ty ht2).1 hown hb (hm.pull hp) ty'
  exact ⟨v', _, w', exec_append (ha.ev hx) (ha.ev hy) t t2 hr, hm', h v' H' ho⟩
theorem OT.append_zeros {x y : Operand} {t2 : Nat} {kk kv : IntKind} {v zv : Value} {z0 : α} {m : Nat} {xs : List α} {H : Chunk} {r : List Chunk} (hz0 : ∀ w, (zeroValue e).run X.P w = .ok zv w) (hzc : zv.cells = #[zv]) (henc : enc z0 = [zv]) (h1 : oneC zv = true)
    (hT : T.ok X.P) (he : Elem X.P t e 1) (ht2 : ty T t2 = some (.one (.int kk))) (hg : grd ops R gd = some true)
    (hx : ev R x = some v) (hy : ev R y = some (.int kv m)) (hp : Pull hs H r) (hown : Own enc 1 e v xs H) (hb : xs.length + m ≤ 4294967296) (hdn : Nat.ble (d + 1) X.n = true)
    (h : ∀ v' H', Own enc 1 e v' (xs ++ List.replicate m z0) H' → OT X ops l k ((d, v') :: R) (H' :: r)) : OT X ops (⟨some d, .call ⟨.builtin .append, #[x, y], #[t, t2]⟩, ty', pos, after, gd⟩ :: l) k R hs := by
  refine OT.value hg rfl hdn fun a w ha hm => ?_
  obtain ⟨v', H', w', hr, ho, hm'⟩ := Sx.append_zeros he hz0 hzc henc h1 (hT.ty ht2).1 hown hb (hm.pull hp) ty'
  exact ⟨v', _, w', exec_append (ha.ev hx) (ha.ev hy) t t2 hr, hm', h v' H' ho⟩

omit [Outer] in
theorem bytes_ones {enc : UInt8 → List Value} (henc : ∀ c, enc c = [.int .u8 c.toNat]) (xs : List UInt8) : ones (xs.flatMap enc) = true := by
  have : enc = fun c => [Value.int .u8 c.toNat] := funext henc
  rw [this]
  unfold ones
  induction xs with
  | nil => rfl
  | cons c l ih => simp [oneC]

omit [Outer] in
/-- cells of one part behind the other -/
theorem fill_seq (place : Nat → Option (Nat × Nat)) : ∀ (vs : List Value) (i : Nat) (sz : Nat) (cells : List Value), (∀ j, i ≤ j → j < i + vs.length → place j = some (j * sz, sz)) → (∀ v ∈ vs, v.cells.size = sz) → cells.length = (i + vs.length) * sz →
    Instr.fill place ⟨cells⟩ ((vs.zipIdx i).map fun p => (p.2, p.1)) = some ⟨cells.take (i * sz) ++ vs.flatMap (·.cells.toList)⟩ := by
  intro vs
  induction vs with
  | nil =>
    intro i sz cells _ _ hl
    simp only [List.zipIdx_nil, List.map_nil, Instr.fill, List.flatMap_nil, List.append_nil]
    rw [List.take_of_length_le (by rw [hl]; simp)]
  | cons v vs ih =>
    intro i sz cells hp hv hl
    simp only [List.zipIdx_cons, List.map_cons, Instr.fill]
    rw [hp i (Nat.le_refl _) (by simp)]
    have hvs : v.cells.size = sz := hv v (by simp)
    simp only [List.length_cons] at hl
    have hmul : (i + (vs.length + 1)) * sz = i * sz + sz + vs.length * sz := by rw [Nat.add_mul, Nat.add_mul]; omega
    have hcond : (decide (v.cells.size ≠ sz) || decide (i * sz + v.cells.size > (⟨cells⟩ : Array Value).size)) = false := by
      simp [hvs]; omega
    simp only []
    rw [hcond]
    simp only [Bool.false_eq_true, if_false]
    have hfold : ∀ (us : List Value) (j : Nat) (cs : List Value), i * sz + j + us.length ≤ cs.length →
        (us.zipIdx j).foldl (fun (cs : Array Value) (c : Value × Nat) => cs.setIfInBounds (i * sz + c.2) c.1) ⟨cs⟩ = ⟨splice cs (i * sz + j) us⟩ := by
      intro us
      induction us with
      | nil => intro j cs _; simp [splice]
      | cons u us ih2 =>
        intro j cs h
        simp only [List.length_cons] at h
        simp only [List.zipIdx_cons, List.foldl_cons]
        have e1 : (⟨cs⟩ : Array Value).setIfInBounds (i * sz + j) u = ⟨cs.set (i * sz + j) u⟩ := by
          apply Array.ext'; simp
        rw [e1, ih2 (j + 1) _ (by simp; omega)]
        congr 1
        simp only [splice]
        have := list_seg_step cs (i * sz + j) u us (by omega)
        rw [show i * sz + (j + 1) = i * sz + j + 1 from by omega, this]
        simp
    have hz : (v.cells.zipIdx).foldl (fun (cs : Array Value) (c : Value × Nat) => cs.setIfInBounds (i * sz + c.2) c.1) ⟨cells⟩ = ⟨splice cells (i * sz) v.cells.toList⟩ := by
      rw [← Array.foldl_toList, Array.toList_zipIdx]
      have := hfold v.cells.toList 0 cells (by simp; rw [hvs]; omega)
      simpa using this
    rw [show (fun (cs : Array Value) (x : Value × Nat) => match x with | (c, j) => cs.setIfInBounds (i * sz + j) c) = (fun (cs : Array Value) (c : Value × Nat) => cs.setIfInBounds (i * sz + c.2) c.1) from rfl, hz]
    have hlen : (splice cells (i * sz) v.cells.toList).length = cells.length := length_splice (by simp; rw [hvs]; omega)
    rw [ih (i + 1) sz _ (fun j h1 h2 => hp j (by omega) (by simp; omega)) (fun u hu => hv u (by simp [hu])) (by rw [hlen, hl]; congr 1; omega)]
    congr 2
    simp only [List.flatMap_cons, ← List.append_assoc]
    congr 1
    rw [Nat.succ_mul]
    simp only [splice, List.append_assoc]
    have h2 : v.cells.toList.length = sz := by simpa using hvs
    have h1 : (cells.take (i * sz) ++ v.cells.toList).length = i * sz + sz := by simp [hvs]; omega
    rw [← List.append_assoc, ← h1, List.take_left]

/-- []T{x0, x1, ..} -/
theorem OT.buildSlice {parts : Array (Nat × Operand)} {n : Nat} {xos : List Operand} {vs : List Value} {xs : List α} (he : Elem X.P t e sz) (hparts : parts.toList = (xos.zipIdx).map fun p => (p.2, p.1)) (hg : grd ops R gd = some true) (hxs : evs R xos = some vs)
    (hn : vs.length = n) (hcells : vs.flatMap (·.cells.toList) = xs.flatMap enc) (hsz : ∀ v ∈ vs, v.cells.size = sz) (henc : ∀ x ∈ xs, (enc x).length = sz) (hxn : xs.length = n) (hbig : n * sz ≤ 16777216) (hdn : Nat.ble (d + 1) X.n = true)
    (h : ∀ v' H', Own enc sz e v' xs H' → OT X ops l k ((d, v') :: R) (H' :: hs)) : OT X ops (⟨some d, .buildSlice t n parts, ty', pos, after, gd⟩ :: l) k R hs := by
  obtain ⟨z, hz, hzs⟩ := he.zero
  refine OT.value hg rfl hdn fun a w ha hm => ⟨.slice (some ⟨w.heap.size, 0, none⟩) n n, [(w.heap.size, blk (vs.flatMap (·.cells.toList)) e (0, 0))] :: hs, w.alloc (.cells ⟨vs.flatMap (·.cells.toList)⟩ e), ?_, hm.alloc _, h _ _ ⟨henc, .inr ⟨w.heap.size, n, [], [], (0, 0), by rw [hxn]; rfl, by rw [hcells]; simp, by omega, by rw [hxn]; simp, .inl (Nat.le_refl _)⟩⟩⟩
  have hxe := ha.evs hxs
  have hlen : xos.length = n := by rw [← hn, ← hxe]; simp
  have hpl : (parts.map fun (p : Nat × Operand) => (p.1, a.eval p.2)).toList = (vs.zipIdx).map fun p => (p.2, p.1) := by
    rw [Array.toList_map, hparts, ← hxe, List.zipIdx_map]
    simp [Function.comp_def]
  have hrun : (Instr.buildSlice t n (parts.map fun (p : Nat × Operand) => (p.1, a.eval p.2))).run X.P w = .ok (.slice (some ⟨w.heap.size, 0, none⟩) n n) (w.alloc (.cells ⟨vs.flatMap (·.cells.toList)⟩ e)) := by
    unfold Instr.buildSlice
    rw [Sem.run_bind, run_underlying he.und]
    simp only [Result.andThen_ok]
    rw [Sem.run_bind, he.size]
    simp only [Result.andThen_ok]
    have hlim : ¬ (n * sz > 2 ^ 24) := by
      have : (2 : Nat) ^ 24 = 16777216 := by decide
      omega
    simp only [hlim, if_false]
    have hfill : ∀ zc : Array Value, Instr.fill (fun i => some (i * sz, sz)) ((Array.range (n * sz)).map (zc[· % zc.size]!)) (parts.map fun (p : Nat × Operand) => (p.1, a.eval p.2)).toList = some ⟨vs.flatMap (·.cells.toList)⟩ := by
      intro zc
      have hfill := fill_seq (fun i => some (i * sz, sz)) vs 0 sz ((Array.range (n * sz)).map (zc[· % zc.size]!)).toList (fun _ _ _ => rfl) hsz (by simp [hn])
      rw [← hpl] at hfill
      simp only [Nat.zero_mul, List.take_zero, List.nil_append] at hfill
      exact hfill
    by_cases h0 : n * sz = 0
    · rw [if_pos h0, Sem.run_bind, Sem.run_pure]
      simp only [Result.andThen_ok, hfill]
      simp only [newRow, Sem.run_bind, run_newObj_alloc, Result.andThen_ok, Sem.run_pure]
    · rw [if_neg h0, Sem.run_bind, hz]
      simp only [Result.andThen_ok]
      rw [Sem.run_bind, Sem.run_pure]
      simp only [Result.andThen_ok, hfill]
      simp only [newRow, Sem.run_bind, run_newObj_alloc, Result.andThen_ok, Sem.run_pure]
  simp only [execOp]
  have e2 : (parts.map fun x => match x with | (i, x) => (i, a.eval x)) = (parts.map fun (p : Nat × Operand) => (p.1, a.eval p.2)) := rfl
  rw [e2, Sem.run_bind, hrun]
  rfl
end
end Go.Sx
