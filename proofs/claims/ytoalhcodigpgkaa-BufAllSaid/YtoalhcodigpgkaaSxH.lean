/- More operations: make, structs written out, calls through function values, strings. No program in sight. -/
import Derived.Test.YtoalhcodigpgkaaSxG
namespace Go.Sx
open Go
variable [Outer]

section
variable {X : Cx} {k : Kont} {R : Reg} {hs : List Chunk} {ops : Array Oper} {l : List Oper} {T : Tab} {d ty' : Nat} {pos : String} {after : Array Edge} {gd : Option (Nat × Bool)}
  {α : Type} {enc : α → List Value} {sz e t : Nat}

/-- make([]T, n), T of one cell -/
theorem OT.make {zv : Value} {z0 : α} {x y : Operand} {kx ky : IntKind} {n : Nat} (he : Elem X.P t e 1) (hz0 : ∀ w, (zeroValue e).run X.P w = .ok zv w) (hzc : zv.cells = #[zv]) (henc : enc z0 = [zv])
    (hg : grd ops R gd = some true) (hx : ev R x = some (.int kx n)) (hy : ev R y = some (.int ky n)) (hn : n ≤ 4294967296) (hdn : Nat.ble (d + 1) X.n = true)
    (h : ∀ v' H', Own enc 1 e v' (List.replicate n z0) H' → OT X ops l k ((d, v') :: R) (H' :: hs)) : OT X ops (⟨some d, .makeSlice t x y, ty', pos, after, gd⟩ :: l) k R hs := by
  obtain ⟨ti, hti, hb1, hb2⟩ := he.info
  refine OT.value hg rfl hdn fun a w ha hm => ?_
  have hwrap : IntKind.i64.wrap (n : Int) = (n : Int) := IntWalk.i64_in _ (by omega)
  have hbig : ¬ (ti.bytes * (n : Int) > 2 ^ 48) := by
    have h1 : ti.bytes * n ≤ 4096 * 4294967296 := Nat.mul_le_mul hb2 hn
    have : (2 : Int) ^ 48 = 281474976710656 := by decide
    rw [this]
    have h2 : ((ti.bytes * n : Nat) : Int) ≤ 17592186044416 := by omega
    rw [Int.natCast_mul] at h2
    omega
  have hcells : ∀ m : Nat, ((Array.range m).map ((#[zv] : Array Value)[· % (#[zv] : Array Value).size]!)) = ⟨List.replicate m zv⟩ := by
    intro m
    apply Array.ext'
    simp only [Array.toList_map, Array.toList_range]
    apply List.ext_getElem
    · simp
    · intro i h1 h2
      simp [Nat.mod_one]
  have hroomrun : ∀ n (w : World), (askRoom n).run X.P w = .ok () w := by intro n w; unfold askRoom; split <;> rfl
  have hrun : (Instr.makeSlice t (.int kx n) (.int ky n)).run X.P w = .ok (.slice (some ⟨w.heap.size, 0, none⟩) n n) (w.alloc (.cells ⟨List.replicate n zv⟩ e)) := by
    unfold Instr.makeSlice
    rw [Sem.run_bind, run_underlying he.und]
    simp only [Result.andThen_ok, asInt, asIntOf, Sem.run_bind, Sem.run_pure, hti, hwrap]
    have h1 : ((decide ((n : Int) < 0) || decide (ti.bytes * (n : Int) > 2 ^ 48)) || decide ((n : Int) < 0) || decide ((n : Int) > n)) = false := by
      simp only [Bool.or_eq_false_iff, decide_eq_false_iff_not]
      exact ⟨⟨⟨by omega, hbig⟩, by omega⟩, by omega⟩
    rw [h1]
    simp only [Bool.false_eq_true, if_false, Sem.run_bind, hroomrun, Result.andThen_ok, he.size, Int.toNat_natCast, Nat.mul_one]
    split
    · rename_i h0
      subst h0
      simp only [newRow, Sem.run_pure, Result.andThen_ok, Sem.run_bind, run_newObj_alloc]
      congr 3
      apply Array.ext'
      simp
    · simp only [Sem.run_bind, hz0, Result.andThen_ok, Sem.run_pure, hzc, newRow, run_newObj_alloc, hcells]
  refine ⟨.slice (some ⟨w.heap.size, 0, none⟩) n n, [(w.heap.size, blk (List.replicate n zv) e (0, 0))] :: hs, w.alloc (.cells ⟨List.replicate n zv⟩ e), ?_, hm.alloc _, h _ _ ⟨fun y hy => by rw [List.eq_of_mem_replicate hy, henc]; rfl, .inr ⟨w.heap.size, n, [], [], (0, 0), by simp, ?_, by simp, by simp, .inl (Nat.le_refl _)⟩⟩⟩
  · simp only [execOp, ha.ev hx, ha.ev hy]
    rw [Sem.run_bind, hrun]
    rfl
  · rw [flatMap_replicate_one henc]; simp

/-- parts of a struct laid over its noughts -/
def fillL (fs : List (Nat × Nat)) : List Value → List (Nat × Value) → Option (List Value)
  | cs, [] => some cs
  | cs, (i, v) :: r => match fs[i]? with
    | none => none
    | some p => cond (Nat.beq v.cells.toList.length p.2) (cond (Nat.ble (p.1 + p.2) cs.length) (fillL fs (splice cs p.1 v.cells.toList) r) none) none
omit [Outer] in
theorem fill_list {fs : List (Nat × Nat)} {place : Nat → Option (Nat × Nat)} (hp : ∀ i p, fs[i]? = some p → place i = some p) : ∀ (parts : List (Nat × Value)) (cs cs' : List Value), fillL fs cs parts = some cs' → Instr.fill place ⟨cs⟩ parts = some ⟨cs'⟩ := by
  intro parts
  induction parts with
  | nil => intro cs cs' h; simp only [fillL, Option.some.injEq] at h; subst h; rfl
  | cons q r ih =>
    obtain ⟨i, v⟩ := q
    intro cs cs' h
    simp only [fillL] at h
    cases hq : fs[i]? with
    | none => rw [hq] at h; cases h
    | some p =>
      rw [hq] at h
      simp only [] at h
      cases h1 : Nat.beq v.cells.toList.length p.2 with
      | false => rw [h1] at h; cases h
      | true =>
        rw [h1] at h
        cases h2 : Nat.ble (p.1 + p.2) cs.length with
        | false => rw [h2] at h; cases h
        | true =>
          rw [h2] at h
          have e1 : v.cells.size = p.2 := by have := Nat.eq_of_beq_eq_true h1; simpa using this
          have e2 := Nat.le_of_ble_eq_true h2
          simp only [Instr.fill, hp i p hq]
          have hcond : (decide (v.cells.size ≠ p.2) || decide (p.1 + v.cells.size > (⟨cs⟩ : Array Value).size)) = false := by
            simp [e1]; omega
          rw [hcond]
          simp only [Bool.false_eq_true, if_false]
          have hfold : ∀ (us : List Value) (j : Nat) (cs : List Value), p.1 + j + us.length ≤ cs.length →
              (us.zipIdx j).foldl (fun (cs : Array Value) (c : Value × Nat) => cs.setIfInBounds (p.1 + c.2) c.1) ⟨cs⟩ = ⟨splice cs (p.1 + j) us⟩ := by
            intro us
            induction us with
            | nil => intro j cs _; simp [splice]
            | cons u us ih2 =>
              intro j cs h
              simp only [List.length_cons] at h
              simp only [List.zipIdx_cons, List.foldl_cons]
              have e1 : (⟨cs⟩ : Array Value).setIfInBounds (p.1 + j) u = ⟨cs.set (p.1 + j) u⟩ := by
                apply Array.ext'; simp
              rw [e1, ih2 (j + 1) _ (by simp; omega)]
              congr 1
              simp only [splice]
              have := list_seg_step cs (p.1 + j) u us (by omega)
              rw [show p.1 + (j + 1) = p.1 + j + 1 from by omega, this]
              simp
          have hz : (v.cells.zipIdx).foldl (fun (cs : Array Value) (c : Value × Nat) => cs.setIfInBounds (p.1 + c.2) c.1) ⟨cs⟩ = ⟨splice cs p.1 v.cells.toList⟩ := by
            rw [← Array.foldl_toList, Array.toList_zipIdx]
            have := hfold v.cells.toList 0 cs (by simp; omega)
            simpa using this
          rw [show (fun (cs : Array Value) (x : Value × Nat) => match x with | (c, j) => cs.setIfInBounds (p.1 + j) c) = (fun (cs : Array Value) (c : Value × Nat) => cs.setIfInBounds (p.1 + c.2) c.1) from rfl, hz]
          exact ih _ _ h

def evp (R : Reg) : List (Nat × Operand) → Option (List (Nat × Value))
  | [] => some []
  | (i, x) :: l => match ev R x, evp R l with
    | some v, some vs => some ((i, v) :: vs)
    | _, _ => none
omit [Outer] in
theorem Fits.evp {n : Nat} {a : Act} (ha : Fits n R a) : ∀ {l : List (Nat × Operand)} {vs : List (Nat × Value)}, Sx.evp R l = some vs → l.map (fun p => (p.1, a.eval p.2)) = vs := by
  intro l
  induction l with
  | nil => intro vs h; simp [Sx.evp] at h; simp [h]
  | cons p l ih =>
    obtain ⟨i, x⟩ := p
    intro vs h
    simp only [Sx.evp] at h
    split at h
    · rename_i v vs' hv hvs
      obtain rfl := Option.some.inj h
      simp [ha.ev hv, ih hvs]
    · cases h

/-- T{..}: T a struct -/
theorem OT.build {fs : List (Nat × Nat)} {z : Value} {parts : Array (Nat × Operand)} {vs : List (Nat × Value)} {cs : List Value} (hT : T.ok X.P) (ht : ty T t = some (.struct fs sz)) (hz : ∀ w, (zeroValue t).run X.P w = .ok z w)
    (hg : grd ops R gd = some true) (hp : evp R parts.toList = some vs) (hc : fillL fs z.cells.toList vs = some cs) (hdn : Nat.ble (d + 1) X.n = true)
    (h : OT X ops l k ((d, .agg ⟨cs⟩) :: R) hs) : OT X ops (⟨some d, .build t parts, ty', pos, after, gd⟩ :: l) k R hs := by
  obtain ⟨⟨F, hu, hF⟩, _⟩ := hT.ty ht
  refine OT.value hg rfl hdn fun a w ha hm => ⟨_, hs, w, ?_, hm, h⟩
  have hpl := ha.evp hp
  have hpl' : (parts.map fun x => match x with | (i, x) => (i, a.eval x)).toList = vs := by
    rw [Array.toList_map, ← hpl]
  have hmap : ∀ (F : List Field) (fs : List (Nat × Nat)), FieldsOk X.P F fs → (F.mapM fun f => do pure (f.offset, ← sizeOf f.type) : Sem (List (Nat × Nat))).run X.P w = .ok fs w := by
    intro F fs h
    induction h with
    | nil => rfl
    | cons ho hs _ ih =>
      rw [List.mapM_cons, Sem.run_bind, Sem.run_bind, hs]
      simp only [Result.andThen_ok, Sem.run_pure]
      rw [Sem.run_bind, ih, ho]
      rfl
  have hrun : (Instr.build t (parts.map fun x => match x with | (i, x) => (i, a.eval x))).run X.P w = .ok (.agg ⟨cs⟩) w := by
    unfold Instr.build
    rw [Sem.run_bind, hz]
    simp only [Result.andThen_ok]
    rw [Sem.run_bind, run_underlying hu]
    simp only [Result.andThen_ok]
    rw [Array.mapM_eq_mapM_toList, Sem.run_bind]
    have hm2 : Sem.run X.P (List.toArray <$> (F.toList.mapM fun f => do pure (f.offset, ← sizeOf f.type) : Sem (List (Nat × Nat)))) w = .ok ⟨fs⟩ w := by
      show Sem.run X.P ((F.toList.mapM fun f => do pure (f.offset, ← sizeOf f.type) : Sem (List (Nat × Nat))) >>= fun x => pure x.toArray) w = _
      rw [Sem.run_bind, hmap _ _ hF]
      rfl
    rw [hm2]
    simp only [Result.andThen_ok, hpl']
    have hfill := fill_list (fs := fs) (place := fun i => (⟨fs⟩ : Array (Nat × Nat))[i]?) (fun i p hp => by simpa using hp) vs z.cells.toList cs hc
    have hfill' : Instr.fill (fun x => (⟨fs⟩ : Array (Nat × Nat))[x]?) z.cells vs = some ⟨cs⟩ := hfill
    rw [hfill']
    rfl
  simp only [execOp]
  rw [Sem.run_bind, hrun]
  rfl

/-- a call through a function value -/
theorem OT.callc {x : Operand} {f : Nat} {xs : Array Operand} {tys : Array Nat} {caps vs : List Value} {N : Value → List Chunk → Prop} (hc : ∀ args w, (callFunc f args).run X.P w = .ok (.enter f args) w)
    (hg : grd ops R gd = some true) (hx : ev R x = some (.func (.func f) ⟨[]⟩ ⟨caps⟩)) (hxs : evs R xs.toList = some vs) (hdn : Nat.ble (d + 1) X.n = true) (hF : Fun X.P f (vs ++ caps) hs N)
    (h : ∀ v hs', N v hs' → OT X ops l k ((d, v) :: R) hs') : OT X ops (⟨some d, .call ⟨.value x, xs, tys⟩, ty', pos, after, gd⟩ :: l) k R hs := by
  intro a w ha hm
  simp only [wpList]
  rw [grd_ok (o := ⟨some d, .call ⟨.value x, xs, tys⟩, ty', pos, after, gd⟩) ha hg, if_pos rfl]
  refine Or.inl ?_
  unfold Oper.wp
  have he : (execOp a.eval ⟨some d, .call ⟨.value x, xs, tys⟩, ty', pos, after, gd⟩).run X.P w = .ok (.enter f ⟨vs ++ caps⟩) w := by
    simp only [execOp, resolve, ha.ev hx, Deferred.ofValue, evs_array ha hxs]
    have e2 : ((⟨[]⟩ : Array Value) ++ (⟨vs⟩ : Array Value)) ++ (⟨caps⟩ : Array Value) = ⟨vs ++ caps⟩ := by apply Array.ext'; simp
    have e3 : (⟨[]⟩ : Array Value) ++ (⟨vs⟩ : Array Value) = ⟨vs⟩ := by apply Array.ext'; simp
    rw [e3] at e2
    rw [e3]
    simp only [Sem.run_bind, Sem.run_pure, Result.andThen_ok, invoke, e2, hc]
  rw [he, Oper.upon_enter]
  refine (hF w hm).mono ?_
  rintro e w' ⟨v, hs', rfl, hN, hM⟩
  exact h v hs' hN _ _ (ha.put hdn v) hM

/-- s[l:h] of a string -/
theorem OT.slice_str {x : Operand} {lo hi : Option Operand} {s : ByteArray} {vl vh : Option Value} (L H : Nat) (hT : T.ok X.P) (ht : ty T t = some (.one .string)) (hg : grd ops R gd = some true) (hx : ev R x = some (.string s))
    (hlo : evo R lo = some vl) (hhi : evo R hi = some vh) (hL : bnd vl 0 L) (hH : bnd vh s.size H) (h1 : L ≤ H) (h2 : H ≤ s.size) (hdn : Nat.ble (d + 1) X.n = true)
    (h : OT X ops l k ((d, .string (s.extract L H)) :: R) hs) : OT X ops (⟨some d, .slice t x lo hi none, ty', pos, after, gd⟩ :: l) k R hs := by
  have hu := (hT.ty ht).1
  refine OT.value hg rfl hdn fun a w ha hm => ⟨_, hs, w, ?_, hm, h⟩
  simp only [execOp, ha.ev hx, ha.evo hlo, ha.evo hhi, Option.map_none]
  rcases hL with ⟨rfl, rfl⟩ | ⟨k1, rfl⟩ <;> rcases hH with ⟨rfl, rfl⟩ | ⟨k2, rfl⟩
  · simp [Instr.sliceAt, run_underlying hu, Instr.slice, Instr.sliceBounds]
  · simp [Instr.sliceAt, run_underlying hu, Instr.slice, Instr.sliceBounds, Instr.sliceBound, asIntOf, h2]
  · simp [Instr.sliceAt, run_underlying hu, Instr.slice, Instr.sliceBounds, Instr.sliceBound, asIntOf, h1]
  · simp [Instr.sliceAt, run_underlying hu, Instr.slice, Instr.sliceBounds, Instr.sliceBound, asIntOf, h1, h2]

/-- arr[i]: an array by value, its elements of one cell -/
theorem OT.index_arr {x ix : Operand} {n : Nat} {cs : List Value} {kk : IntKind} {i : Int} {v : Value} {de : TypeDesc} (hT : T.ok X.P) (ht : ty T t = some (.arr n e 1)) (hte : ty T e = some (.one de)) (hg : grd ops R gd = some true)
    (hx : ev R x = some (.agg ⟨cs⟩)) (hix : ev R ix = some (.int kk i)) (h0 : 0 ≤ i) (hn : cs.length = n) (hi : cs[i.toNat]? = some v) (hdn : Nat.ble (d + 1) X.n = true)
    (h : OT X ops l k ((d, v) :: R) hs) : OT X ops (⟨some d, .index t x ix, ty', pos, after, gd⟩ :: l) k R hs := by
  have hu := (hT.ty ht).1
  have hsz := (hT.ty ht).2.1
  have hagg := (hT.ty hte).2.1
  have hil : i.toNat < cs.length := (List.getElem?_eq_some_iff.1 hi).1
  have hlt : i < (n : Int) := by omega
  refine OT.value hg rfl hdn fun a w ha hm => ⟨v, hs, w, ?_, hm, h⟩
  simp only [execOp, ha.ev hx, ha.ev hix]
  have hi' : (⟨cs⟩ : Array Value)[i.toNat]? = some v := by simpa using hi
  simp [Instr.index, asIntOf, run_underlying hu, h0, hlt, hsz, part, hagg, hi]
/-- an index into an array in memory -/
theorem OT.index_at {x ix : Operand} {n b o : Nat} {kk : IntKind} {i : Int} (hT : T.ok X.P) (ht : ty T t = some (.arr n e sz)) (hg : grd ops R gd = some true)
    (hx : ev R x = some (.pointer (some ⟨b, o, none⟩))) (hix : ev R ix = some (.int kk i)) (h0 : 0 ≤ i) (hi : i < n) (hdn : Nat.ble (d + 1) X.n = true)
    (h : OT X ops l k ((d, .pointer (some ⟨b, o + i.toNat * sz, none⟩)) :: R) hs) : OT X ops (⟨some d, .indexAddr t x ix, ty', pos, after, gd⟩ :: l) k R hs := by
  have hu := (hT.ty ht).1
  have hsz := (hT.ty ht).2.1
  refine OT.value hg rfl hdn fun a w ha hm => ⟨_, hs, w, ?_, hm, h⟩
  simp only [execOp, ha.ev hx, ha.ev hix]
  simp [Instr.indexAt, asIntOf, run_underlying hu, Instr.sureAddr, h0, hi, hsz, addr_add]
/-- s[i]: a string's byte -/
theorem OT.index_str {x ix : Operand} {s : ByteArray} {kk : IntKind} {i : Int} {c : UInt8} (hT : T.ok X.P) (ht : ty T t = some (.one .string)) (hg : grd ops R gd = some true)
    (hx : ev R x = some (.string s)) (hix : ev R ix = some (.int kk i)) (h0 : 0 ≤ i) (hi : s.data.toList[i.toNat]? = some c) (hdn : Nat.ble (d + 1) X.n = true)
    (h : OT X ops l k ((d, .int .u8 c.toNat) :: R) hs) : OT X ops (⟨some d, .index t x ix, ty', pos, after, gd⟩ :: l) k R hs := by
  have hu := (hT.ty ht).1
  refine OT.value hg rfl hdn fun a w ha hm => ⟨_, hs, w, ?_, hm, h⟩
  simp only [execOp, ha.ev hx, ha.ev hix]
  have hi' : s[i.toNat]? = some c := by
    have hl : i.toNat < s.data.toList.length := (List.getElem?_eq_some_iff.1 hi).1
    have hl' : i.toNat < s.size := by rw [Array.length_toList] at hl; exact hl
    rw [getElem?_pos s i.toNat hl']
    rw [List.getElem?_eq_getElem hl] at hi
    exact hi
  simp [Instr.index, asIntOf, run_underlying hu, h0, hi']

theorem bytesToString_run {P : Program} {enc : UInt8 → List Value} (henc : ∀ c, enc c = [.int .u8 c.toNat]) {v : Value} {xs : List UInt8} (hrow : Row enc 1 hs v xs) {w : World} (hm : Mem hs w) :
    (Conv.bytesToString v).run P w = .ok (.string ⟨⟨xs⟩⟩) w := by
  rcases hrow.2 with ⟨rfl, rfl⟩ | ⟨b, o, cap, cs, t, fr, rfl, hb, hc, hr⟩
  · rfl
  · have he : enc = fun c => [Value.int .u8 c.toNat] := funext henc
    have hmap : xs.flatMap enc = xs.map fun c => Value.int .u8 c.toNat := by
      rw [he, List.map_eq_flatMap]
    have hlo := hm.loadCells (P := P) hb hr (by rw [hmap]; simp)
    rw [Nat.mul_one] at hlo
    have hfold : ∀ (l : List UInt8) (s : List UInt8), (l.map fun c => (c.toNat : Int)).foldl (fun (r : ByteArray) n => r.push (UInt8.ofNat n.toNat)) ⟨⟨s⟩⟩ = ⟨⟨s ++ l⟩⟩ := by
      intro l
      induction l with
      | nil => intro s; simp
      | cons c l ih =>
        intro s
        simp only [List.map_cons, List.foldl_cons, Int.toNat_natCast, UInt8.ofNat_toNat]
        have : (⟨⟨s⟩⟩ : ByteArray).push c = ⟨⟨s ++ [c]⟩⟩ := by
          unfold ByteArray.push; simp
        rw [this, ih]
        simp
    have := run_bytesToString (P := P) w ⟨b, o, none⟩ xs.length cap (xs.map fun c => (c.toNat : Int)) (by
      rw [hlo, hmap]
      congr 1
      simp [Function.comp_def])
    rw [this]
    have h0 := hfold xs []
    rw [List.nil_append] at h0
    rw [← h0]
    rfl

/-- string(b) -/
theorem OT.conv_bs {enc : UInt8 → List Value} (henc : ∀ c, enc c = [.int .u8 c.toNat]) {s t' e : Nat} {x : Operand} {v : Value} {xs : List UInt8} (hT : T.ok X.P) (hs' : ty T s = some (.slice e 1)) (he : ty T e = some (.one (.int .u8))) (ht : ty T t' = some (.one .string))
    (hg : grd ops R gd = some true) (hx : ev R x = some v) (hrow : Row enc 1 hs v xs) (hdn : Nat.ble (d + 1) X.n = true)
    (h : OT X ops l k ((d, .string ⟨⟨xs⟩⟩) :: R) hs) : OT X ops (⟨some d, .convert s t' x, ty', pos, after, gd⟩ :: l) k R hs := by
  refine OT.value hg rfl hdn fun a w ha hm => ⟨_, hs, w, ?_, hm, h⟩
  obtain ⟨a0, c0, hv⟩ := hrow.len
  have h1 := bytesToString_run (P := X.P) henc hrow hm
  simp only [execOp, ha.ev hx]
  rw [hv] at h1 ⊢
  rw [Sem.run_bind, run_convert_bytes_string w s t' e a0 xs.length c0 (hT.ty hs').1 (hT.ty he).1 (hT.ty ht).1, h1]
  rfl

/-- an operation on registers alone, its value told and proved -/
theorem OT.pure1 (hT : T.ok X.P) {o : Oper} (v : Value) (hg : grd ops R o.guard = some true) (hd : o.dst = some d) (hv : pev T R o.op = some v) (hdn : Nat.ble (d + 1) X.n = true)
    (h : OT X ops l k ((d, v) :: R) hs) : OT X ops (o :: l) k R hs :=
  OT.value hg hd hdn fun _ w ha hm => ⟨v, hs, w, pev_ok hT ha hv w, hm, h⟩
theorem OT.shl {x y : Operand} {yt : Nat} {kx ky : IntKind} {a b : Int} (hT : T.ok X.P) (hg : grd ops R gd = some true) (hx : ev R x = some (.int kx a)) (hy : ev R y = some (.int ky b)) (hb : 0 ≤ b) (hdn : Nat.ble (d + 1) X.n = true)
    (h : OT X ops l k ((d, .int kx (kx.wrap (a * 2 ^ min b.toNat kx.bits))) :: R) hs) : OT X ops (⟨some d, .binOp .shl t x y yt, ty', pos, after, gd⟩ :: l) k R hs :=
  OT.pure1 hT _ hg rfl (by simp only [pev, hx, hy, bin]; rw [if_neg (by omega)]) hdn h
theorem OT.shr {x y : Operand} {yt : Nat} {kx ky : IntKind} {a b : Int} (hT : T.ok X.P) (hg : grd ops R gd = some true) (hx : ev R x = some (.int kx a)) (hy : ev R y = some (.int ky b)) (hb : 0 ≤ b) (hdn : Nat.ble (d + 1) X.n = true)
    (h : OT X ops l k ((d, .int kx (a.fdiv (2 ^ min b.toNat kx.bits))) :: R) hs) : OT X ops (⟨some d, .binOp .shr t x y yt, ty', pos, after, gd⟩ :: l) k R hs :=
  OT.pure1 hT _ hg rfl (by simp only [pev, hx, hy, bin]; rw [if_neg (by omega)]) hdn h
theorem OT.quo {x y : Operand} {yt : Nat} {kx : IntKind} {a b : Int} (hT : T.ok X.P) (hg : grd ops R gd = some true) (hx : ev R x = some (.int kx a)) (hy : ev R y = some (.int kx b)) (hb : b ≠ 0) (hdn : Nat.ble (d + 1) X.n = true)
    (h : OT X ops l k ((d, .int kx (kx.wrap (a.tdiv b))) :: R) hs) : OT X ops (⟨some d, .binOp .quo t x y yt, ty', pos, after, gd⟩ :: l) k R hs :=
  OT.pure1 hT _ hg rfl (by simp only [pev, hx, hy, bin, binI, if_true]; rw [if_neg hb]) hdn h
theorem OT.rem {x y : Operand} {yt : Nat} {kx : IntKind} {a b : Int} (hT : T.ok X.P) (hg : grd ops R gd = some true) (hx : ev R x = some (.int kx a)) (hy : ev R y = some (.int kx b)) (hb : b ≠ 0) (hdn : Nat.ble (d + 1) X.n = true)
    (h : OT X ops l k ((d, .int kx (a.tmod b)) :: R) hs) : OT X ops (⟨some d, .binOp .rem t x y yt, ty', pos, after, gd⟩ :: l) k R hs :=
  OT.pure1 hT _ hg rfl (by simp only [pev, hx, hy, bin, binI, if_true]; rw [if_neg hb]) hdn h
theorem OT.add_str {x y : Operand} {yt : Nat} {a b : ByteArray} (hg : grd ops R gd = some true) (hx : ev R x = some (.string a)) (hy : ev R y = some (.string b)) (hb : a.size + b.size ≤ 9223372036854775807) (hdn : Nat.ble (d + 1) X.n = true)
    (h : OT X ops l k ((d, .string (a ++ b)) :: R) hs) : OT X ops (⟨some d, .binOp .add t x y yt, ty', pos, after, gd⟩ :: l) k R hs := by
  refine OT.value hg rfl hdn fun ac w ha hm => ⟨_, hs, w, ?_, hm, h⟩
  simp only [execOp, ha.ev hx, ha.ev hy]
  have hbig : ¬ (((a.size + b.size : Nat) : Int) > IntKind.i64.max) := by
    have : IntKind.i64.max = 9223372036854775807 := by decide
    rw [this]; omega
  have h1 : (binOp .add t (.string a) (.string b)).run X.P w = .ok (.string (a ++ b)) w := by
    simp only [binOp, Op.stringOp, if_neg hbig]
    rfl
  simp [eqGuard, h1]
/-- a register's value is written otherwise -/
theorem OT.reg (t : Nat) {u v : Value} (hu : look R t = some u) (e : u = v) (h : OT X ops l k ((t, v) :: R) hs) : OT X ops l k R hs :=
  fun a w ha hm => h a w ⟨ha.size, ha.defers, fun x y hl => by
    rw [look_cons] at hl
    by_cases e' : t = x
    · subst e'; rw [if_pos rfl] at hl; subst e; exact ha.regs _ _ (hu.trans hl)
    · rw [if_neg e'] at hl; exact ha.regs x y hl⟩ hm
theorem TT.reg {c : Code} (t : Nat) {u v : Value} (hu : look R t = some u) (e : u = v) (h : TT X c k ((t, v) :: R) hs) : TT X c k R hs :=
  fun a w ha hm => h a w ⟨ha.size, ha.defers, fun x y hl => by
    rw [look_cons] at hl
    by_cases e' : t = x
    · subst e'; rw [if_pos rfl] at hl; subst e; exact ha.regs _ _ (hu.trans hl)
    · rw [if_neg e'] at hl; exact ha.regs x y hl⟩ hm
end
end Go.Sx
