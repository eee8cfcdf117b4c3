/- Memory: loads, stores, new variables; calls; returns. No program in sight. -/
import Derived.Test.YtoalhcodigpgkaaSxB
namespace Go.Sx
open Go
variable [Outer]

abbrev blk (cs : List Value) (t : Nat) (fr : Nat × Nat) : Obj := .cells ⟨cs⟩ t fr

section
variable {P : Program} {hs : List Chunk}

omit [Outer] in
theorem addr_add (b o n : Nat) : (⟨b, o, none⟩ : Addr).add n = ⟨b, o + n, none⟩ := by
  unfold Addr.add
  split <;> simp_all

theorem Mem.cell {w : World} (h : Mem hs w) {b : Nat} {cs : List Value} {t : Nat} {fr : Nat × Nat} (hb : Has hs b (blk cs t fr)) (o : Nat) :
    w.cell? ⟨b, o, none⟩ = cs[o]? := by
  have := h.heap hb
  simp [World.cell?, this]

/-- the cells from o on read as vs -/
theorem Mem.loadCells {w : World} (h : Mem hs w) {b : Nat} {cs : List Value} {t : Nat} {fr : Nat × Nat} (hb : Has hs b (blk cs t fr)) {o n : Nat} {vs : List Value}
    (hv : (cs.drop o).take n = vs) (hn : vs.length = n) : (loadCells ⟨b, o, none⟩ n).run P w = .ok ⟨vs⟩ w := by
  subst hn
  refine run_loadCells_list w ⟨b, o, none⟩ vs ?_
  intro j v hj
  rw [addr_add, h.cell hb]
  rw [← hv, List.getElem?_take] at hj
  split at hj
  · rw [List.getElem?_drop] at hj; exact hj
  · cases hj

def Ld (P : Program) (hs : List Chunk) (t : Nat) (ad : Addr) (v : Value) : Prop := ∀ w, Mem hs w → (loadVar t ad).run P w = .ok v w

theorem Ld.one {T : Tab} (hT : T.ok P) {t : Nat} {d : TypeDesc} (ht : ty T t = some (.one d)) {b o : Nat} {cs : List Value} {e : Nat} {fr : Nat × Nat} (hb : Has hs b (blk cs e fr))
    {v : Value} (hv : cs[o]? = some v) : Ld P hs t ⟨b, o, none⟩ v := by
  intro w hm
  have ha := (hT.ty ht).2.1 w
  unfold loadVar
  rw [Sem.run_bind, ha]
  have := hm.cell hb o
  rw [hv] at this
  simp [load, Sem.run, this]
theorem Ld.slc {T : Tab} (hT : T.ok P) {t : Nat} {e' sz : Nat} (ht : ty T t = some (.slice e' sz)) {b o : Nat} {cs : List Value} {e : Nat} {fr : Nat × Nat} (hb : Has hs b (blk cs e fr))
    {v : Value} (hv : cs[o]? = some v) : Ld P hs t ⟨b, o, none⟩ v := by
  intro w hm
  have ha := (hT.ty ht).2.2.1 w
  unfold loadVar
  rw [Sem.run_bind, ha]
  have := hm.cell hb o
  rw [hv] at this
  simp [load, Sem.run, this]
theorem Ld.agg_of {t n : Nat} (ha : ∀ w, (isAgg t).run P w = .ok true w) (hsz : ∀ w, (sizeOf t).run P w = .ok n w) {b o : Nat} {cs : List Value} {e : Nat} {fr : Nat × Nat} (hb : Has hs b (blk cs e fr))
    {vs : List Value} (hv : (cs.drop o).take n = vs) (hn : vs.length = n) : Ld P hs t ⟨b, o, none⟩ (.agg ⟨vs⟩) := by
  intro w hm
  unfold loadVar
  rw [Sem.run_bind, ha w]
  simp only [Result.andThen_ok, if_true]
  rw [Sem.run_bind, hsz w]
  simp only [Result.andThen_ok]
  rw [Sem.run_bind, hm.loadCells hb hv hn]
  rfl
theorem Ld.struct {T : Tab} (hT : T.ok P) {t : Nat} {offs : List (Nat × Nat)} {n : Nat} (ht : ty T t = some (.struct offs n)) {b o : Nat} {cs : List Value} {e : Nat} {fr : Nat × Nat} (hb : Has hs b (blk cs e fr))
    {vs : List Value} (hv : (cs.drop o).take n = vs) (hn : vs.length = n) : Ld P hs t ⟨b, o, none⟩ (.agg ⟨vs⟩) :=
  Ld.agg_of (hT.ty ht).2.1 (hT.ty ht).2.2 hb hv hn
theorem Ld.arr {T : Tab} (hT : T.ok P) {t : Nat} {m e' sz : Nat} (ht : ty T t = some (.arr m e' sz)) {b o : Nat} {cs : List Value} {e : Nat} {fr : Nat × Nat} (hb : Has hs b (blk cs e fr))
    {vs : List Value} (hv : (cs.drop o).take (m * sz) = vs) (hn : vs.length = m * sz) : Ld P hs t ⟨b, o, none⟩ (.agg ⟨vs⟩) :=
  Ld.agg_of (hT.ty ht).2.2.1 (hT.ty ht).2.2.2 hb hv hn

theorem Ld.struct_all {T : Tab} (hT : T.ok P) {t : Nat} {offs : List (Nat × Nat)} {n : Nat} (ht : ty T t = some (.struct offs n)) {b : Nat} {cs : List Value} {e : Nat} {fr : Nat × Nat} (hb : Has hs b (blk cs e fr))
    (hn : cs.length = n) : Ld P hs t ⟨b, 0, none⟩ (.agg ⟨cs⟩) := Ld.struct hT ht hb (by rw [List.drop_zero, ← hn, List.take_length]) hn
theorem Ld.arr_all {T : Tab} (hT : T.ok P) {t : Nat} {m e' sz : Nat} (ht : ty T t = some (.arr m e' sz)) {b : Nat} {cs : List Value} {e : Nat} {fr : Nat × Nat} (hb : Has hs b (blk cs e fr))
    (hn : cs.length = m * sz) : Ld P hs t ⟨b, 0, none⟩ (.agg ⟨cs⟩) := Ld.arr hT ht hb (by rw [List.drop_zero, ← hn, List.take_length]) hn

/-! ### Stores -/
def splice (cs : List Value) (o : Nat) (vs : List Value) : List Value := cs.take o ++ vs ++ cs.drop (o + vs.length)
omit [Outer] in
theorem length_splice {cs : List Value} {o : Nat} {vs : List Value} (h : o + vs.length ≤ cs.length) : (splice cs o vs).length = cs.length := by
  simp [splice]; omega

def oneC : Value → Bool
  | .agg _ | .tuple _ => false
  | _ => true
def ones (vs : List Value) : Bool := vs.all oneC
def thawed (cs : List Value) (fr : Nat × Nat) : Prop := fr.2 ≤ fr.1 ∨ cs.length ≤ fr.1

theorem Mem.store {b : Nat} {cs : List Value} {t : Nat} {fr : Nat × Nat} {w : World} (h : Mem ([(b, blk cs t fr)] :: hs) w) {o : Nat} (ho : o < cs.length) {v : Value} (hv : oneC v = true)
    (hf : thawed cs fr) : ∃ w', (store ⟨b, o, none⟩ v).run P w = .ok () w' ∧ Mem ([(b, blk (cs.set o v) t fr)] :: hs) w' := by
  have hb := h.heap (b := b) (o := blk cs t fr) Has.one
  have hc := h.cell (b := b) (cs := cs) (t := t) (fr := fr) Has.one o
  rw [List.getElem?_eq_getElem ho] at hc
  have hfr : w.frozen? ⟨b, o, none⟩ = false := by
    simp only [World.frozen?, hb]
    rcases hf with hf | hf <;> simp <;> omega
  have hb' : w.heap[b]? = some (blk cs t fr) := hb
  refine ⟨w.setCell ⟨b, o, none⟩ v, ?_, ?_⟩
  · cases v <;> simp [oneC] at hv <;> simp [Go.store, Sem.run, hc, hfr]
  · refine h.write ?_ ?_ ⟨rfl, rfl⟩
    · simp only [World.setCell]
      simp [Array.getElem?_modify, hb']
    · intro c hc'
      simp only [World.setCell]
      rw [Array.getElem?_modify]
      rw [if_neg (fun e => hc' e.symm)]

theorem Mem.storeCells {b : Nat} {t : Nat} {fr : Nat × Nat} {o : Nat} (vs : List Value) : ∀ {cs : List Value} {w : World} (i : Nat), Mem ([(b, blk cs t fr)] :: hs) w → o + i + vs.length ≤ cs.length → ones vs = true →
    thawed cs fr → ∃ w', (Go.storeCells ⟨b, o, none⟩ vs i).run P w = .ok () w' ∧ Mem ([(b, blk (splice cs (o + i) vs) t fr)] :: hs) w' := by
  induction vs with
  | nil =>
    intro cs w i h hl _ hf
    refine ⟨w, rfl, ?_⟩
    simpa [splice] using h
  | cons v vs ih =>
    intro cs w i h hl hv hf
    simp only [ones, List.all_cons, Bool.and_eq_true] at hv
    simp only [List.length_cons] at hl
    obtain ⟨w1, hr, hm⟩ := h.store (P := P) (o := o + i) (by omega) hv.1 hf
    obtain ⟨w2, hr2, hm2⟩ := ih (i + 1) hm (by simp; omega) hv.2 (by simpa [thawed] using hf)
    refine ⟨w2, ?_, ?_⟩
    · simp only [Go.storeCells]
      rw [addr_add, Sem.run_bind, hr]
      exact hr2
    · have e : splice (cs.set (o + i) v) (o + (i + 1)) vs = splice cs (o + i) (v :: vs) := by
        simp only [splice]
        have := list_seg_step cs (o + i) v vs (by omega)
        rw [show o + (i + 1) = o + i + 1 from by omega, this]
        simp
      rw [e] at hm2
      exact hm2

theorem storeVar_run {t n : Nat} (hsz : ∀ w, (sizeOf t).run P w = .ok n w) {b o : Nat} {cs : List Value} {e : Nat} {fr : Nat × Nat} {w : World} (h : Mem ([(b, blk cs e fr)] :: hs) w) {v : Value}
    (hn : v.cells.toList.length = n) (hl : o + n ≤ cs.length) (h1 : ones v.cells.toList = true) (hf : thawed cs fr) :
    ∃ w', (storeVar t ⟨b, o, none⟩ v).run P w = .ok () w' ∧ Mem ([(b, blk (splice cs o v.cells.toList) e fr)] :: hs) w' := by
  obtain ⟨w', hr, hm⟩ := h.storeCells (P := P) (o := o) v.cells.toList 0 (by omega) h1 hf
  refine ⟨w', ?_, by simpa using hm⟩
  unfold storeVar
  rw [Sem.run_bind, hsz w]
  have : ¬ v.cells.size ≠ n := by rw [← hn]; simp
  simp only [Result.andThen_ok, if_neg this]
  exact hr
def TD.size : TD → Nat
  | .one _ => 1
  | .slice _ _ => 1
  | .arr n _ sz => n * sz
  | .struct _ sz => sz
omit [Outer] in
theorem TD.is.sizeOf {t : Nat} {d : TD} (h : d.is P t) (w : World) : (Go.sizeOf t).run P w = .ok d.size w := by
  cases d with
  | one d => exact h.2.2 w
  | slice e sz => exact h.2.2.2 w
  | arr n e sz => exact h.2.2.2 w
  | struct offs sz => exact h.2.2 w
end

/-! ### The operations -/
section
variable {X : Cx} {k : Kont} {R : Reg} {hs : List Chunk} {ops : Array Oper} {l : List Oper} {T : Tab} {d ty' : Nat} {pos : String} {after : Array Edge} {gd : Option (Nat × Bool)}

theorem OT.value {o : Oper} (hg : grd ops R o.guard = some true) (hd : o.dst = some d) (hdn : Nat.ble (d + 1) X.n = true)
    (h : ∀ a w, Fits X.n R a → Mem hs w → ∃ v hs' w', (execOp a.eval o).run X.P w = .ok (.value v) w' ∧ Mem hs' w' ∧ OT X ops l k ((d, v) :: R) hs') : OT X ops (o :: l) k R hs := by
  intro a w ha hm
  obtain ⟨v, hs', w', hr, hm', hk⟩ := h a w ha hm
  simp only [wpList]
  rw [grd_ok ha hg, if_pos rfl]
  refine Or.inl ?_
  unfold Oper.wp
  rw [hr, Oper.upon_value, hd]
  exact hk _ _ (ha.put hdn v) hm'
theorem OT.skipped {o : Oper} (hg : grd ops R o.guard = some true) (hd : o.dst = none)
    (h : ∀ a w, Fits X.n R a → Mem hs w → ∃ hs' w', (execOp a.eval o).run X.P w = .ok .skip w' ∧ Mem hs' w' ∧ OT X ops l k R hs') : OT X ops (o :: l) k R hs := by
  intro a w ha hm
  obtain ⟨hs', w', hr, hm', hk⟩ := h a w ha hm
  simp only [wpList]
  rw [grd_ok ha hg, if_pos rfl]
  refine Or.inl ?_
  unfold Oper.wp
  rw [hr, Oper.upon_skip, hd]
  exact hk _ _ ha hm'

/-- a register's Bool is written out, both ways -/
theorem OT.split (t : Nat) {b : Bool} (hb : look R t = some (.bool b)) (ht : b = true → OT X ops l k ((t, .bool true) :: R) hs) (hf : b = false → OT X ops l k ((t, .bool false) :: R) hs) : OT X ops l k R hs := by
  intro a w ha hm
  cases b with
  | true => exact ht rfl a w ⟨ha.size, ha.defers, fun u v h => by
      rw [look_cons] at h
      by_cases e : t = u
      · subst e; rw [if_pos rfl] at h; exact ha.regs _ _ (hb.trans h)
      · rw [if_neg e] at h; exact ha.regs u v h⟩ hm
  | false => exact hf rfl a w ⟨ha.size, ha.defers, fun u v h => by
      rw [look_cons] at h
      by_cases e : t = u
      · subst e; rw [if_pos rfl] at h; exact ha.regs _ _ (hb.trans h)
      · rw [if_neg e] at h; exact ha.regs u v h⟩ hm

theorem OT.load {t : Nat} {x : Operand} {ad : Addr} {v : Value} (hg : grd ops R gd = some true) (hx : ev R x = some (.pointer (some ad))) (hl : Ld X.P hs t ad v) (hdn : Nat.ble (d + 1) X.n = true)
    (h : OT X ops l k ((d, v) :: R) hs) : OT X ops (⟨some d, .load t x, ty', pos, after, gd⟩ :: l) k R hs := by
  refine OT.value hg rfl hdn fun a w ha hm => ⟨v, hs, w, ?_, hm, h⟩
  simp only [execOp, ha.ev hx, Instr.loadAt, Instr.sureAddr]
  have := hl w hm
  simp [this]

theorem OT.box {t : Nat} {x : Operand} {v : Value} (hg : grd ops R gd = some true) (hx : ev R x = some v) (hdn : Nat.ble (d + 1) X.n = true)
    (h : ∀ b, OT X ops l k ((d, .pointer (some ⟨b, 0, none⟩)) :: R) ([(b, blk v.cells.toList t (0, 0))] :: hs)) : OT X ops (⟨some d, .box t x, ty', pos, after, gd⟩ :: l) k R hs := by
  refine OT.value hg rfl hdn fun a w ha hm => ⟨_, _, w.alloc (.cells v.cells t), ?_, hm.alloc _, h w.heap.size⟩
  simp only [execOp, ha.ev hx, Instr.box, newVar, newRow]
  simp

theorem OT.alloc {t : Nat} {z : Value} (hz : ∀ w, (zeroValue t).run X.P w = .ok z w) (hg : grd ops R gd = some true) (hdn : Nat.ble (d + 1) X.n = true)
    (h : ∀ b, OT X ops l k ((d, .pointer (some ⟨b, 0, none⟩)) :: R) ([(b, blk z.cells.toList t (0, 0))] :: hs)) : OT X ops (⟨some d, .alloc t, ty', pos, after, gd⟩ :: l) k R hs := by
  refine OT.value hg rfl hdn fun a w ha hm => ⟨_, _, w.alloc (.cells z.cells t), ?_, hm.alloc _, h w.heap.size⟩
  simp only [execOp, Instr.alloc, newVar, newRow]
  simp [hz]

theorem OT.store (hT : T.ok X.P) {t : Nat} {D : TD} {x y : Operand} {b o : Nat} {v : Value} {cs cs' : List Value} {e : Nat} {fr : Nat × Nat} {r : List Chunk} (ht : ty T t = some D) (hg : grd ops R gd = some true) (hx : ev R x = some (.pointer (some ⟨b, o, none⟩)))
    (hy : ev R y = some v) (hp : Pull hs [(b, blk cs e fr)] r) (hn : v.cells.toList.length = D.size) (hl : o + D.size ≤ cs.length) (h1 : ones v.cells.toList = true) (hf : thawed cs fr)
    (hc : splice cs o v.cells.toList = cs') (h : OT X ops l k R ([(b, blk cs' e fr)] :: r)) : OT X ops (⟨none, .store t x y, ty', pos, after, gd⟩ :: l) k R hs := by
  refine OT.skipped hg rfl fun a w ha hm => ?_
  obtain ⟨w', hr, hm'⟩ := storeVar_run (P := X.P) (hT.ty ht).sizeOf (hm.pull hp) (o := o) hn hl h1 hf
  rw [hc] at hm'
  refine ⟨_, w', ?_, hm', h⟩
  simp only [execOp, ha.ev hx, ha.ev hy, Instr.storeAt, Instr.sureAddr]
  simp [hr]

/-- a whole variable is written -/
theorem OT.store_all (hT : T.ok X.P) {t : Nat} {D : TD} {x y : Operand} {b : Nat} {v : Value} {cs : List Value} {e : Nat} {fr : Nat × Nat} {r : List Chunk} (ht : ty T t = some D) (hg : grd ops R gd = some true) (hx : ev R x = some (.pointer (some ⟨b, 0, none⟩)))
    (hy : ev R y = some v) (hp : Pull hs [(b, blk cs e fr)] r) (hn : v.cells.toList.length = D.size) (hl : cs.length = D.size) (h1 : ones v.cells.toList = true) (hf : thawed cs fr)
    (h : OT X ops l k R ([(b, blk v.cells.toList e fr)] :: r)) : OT X ops (⟨none, .store t x y, ty', pos, after, gd⟩ :: l) k R hs :=
  OT.store hT ht hg hx hy hp hn (by omega) h1 hf (by simp only [splice, List.take_zero, List.nil_append, Nat.zero_add]; rw [List.drop_eq_nil_of_le (by omega), List.append_nil]) h

/-! ### Functions -/
/-- called with vs in a memory of hs it returns v, N v hs' of the memory behind it -/
def Fun (P : Program) (f : Nat) (vs : List Value) (hs : List Chunk) (N : Value → List Chunk → Prop) : Prop :=
  ∀ w, Mem hs w → Calls P f ⟨vs⟩ w fun e w' => ∃ v hs', e = .returned v ∧ N v hs' ∧ Mem hs' w'
theorem Fun.mono {P : Program} {f : Nat} {vs : List Value} {N N' : Value → List Chunk → Prop} (h : Fun P f vs hs N) (hn : ∀ v hs', N v hs' → N' v hs') : Fun P f vs hs N' :=
  fun w hm => (h w hm).mono fun _ _ ⟨v, hs', he, hN, hM⟩ => ⟨v, hs', he, hn _ _ hN, hM⟩
theorem Fun.weaken {P : Program} {f : Nat} {vs : List Value} {N : Value → List Chunk → Prop} {hs' : List Chunk} (hsel : Sel hs hs') (h : Fun P f vs hs' N) : Fun P f vs hs N :=
  fun w hm => h w (hm.sel hsel)

theorem Fun.pull {P : Program} {f : Nat} {vs : List Value} {N : Value → List Chunk → Prop} {A : Chunk} {r : List Chunk} (hp : Pull hs A r) (h : Fun P f vs (A :: r) N) : Fun P f vs hs N :=
  fun w hm => h w (hm.pull hp)
theorem Fun.chunk0 {P : Program} {f : Nat} {vs : List Value} {N : Value → List Chunk → Prop} (h : Fun P f vs ([] :: hs) N) : Fun P f vs hs N :=
  fun w hm => h w (by rw [← Sel.none]; exact hm)
def Post (N : Value → List Chunk → Prop) : Ending → World → Prop := fun e w' => ∃ v hs', e = .returned v ∧ N v hs' ∧ Mem hs' w'

def ins : Nat → List Value → Reg
  | _, [] => []
  | i, v :: vs => (i, v) :: ins (i + 1) vs
omit [Outer] in
theorem look_ins (vs : List Value) : ∀ (i t : Nat) (v : Value), look (ins i vs) t = some v → ∃ j, t = i + j ∧ vs[j]? = some v := by
  induction vs with
  | nil => intro i t v h; simp [ins, look] at h
  | cons u vs ih =>
    intro i t v h
    simp only [ins] at h
    rw [look_cons] at h
    by_cases e : i = t
    · rw [if_pos e] at h; exact ⟨0, by omega, by simpa using h⟩
    · rw [if_neg e] at h
      obtain ⟨j, rfl, hj⟩ := ih _ _ _ h
      exact ⟨j + 1, by omega, by simpa using hj⟩

theorem Fun.enter {P : Program} {f : Nat} {fn : Func} {c : Code} {vs : List Value} {N : Value → List Chunk → Prop} (n : Nat) (hf : P.funcs[f]? = some fn) (hb : fn.body = some c) (hn : fn.ntmps = n)
    (hlen : Nat.ble vs.length n = true) (h : TT ⟨P, fn, n, Post N⟩ c .fin (ins 0 vs) hs) : Fun P f vs hs N := by
  intro w hm
  have hlen' := Nat.le_of_ble_eq_true hlen
  refine calls_of_wp hf hb (h _ w ?_ hm)
  refine ⟨by simp [hn]; omega, rfl, ?_⟩
  intro t v hl
  obtain ⟨j, rfl, hj⟩ := look_ins vs 0 t v hl
  have hjl : j < vs.length := (List.getElem?_eq_some_iff.1 hj).1
  rw [Nat.zero_add, Array.getD_eq_getD_getElem?, Array.getElem?_append_left (by simpa using hjl)]
  simp [hj]

theorem OT.call {x : Operand} {f : Nat} {xs : Array Operand} {tys : Array Nat} {vs : List Value} {N : Value → List Chunk → Prop} (hc : ∀ args w, (callFunc f args).run X.P w = .ok (.enter f args) w)
    (hg : grd ops R gd = some true) (hx : ev R x = some (.func (.func f) #[] #[])) (hxs : evs R xs.toList = some vs) (hdn : Nat.ble (d + 1) X.n = true) (hF : Fun X.P f vs hs N)
    (h : ∀ v hs', N v hs' → OT X ops l k ((d, v) :: R) hs') : OT X ops (⟨some d, .call ⟨.value x, xs, tys⟩, ty', pos, after, gd⟩ :: l) k R hs := by
  intro a w ha hm
  simp only [wpList]
  rw [grd_ok (o := ⟨some d, .call ⟨.value x, xs, tys⟩, ty', pos, after, gd⟩) ha hg, if_pos rfl]
  refine Or.inl ?_
  unfold Oper.wp
  have he : (execOp a.eval ⟨some d, .call ⟨.value x, xs, tys⟩, ty', pos, after, gd⟩).run X.P w = .ok (.enter f ⟨vs⟩) w := by
    simp only [execOp, resolve, ha.ev hx, Deferred.ofValue]
    have e : xs.map a.eval = ⟨vs⟩ := by
      have := ha.evs hxs
      apply Array.ext'
      simpa using this
    rw [e]
    simp [invoke, hc]
  rw [he, Oper.upon_enter]
  refine (hF w hm).mono ?_
  rintro e w' ⟨v, hs', rfl, hN, hM⟩
  exact h v hs' hN _ _ (ha.put hdn v) hM

/-- results -/
inductive Res (P : Program) (R : Reg) (hs : List Chunk) : List ResultVar → List Value → Prop
  | nil : Res P R hs [] []
  | tmp {t : Nat} {v : Value} {rs : List ResultVar} {vs : List Value} : look R t = some v → Res P R hs rs vs → Res P R hs (.tmp t :: rs) (v :: vs)
  | cell {x t : Nat} {ad : Addr} {v : Value} {rs : List ResultVar} {vs : List Value} : look R x = some (.pointer (some ad)) → Ld P hs t ad v → Res P R hs rs vs → Res P R hs (.cell x t :: rs) (v :: vs)
def one : List Value → Value
  | [v] => v
  | vs => .tuple ⟨vs⟩
theorem Res.mapM {P : Program} {w : World} (hm : Mem hs w) {rs : List ResultVar} {vs : List Value} (h : Res P R hs rs vs) {g : ResultVar → Sem Value}
    (ht : ∀ t v, look R t = some v → (g (.tmp t)).run P w = .ok v w) (hc : ∀ x t ad v, look R x = some (.pointer (some ad)) → (loadVar t ad).run P w = .ok v w → (g (.cell x t)).run P w = .ok v w) :
    (rs.mapM g).run P w = .ok vs w := by
  induction h with
  | nil => rfl
  | tmp hl _ ih =>
    rw [List.mapM_cons, Sem.run_bind, ht _ _ hl]
    show Sem.run P (_ >>= _) w = _
    rw [Sem.run_bind, ih]
    rfl
  | cell hl hd _ ih =>
    rw [List.mapM_cons, Sem.run_bind, hc _ _ _ _ hl (hd w hm)]
    show Sem.run P (_ >>= _) w = _
    rw [Sem.run_bind, ih]
    rfl
theorem Res.run {P : Program} {n : Nat} {a : Act} {w : World} (ha : Fits n R a) (hm : Mem hs w) {rs : List ResultVar} {vs : List Value} (h : Res P R hs rs vs) :
    ∀ {fn : Func}, fn.results.toList = rs → (results fn a.tmps).run P w = .ok (one vs) w := by
  intro fn hfn
  unfold results
  rw [Array.mapM_eq_mapM_toList, hfn]
  have key := h.mapM (w := w) hm (g := fun
    | .tmp t => pure (a.tmps.getD t undef)
    | .cell b t => do loadVar t (← asAddr (a.tmps.getD b undef))) (fun t v hl => by
      show Result.ok _ w = _
      rw [ha.regs t v hl]) (fun x t ad v hl hr => by
      show Sem.run P (asAddr (a.tmps.getD x undef) >>= _) w = _
      rw [ha.regs x _ hl]
      exact hr)
  have hmap : ∀ (m : Sem (List Value)), m.run P w = .ok vs w → Sem.run P (List.toArray <$> m) w = .ok ⟨vs⟩ w := by
    intro m h1
    show Sem.run P (m >>= fun x => pure x.toArray) w = _
    rw [Sem.run_bind, h1]
    rfl
  rw [Sem.run_bind]
  refine (congrArg (fun r => Result.andThen r _) (hmap _ key)).trans ?_
  show Result.ok _ w = _
  congr 1
  cases vs with
  | nil => rfl
  | cons v vs =>
    cases vs with
    | nil => rfl
    | cons u vs => simp [one]
theorem RT.of {P : Program} {fn : Func} {n : Nat} {N : Value → List Chunk → Prop} {rs : List ResultVar} (vs : List Value) (hs' : List Chunk) (hfn : fn.results.toList = rs) (h : Res P R hs rs vs)
    (hsel : Sel hs hs') (hN : N (one vs) hs') : RT ⟨P, fn, n, Post N⟩ R hs :=
  fun _ _ ha hm => ⟨ha.defers, one vs, h.run ha hm hfn, one vs, hs', rfl, hN, hm.sel hsel⟩
theorem KT.of {P : Program} {fn : Func} {n : Nat} {N : Value → List Chunk → Prop} {rs : List ResultVar} (vs : List Value) (hs' : List Chunk) (hfn : fn.results.toList = rs) (h : Res P R hs rs vs)
    (hsel : Sel hs hs') (hN : N (one vs) hs') : KT ⟨P, fn, n, Post N⟩ .fin R hs :=
  fun _ _ ha hm => ⟨ha.defers, one vs, h.run ha hm hfn, one vs, hs', rfl, hN, hm.sel hsel⟩
end
end Go.Sx
