/- Slices: read as lists; owned, grown, cut, made. No program in sight. -/
import Derived.Test.YtoalhcodigpgkaaSxC
namespace Go.Sx
open Go

section
variable {α : Type} {enc : α → List Value} {sz e : Nat} {hs : List Chunk}

/-- slice v reads as xs -/
def Row (enc : α → List Value) (sz : Nat) (hs : List Chunk) (v : Value) (xs : List α) : Prop :=
  (∀ x ∈ xs, (enc x).length = sz) ∧ ((v = .slice none 0 0 ∧ xs = []) ∨
    ∃ b o cap cs t fr, v = .slice (some ⟨b, o, none⟩) xs.length cap ∧ Has hs b (blk cs t fr) ∧ xs.length ≤ cap ∧ (cs.drop o).take (xs.length * sz) = xs.flatMap enc)
/-- slice v reads as xs, and the chunk H is its own -/
def Own (enc : α → List Value) (sz e : Nat) (v : Value) (xs : List α) (H : Chunk) : Prop :=
  (∀ x ∈ xs, (enc x).length = sz) ∧ ((v = .slice none 0 0 ∧ xs = [] ∧ H = []) ∨
    ∃ b cap pre sp fr, v = .slice (some ⟨b, pre.length, none⟩) xs.length cap ∧ H = [(b, blk (pre ++ xs.flatMap enc ++ sp) e fr)] ∧ xs.length ≤ cap ∧ (cap - xs.length) * sz ≤ sp.length ∧
      thawed (pre ++ xs.flatMap enc ++ sp) fr)
/-- at ad lies x -/
def El (enc : α → List Value) (sz : Nat) (hs : List Chunk) (x : α) (ad : Addr) : Prop :=
  (enc x).length = sz ∧ ∃ b o cs t fr, ad = ⟨b, o, none⟩ ∧ Has hs b (blk cs t fr) ∧ (cs.drop o).take sz = enc x

theorem length_flatMap_enc {xs : List α} (h : ∀ x ∈ xs, (enc x).length = sz) : (xs.flatMap enc).length = xs.length * sz := by
  induction xs with
  | nil => simp
  | cons x xs ih =>
    rw [List.flatMap_cons, List.length_append, ih (fun y hy => h y (by simp [hy])), h x (by simp), List.length_cons, Nat.succ_mul, Nat.add_comm]

theorem Row.nil : Row enc sz hs (.slice none 0 0) [] := ⟨by simp, .inl ⟨rfl, rfl⟩⟩
theorem Own.nil : Own enc sz e (.slice none 0 0) [] [] := ⟨by simp, .inl ⟨rfl, rfl, rfl⟩⟩
theorem Row.mono {hs' : List Chunk} {v : Value} {xs : List α} (h : Row enc sz hs v xs) (hh : ∀ b o, Has hs b o → Has hs' b o) : Row enc sz hs' v xs := by
  obtain ⟨h1, h2⟩ := h
  refine ⟨h1, h2.imp id ?_⟩
  rintro ⟨b, o, cap, cs, t, fr, hv, hb, hc, hr⟩
  exact ⟨b, o, cap, cs, t, fr, hv, hh _ _ hb, hc, hr⟩
theorem Row.there {A : Chunk} {v : Value} {xs : List α} (h : Row enc sz hs v xs) : Row enc sz (A :: hs) v xs := h.mono fun _ _ => .there
theorem Row.pull {A : Chunk} {r : List Chunk} {v : Value} {xs : List α} (h : Row enc sz hs v xs) (hp : Pull hs A r) : Row enc sz (A :: r) v xs := h.mono fun _ _ => .pull hp
theorem El.mono {hs' : List Chunk} {x : α} {ad : Addr} (h : El enc sz hs x ad) (hh : ∀ b o, Has hs b o → Has hs' b o) : El enc sz hs' x ad := by
  obtain ⟨h1, b, o, cs, t, fr, ha, hb, hr⟩ := h
  exact ⟨h1, b, o, cs, t, fr, ha, hh _ _ hb, hr⟩
theorem El.there {A : Chunk} {x : α} {ad : Addr} (h : El enc sz hs x ad) : El enc sz (A :: hs) x ad := h.mono fun _ _ => .there
theorem Own.row {v : Value} {xs : List α} {H : Chunk} (h : Own enc sz e v xs H) : Row enc sz (H :: hs) v xs := by
  obtain ⟨h1, h2⟩ := h
  refine ⟨h1, ?_⟩
  rcases h2 with ⟨hv, hx, _⟩ | ⟨b, cap, pre, sp, fr, hv, hH, hc, _, _⟩
  · exact .inl ⟨hv, hx⟩
  · refine .inr ⟨b, pre.length, cap, _, e, fr, hv, by rw [hH]; exact .one, hc, ?_⟩
    rw [List.append_assoc, List.drop_left, List.take_append_of_le_length (by rw [length_flatMap_enc h1]; omega), ← length_flatMap_enc h1, List.take_length]
theorem Row.enc_len {v : Value} {xs : List α} (h : Row enc sz hs v xs) : ∀ x ∈ xs, (enc x).length = sz := h.1
theorem Own.enc_len {v : Value} {xs : List α} {H : Chunk} (h : Own enc sz e v xs H) : ∀ x ∈ xs, (enc x).length = sz := h.1
theorem Row.len {v : Value} {xs : List α} (h : Row enc sz hs v xs) : ∃ a c, v = .slice a xs.length c := by
  rcases h.2 with ⟨rfl, rfl⟩ | ⟨b, o, cap, cs, t, fr, rfl, _⟩
  · exact ⟨_, _, rfl⟩
  · exact ⟨_, _, rfl⟩

theorem flatMap_drop {xs : List α} (h : ∀ x ∈ xs, (enc x).length = sz) (l : Nat) : (xs.flatMap enc).drop (l * sz) = (xs.drop l).flatMap enc := by
  induction xs generalizing l with
  | nil => simp
  | cons x xs ih =>
    cases l with
    | zero => simp
    | succ l =>
      rw [List.flatMap_cons, List.drop_append, h x (by simp), List.drop_eq_nil_of_le (by rw [h x (by simp), Nat.succ_mul]; omega)]
      rw [Nat.succ_mul, Nat.add_sub_cancel, List.nil_append, ih (fun y hy => h y (by simp [hy]))]
      rfl
theorem flatMap_take {xs : List α} (h : ∀ x ∈ xs, (enc x).length = sz) (l : Nat) : (xs.flatMap enc).take (l * sz) = (xs.take l).flatMap enc := by
  induction xs generalizing l with
  | nil => simp
  | cons x xs ih =>
    cases l with
    | zero => simp
    | succ l =>
      rw [List.flatMap_cons, List.take_append, h x (by simp), List.take_of_length_le (by rw [h x (by simp), Nat.succ_mul]; omega)]
      rw [Nat.succ_mul, Nat.add_sub_cancel, ih (fun y hy => h y (by simp [hy]))]
      rfl

theorem Row.el {v : Value} {xs : List α} (h : Row enc sz hs v xs) {i : Nat} {x : α} (hi : xs[i]? = some x) :
    ∃ b o cap, v = .slice (some ⟨b, o, none⟩) xs.length cap ∧ El enc sz hs x ⟨b, o + i * sz, none⟩ := by
  have hil : i < xs.length := (List.getElem?_eq_some_iff.1 hi).1
  have hx : x ∈ xs := List.mem_of_getElem? hi
  rcases h.2 with ⟨_, rfl⟩ | ⟨b, o, cap, cs, t, fr, hv, hb, hc, hr⟩
  · simp at hi
  · refine ⟨b, o, cap, hv, h.1 x hx, b, o + i * sz, cs, t, fr, rfl, hb, ?_⟩
    have e1 : ((cs.drop o).take (xs.length * sz)).drop (i * sz) = (xs.drop i).flatMap enc := by rw [hr, flatMap_drop h.1]
    have e2 : xs.drop i = x :: xs.drop (i + 1) := by
      have hx' : xs[i] = x := by rw [List.getElem?_eq_getElem hil] at hi; exact Option.some.inj hi
      rw [← hx']; exact List.drop_eq_getElem_cons hil
    rw [e2, List.flatMap_cons] at e1
    have e3 : (((cs.drop o).take (xs.length * sz)).drop (i * sz)).take sz = enc x := by
      rw [e1, List.take_append_of_le_length (by rw [h.1 x hx]; omega), ← h.1 x hx, List.take_length]
    rw [← e3, List.drop_take, List.take_take, List.drop_drop]
    have : sz ≤ xs.length * sz - i * sz := by
      rw [← Nat.sub_mul]
      exact Nat.le_mul_of_pos_left _ (by omega)
    rw [Nat.min_eq_left this]

variable [Outer]
theorem El.ld_one {P : Program} {T : Tab} (hT : T.ok P) {x : α} {ad : Addr} (h : El enc sz hs x ad) {t : Nat} {d : TypeDesc} (ht : ty T t = some (.one d)) {v : Value} (hv : enc x = [v]) : Ld P hs t ad v := by
  obtain ⟨h1, b, o, cs, t', fr, rfl, hb, hr⟩ := h
  rw [hv] at hr h1
  simp at h1
  subst h1
  refine Ld.one hT ht hb ?_
  have : ((cs.drop o).take 1)[0]? = some v := by rw [hr]; rfl
  rw [List.getElem?_take] at this
  simpa using this
theorem El.ld_slc {P : Program} {T : Tab} (hT : T.ok P) {x : α} {ad : Addr} (h : El enc sz hs x ad) {t e' s' : Nat} (ht : ty T t = some (.slice e' s')) {v : Value} (hv : enc x = [v]) : Ld P hs t ad v := by
  obtain ⟨h1, b, o, cs, t', fr, rfl, hb, hr⟩ := h
  rw [hv] at hr h1
  simp at h1
  subst h1
  refine Ld.slc hT ht hb ?_
  have : ((cs.drop o).take 1)[0]? = some v := by rw [hr]; rfl
  rw [List.getElem?_take] at this
  simpa using this
theorem El.ld_struct {P : Program} {T : Tab} (hT : T.ok P) {x : α} {ad : Addr} (h : El enc sz hs x ad) {t : Nat} {offs : List (Nat × Nat)} (ht : ty T t = some (.struct offs sz)) : Ld P hs t ad (.agg ⟨enc x⟩) := by
  obtain ⟨h1, b, o, cs, t', fr, rfl, hb, hr⟩ := h
  exact Ld.struct hT ht hb hr h1
theorem El.ld_arr {P : Program} {T : Tab} (hT : T.ok P) {x : α} {ad : Addr} {m e' s' : Nat} (h : El enc (m * s') hs x ad) {t : Nat} (ht : ty T t = some (.arr m e' s')) : Ld P hs t ad (.agg ⟨enc x⟩) := by
  obtain ⟨h1, b, o, cs, t', fr, rfl, hb, hr⟩ := h
  exact Ld.arr hT ht hb hr h1
/-- a field of what lies at ad -/
theorem El.at {P : Program} {x : α} {ad : Addr} (h : El enc sz hs x ad) : ∃ b o, ad = ⟨b, o, none⟩ ∧ ∀ {T : Tab}, T.ok P → ∀ {t : Nat} {d : TypeDesc}, ty T t = some (.one d) → ∀ {j : Nat} {v : Value}, (enc x)[j]? = some v → Ld P hs t ⟨b, o + j, none⟩ v := by
  obtain ⟨h1, b, o, cs, t', fr, rfl, hb, hr⟩ := h
  refine ⟨b, o, rfl, fun hT t d ht j v hj => Ld.one hT ht hb ?_⟩
  rw [← hr, List.getElem?_take] at hj
  split at hj
  · rw [List.getElem?_drop] at hj; exact hj
  · cases hj
end

/-- a slice type and its element -/
structure Elem (P : Program) (t e sz : Nat) : Prop where
  und : P.underlying t = some (.slice e)
  size : ∀ w, (sizeOf e).run P w = .ok sz w
  info : ∃ i, (∀ w, (typeInfo e).run P w = .ok i w) ∧ 0 < i.bytes ∧ i.bytes ≤ 4096
  zero : ∃ z, (∀ w, (zeroValue e).run P w = .ok z w) ∧ z.cells.size = sz

section
variable [Outer] {X : Cx} {k : Kont} {R : Reg} {hs : List Chunk} {ops : Array Oper} {l : List Oper} {T : Tab} {d ty' : Nat} {pos : String} {after : Array Edge} {gd : Option (Nat × Bool)}
  {α : Type} {enc : α → List Value} {sz e t : Nat}

theorem OT.index {x ix : Operand} {v : Value} {xs : List α} {kk : IntKind} {i : Int} {y : α} (hT : T.ok X.P) (ht : ty T t = some (.slice e sz)) (hg : grd ops R gd = some true) (hx : ev R x = some v) (hix : ev R ix = some (.int kk i))
    (hrow : Row enc sz hs v xs) (h0 : 0 ≤ i) (hi : xs[i.toNat]? = some y) (hdn : Nat.ble (d + 1) X.n = true)
    (h : ∀ ad, El enc sz hs y ad → OT X ops l k ((d, .pointer (some ad)) :: R) hs) : OT X ops (⟨some d, .indexAddr t x ix, ty', pos, after, gd⟩ :: l) k R hs := by
  obtain ⟨b, o, cap, rfl, hel⟩ := hrow.el hi
  have hil : i.toNat < xs.length := (List.getElem?_eq_some_iff.1 hi).1
  refine OT.value hg rfl hdn fun a w ha hm => ⟨.pointer (some ⟨b, o + i.toNat * sz, none⟩), hs, w, ?_, hm, h _ hel⟩
  have hu := (hT.ty ht).1
  have hsz := (hT.ty ht).2.1 w
  simp only [execOp, ha.ev hx, ha.ev hix]
  have : (Instr.indexAt t (.slice (some ⟨b, o, none⟩) xs.length cap) (.int kk i)).run X.P w = .ok (.pointer (some ⟨b, o + i.toNat * sz, none⟩)) w := by
    have hlt : i < (xs.length : Int) := by omega
    simp [Instr.indexAt, asIntOf, run_underlying hu, h0, hlt, hsz, addr_add]
  simp [this]

omit [Outer] in
theorem slice_run {P : Program} (hu : P.underlying t = some (.slice e)) (hsz : ∀ w, (sizeOf e).run P w = .ok sz w) (a : Option Addr) (n cap : Nat) (lo hi : Option Value) (l h : Nat)
    (hlo : (lo = none ∧ l = 0) ∨ ∃ kk, lo = some (.int kk l)) (hhi : (hi = none ∧ h = n) ∨ ∃ kk, hi = some (.int kk h)) (h1 : l ≤ h) (h2 : h ≤ cap) (w : World) :
    (Instr.sliceAt t (.slice a n cap) lo hi none).run P w = .ok (.slice (if cap = l then a else a.map (·.add (l * sz))) (h - l) (cap - l)) w := by
  rcases hlo with ⟨rfl, rfl⟩ | ⟨k1, rfl⟩ <;> rcases hhi with ⟨rfl, rfl⟩ | ⟨k2, rfl⟩
  · simp [Instr.sliceAt, run_underlying hu, Instr.slice, Instr.sliceBounds, hsz w]
  · simp [Instr.sliceAt, run_underlying hu, Instr.slice, Instr.sliceBounds, hsz w, Instr.sliceBound, asIntOf, h2]
  · simp [Instr.sliceAt, run_underlying hu, Instr.slice, Instr.sliceBounds, hsz w, Instr.sliceBound, asIntOf, h1]
  · simp [Instr.sliceAt, run_underlying hu, Instr.slice, Instr.sliceBounds, hsz w, Instr.sliceBound, asIntOf, h1, h2]

def evo (R : Reg) : Option Operand → Option (Option Value)
  | none => some none
  | some x => match ev R x with
    | some v => some (some v)
    | none => none
omit [Outer] in
theorem Fits.evo {n : Nat} {a : Act} (ha : Fits n R a) {x : Option Operand} {v : Option Value} (h : Sx.evo R x = some v) : x.map a.eval = v := by
  cases x with
  | none => exact Option.some.inj h
  | some x =>
    simp only [Sx.evo] at h
    split at h
    · rename_i u hu
      rw [← Option.some.inj h, Option.map_some, ha.ev hu]
    · cases h
/-- a bound of a slice expression: left out, or a number -/
def bnd (x : Option Value) (dflt : Nat) (l : Nat) : Prop := (x = none ∧ l = dflt) ∨ ∃ kk, x = some (.int kk l)

theorem OT.slice {x : Operand} {lo hi : Option Operand} {v : Value} {vl vh : Option Value} {xs : List α} (L H : Nat) (hT : T.ok X.P) (ht : ty T t = some (.slice e sz)) (hg : grd ops R gd = some true) (hx : ev R x = some v)
    (hlo : evo R lo = some vl) (hhi : evo R hi = some vh) (hrow : Row enc sz hs v xs) (hL : bnd vl 0 L) (hH : bnd vh xs.length H) (h1 : L ≤ H) (h2 : H ≤ xs.length) (hdn : Nat.ble (d + 1) X.n = true)
    (h : ∀ v', Row enc sz hs v' ((xs.take H).drop L) → OT X ops l k ((d, v') :: R) hs) : OT X ops (⟨some d, .slice t x lo hi none, ty', pos, after, gd⟩ :: l) k R hs := by
  have hu := (hT.ty ht).1
  have hsz := (hT.ty ht).2.1
  have hlen : ((xs.take H).drop L).length = H - L := by simp; omega
  have hmem : ∀ y ∈ (xs.take H).drop L, (enc y).length = sz := fun y hy => hrow.1 y (List.mem_of_mem_take (List.mem_of_mem_drop hy))
  rcases hrow.2 with ⟨rfl, rfl⟩ | ⟨b, o, cap, cs, t', fr, rfl, hb, hc, hr⟩
  · simp at h2
    subst h2
    obtain rfl : L = 0 := by omega
    refine OT.value hg rfl hdn fun a w ha hm => ⟨.slice none 0 0, hs, w, ?_, hm, h _ (by simpa using Row.nil)⟩
    simp only [execOp, ha.ev hx, ha.evo hlo, ha.evo hhi, Option.map_none]
    have := slice_run hu hsz none 0 0 vl vh 0 0 hL hH (Nat.le_refl _) (Nat.le_refl _) w
    simp [this]
  · refine OT.value hg rfl hdn fun a w ha hm => ⟨_, hs, w, ?_, hm, h (.slice (if cap = L then some ⟨b, o, none⟩ else some ⟨b, o + L * sz, none⟩) (H - L) (cap - L)) ⟨hmem, .inr ?_⟩⟩
    · simp only [execOp, ha.ev hx, ha.evo hlo, ha.evo hhi, Option.map_none]
      have := slice_run hu hsz (some ⟨b, o, none⟩) xs.length cap vl vh L H hL hH h1 (by omega) w
      simp only [Option.map_some, addr_add] at this
      simp [this]
    · by_cases hcl : cap = L
      · have e1 : H - L = 0 := by omega
        have e0 : (xs.take H).drop L = [] := List.eq_nil_of_length_eq_zero (by rw [hlen, e1])
        refine ⟨b, o, cap - L, cs, t', fr, by rw [if_pos hcl, e0, e1]; rfl, hb, by rw [e0]; simp, by rw [e0]; simp⟩
      · refine ⟨b, o + L * sz, cap - L, cs, t', fr, by rw [if_neg hcl, hlen], hb, by rw [hlen]; omega, ?_⟩
        rw [hlen, ← flatMap_drop (fun y hy => hrow.1 y (List.mem_of_mem_take hy)), ← flatMap_take hrow.1, ← hr, List.take_take, Nat.min_eq_left (Nat.mul_le_mul_right _ h2), List.drop_take, List.drop_drop, Nat.sub_mul]

omit [Outer] in
/-- a piece of a known block read as a slice -/
theorem Row.of_blk {b o cap : Nat} {cs : List Value} {t' : Nat} {fr : Nat × Nat} {xs : List α} {n : Nat} (hb : Has hs b (blk cs t' fr)) (henc : ∀ x ∈ xs, (enc x).length = sz) (hn : xs.length = n) (hc : n ≤ cap)
    (hr : (cs.drop o).take (n * sz) = xs.flatMap enc) : Row enc sz hs (.slice (some ⟨b, o, none⟩) n cap) xs := by
  subst hn
  exact ⟨henc, .inr ⟨b, o, cap, cs, t', fr, rfl, hb, hc, hr⟩⟩
/-- arr[l:h], arr an array in memory: l < its length -/
theorem OT.slice_arr {x : Operand} {lo hi : Option Operand} {vl vh : Option Value} {n b o : Nat} (L H : Nat) (hT : T.ok X.P) (ht : ty T t = some (.arr n e sz)) (hg : grd ops R gd = some true) (hx : ev R x = some (.pointer (some ⟨b, o, none⟩)))
    (hlo : evo R lo = some vl) (hhi : evo R hi = some vh) (hL : bnd vl 0 L) (hH : bnd vh n H) (h1 : L ≤ H) (h2 : H ≤ n) (h3 : L < n) (hdn : Nat.ble (d + 1) X.n = true)
    (h : OT X ops l k ((d, .slice (some ⟨b, o + L * sz, none⟩) (H - L) (n - L)) :: R) hs) : OT X ops (⟨some d, .slice t x lo hi none, ty', pos, after, gd⟩ :: l) k R hs := by
  have hu := (hT.ty ht).1
  have hsz := (hT.ty ht).2.1
  refine OT.value hg rfl hdn fun a w ha hm => ⟨_, hs, w, ?_, hm, h⟩
  simp only [execOp, ha.ev hx, ha.evo hlo, ha.evo hhi, Option.map_none]
  have hne : ¬ n = L := by omega
  rcases hL with ⟨rfl, rfl⟩ | ⟨k1, rfl⟩ <;> rcases hH with ⟨rfl, rfl⟩ | ⟨k2, rfl⟩
  · simp [Instr.sliceAt, run_underlying hu, Instr.sureAddr, Instr.sliceBounds, hsz w, addr_add]
  · simp [Instr.sliceAt, run_underlying hu, Instr.sureAddr, Instr.sliceBounds, hsz w, Instr.sliceBound, asIntOf, h2, addr_add]
  · simp [Instr.sliceAt, run_underlying hu, Instr.sureAddr, Instr.sliceBounds, hsz w, Instr.sliceBound, asIntOf, h1, hne, addr_add]
  · simp [Instr.sliceAt, run_underlying hu, Instr.sureAddr, Instr.sliceBounds, hsz w, Instr.sliceBound, asIntOf, h1, h2, hne, addr_add]
end
end Go.Sx
