/- What is read of an argument, in the words of the small logic: rows of elements, opened. -/
import Derived.Test.YtoalhcodigpgkaaSxR
import Derived.OpenShut
import Derived.Carry
namespace Go.Sx
open Go Go.ChangeShapes Go.WideShapes
section
variable {H : Type} {enc : TypeId × Value → H} {P : Program} {w : World} {base : Nat} {spare : Nat → Bool} {held : Bool} {α : Type}

/-- pieces of sz cells, each one an element -/
theorem pieces {e : α → List Value} {Q : α → Prop} {sz : Nat} (cs : List Value) (o : Nat) : ∀ n : Nat, (∀ i, i < n → ∃ x, (cs.drop (o + i * sz)).take sz = e x ∧ Q x) →
    ∃ xs : List α, xs.length = n ∧ (cs.drop o).take (n * sz) = xs.flatMap e ∧ ∀ x ∈ xs, Q x := by
  intro n
  induction n with
  | zero => intro _; exact ⟨[], rfl, by simp, by simp⟩
  | succ n ih =>
    intro h
    obtain ⟨xs, hl, hx, hq⟩ := ih fun i hi => h i (by omega)
    obtain ⟨x, hx1, hq1⟩ := h n (by omega)
    refine ⟨xs ++ [x], by simp [hl], ?_, ?_⟩
    · rw [Nat.succ_mul, List.take_add, hx, List.drop_drop, hx1]
      simp
    · intro y hy
      rcases List.mem_append.1 hy with hy | hy
      · exact hq y hy
      · rw [List.mem_singleton] at hy; subst hy; exact hq1

/-- every reading at type t is an element's -/
def Reads (P : Program) (t : TypeId) (e : α → List Value) (Q : α → Prop) : Prop :=
  ∀ {H : Type} {enc : TypeId × Value → H} {w : World} {base : Nat} {spare : Nat → Bool} {held : Bool} {n : Nat} {cs : List Value} {x : DataW H × List MemPlace},
    DataW.trod enc P w base spare held n t cs = some x → ∃ a : α, cs = e a ∧ Q a

theorem reads_i64 {t : TypeId} (ht : P.underlying t = some (.int .i64)) : Reads P t encI fun n => -9223372036854775808 ≤ n ∧ n ≤ 9223372036854775807 := by
  intro H enc w base spare held n cs x h
  obtain ⟨m, rfl, _, hw⟩ := DataW.trod_int ht h
  simp only [Lit.wf, Bool.and_eq_true, decide_eq_true_eq] at hw
  exact ⟨m, rfl, hw⟩
theorem reads_u8 {t : TypeId} (ht : P.underlying t = some (.int .u8)) : Reads P t encB fun _ => True := by
  intro H enc w base spare held n cs x h
  obtain ⟨m, rfl, _, hw⟩ := DataW.trod_int ht h
  simp only [Lit.wf, Bool.and_eq_true, decide_eq_true_eq] at hw
  have h0 : 0 ≤ m := hw.1
  have h1 : m ≤ 255 := hw.2
  refine ⟨UInt8.ofNat m.toNat, ?_, trivial⟩
  have : ((UInt8.ofNat m.toNat).toNat : Int) = m := by rw [UInt8.toNat_ofNat']; omega
  unfold encB
  rw [this]
theorem reads_bool {t : TypeId} (ht : P.underlying t = some .bool) : Reads P t encBool fun _ => True := by
  intro H enc w base spare held n cs x h
  obtain ⟨b, rfl, _⟩ := DataW.trod_bool ht h
  exact ⟨b, rfl, trivial⟩
theorem reads_string {t : TypeId} (ht : P.underlying t = some .string) : Reads P t encS fun s => s.size ≤ maxLen := by
  intro H enc w base spare held n cs x h
  cases n with
  | zero => simp [DataW.trod] at h
  | succ n =>
    unfold DataW.trod at h
    rw [ht] at h
    split at h <;> simp_all
/-- an array of n of them -/
theorem reads_array {t e' : TypeId} {n sz : Nat} {e : α → List Value} {Q : α → Prop} (ht : P.underlying t = some (.array n e')) (hc : P.cellsOf t = n * sz) (hs : P.cellsOf e' = sz) (he : Reads P e' e Q) :
    Reads P t (fun xs : List α => xs.flatMap e) fun xs => xs.length = n ∧ ∀ x ∈ xs, Q x := by
  intro H enc w base spare held m cs x h
  obtain ⟨xs, m', _, _, hl, hn, hi⟩ := DataW.trod_array ht h
  obtain ⟨ys, hy1, hy2, hy3⟩ := pieces (e := e) (Q := Q) (sz := sz) cs 0 n fun i hlt => by
    have := hi i hlt
    rw [List.getElem?_eq_getElem (by omega), hs] at this
    obtain ⟨a, ha, hq⟩ := he this
    exact ⟨a, by rw [Nat.zero_add]; exact ha, hq⟩
  refine ⟨ys, ?_, hy1, hy3⟩
  rw [List.drop_zero, List.take_of_length_le (by omega)] at hy2
  exact hy2
/-- field f of a struct -/
theorem reads_field {t : TypeId} {fs : Array Field} {i : Nat} {f : Field} {e : α → List Value} {Q : α → Prop} (ht : P.underlying t = some (.struct fs)) (hf : fs[i]? = some f) (he : Reads P f.type e Q)
    {H : Type} {enc : TypeId × Value → H} {w : World} {base : Nat} {spare : Nat → Bool} {held : Bool} {n : Nat} {cs : List Value} {x : DataW H × List MemPlace}
    (h : DataW.trod enc P w base spare held n t cs = some x) : ∃ a : α, (cs.drop f.offset).take (P.cellsOf f.type) = e a ∧ Q a := by
  obtain ⟨xs, m, _, _, hl, hn, hi⟩ := DataW.trod_struct ht h
  have := hi i f hf
  have hlt : i < fs.size := (Array.getElem?_eq_some_iff.1 hf).1
  rw [List.getElem?_eq_getElem (by omega)] at this
  exact he this
theorem struct_len {t : TypeId} {fs : Array Field} (ht : P.underlying t = some (.struct fs)) {H : Type} {enc : TypeId × Value → H} {w : World} {base : Nat} {spare : Nat → Bool} {held : Bool} {n : Nat} {cs : List Value} {x : DataW H × List MemPlace}
    (h : DataW.trod enc P w base spare held n t cs = some x) : cs.length = P.cellsOf t := by
  obtain ⟨xs, m, _, _, hl, _⟩ := DataW.trod_struct ht h
  exact hl

theorem cells_seg {a : Addr} {n : Nat} {cs : List Value} {c : Array Value} {el : TypeId} {fr : Nat × Nat} (h : w.cells? base a n = some cs) (hs : a.spot = none) (hb : w.heap[a.block]? = some (.cells c el fr)) :
    (c.toList.drop a.off).take n = cs := by
  obtain ⟨_, hl, hc⟩ := World.cells?_some h
  apply List.ext_getElem?
  intro j
  by_cases hj : j < n
  · rw [List.getElem?_take, if_pos hj, List.getElem?_drop, ← hc j hj]
    have e : w.cell? (a.add j) = c[a.off + j]? := by
      obtain ⟨b, o, sp⟩ := a
      dsimp only at hs hb ⊢
      subst hs
      simp only [World.cell?, addr_add, hb]
      rfl
    rw [e, Array.getElem?_toList]
  · rw [List.getElem?_eq_none (by rw [List.length_take]; omega), List.getElem?_eq_none (by omega)]

theorem has_cells {r : Reach} {b0 : Nat} {a : Addr} {e : TypeId} {n : Nat} (h : w.has P r b0 a e n) : a.spot = none ∧ ∃ c el fr, w.heap[a.block]? = some (.cells c el fr) := by
  obtain ⟨_, hs, row, cells, hsh, _⟩ := h
  refine ⟨hs, ?_⟩
  unfold World.shape? at hsh
  split at hsh
  · exact ⟨_, _, _, by assumption⟩
  · cases hsh

/-- a slice that is read is a row -/
theorem slice_row {t e' : TypeId} {sz : Nat} {e : α → List Value} {Q : α → Prop} (ht : P.underlying t = some (.slice e')) (hs : P.cellsOf e' = sz) (he : Reads P e' e Q)
    {r : Reach} {b0 : Nat} {v : Value} (hok : Cell.okWide P w r b0 t v) {n : Nat} {x : DataW H × List MemPlace} (h : DataW.trod enc P w base spare held n t [v] = some x) (hlen : ∀ a, (e a).length = sz ∨ ¬ Q a) :
    ∃ xs : List α, Row e sz [all w] v xs ∧ xs.length ≤ maxLen ∧ ∀ a ∈ xs, Q a := by
  rcases DataW.trod_slice ht h with ⟨hv, _⟩ | ⟨a, len, cap, elems, rest, m, _, hv, _, _, hlc, hcm, hel, hi, _⟩
  · injection hv with hv _
    subst hv
    exact ⟨[], ⟨by simp, .inl ⟨rfl, rfl⟩⟩, by simp, by simp⟩
  · injection hv with hv _
    subst hv
    unfold Cell.okWide at hok
    rw [ht] at hok
    dsimp only at hok
    unfold Cell.ok at hok
    rw [ht] at hok
    obtain ⟨hsp, c, el, fr, hb⟩ := has_cells hok.2.2
    obtain ⟨b, o, sp⟩ := a
    dsimp only at hsp hb
    subst hsp
    obtain ⟨xs, hx1, hx2, hx3⟩ := pieces (e := e) (Q := Q) (sz := sz) c.toList o len fun i hlt => by
      have h1 := hi i hlt
      rw [hs, List.getElem?_eq_getElem (by omega), Option.bind_eq_some_iff] at h1
      obtain ⟨cs, h2, h3⟩ := h1
      obtain ⟨y, rfl, hq⟩ := he h3
      rw [addr_add] at h2
      exact ⟨y, cells_seg (a := ⟨b, o + i * sz, none⟩) h2 rfl hb, hq⟩
    refine ⟨xs, ⟨fun y hy => (hlen y).resolve_right fun h => h (hx3 y hy), .inr ⟨b, o, cap, c.toList, el, fr, by rw [hx1], has_all hb, by omega, by rw [hx1]; exact hx2⟩⟩, by omega, hx3⟩

theorem okWide_struct {r : Reach} {b0 : Nat} {t : TypeId} {fs : Array Field} {v : Value} (ht : P.underlying t = some (.struct fs)) (h : Value.okWide P w r b0 t v) : ∃ cs, v = .agg cs ∧ cs.size = P.cellsOf t ∧ Row.okWide P w r b0 t cs := by
  unfold Value.okWide at h
  rw [ht] at h
  exact h
theorem okWide_slice {r : Reach} {b0 : Nat} {t e' : TypeId} {v : Value} (ht : P.underlying t = some (.slice e')) (h : Value.okWide P w r b0 t v) : Cell.okWide P w r b0 t v ∧ v.cells.toList = [v] := by
  unfold Value.okWide at h
  rw [ht] at h
  refine ⟨h, ?_⟩
  cases v with
  | agg cs =>
    exfalso
    unfold Cell.okWide at h
    rw [ht] at h
    dsimp only at h
    unfold Cell.ok at h
    rw [ht] at h
    exact h
  | _ => rfl
/-- a slice among the arguments -/
theorem open_row {t e' : TypeId} {sz : Nat} {e : α → List Value} {Q : α → Prop} (ht : P.underlying t = some (.slice e')) (hs : P.cellsOf e' = sz) (he : Reads P e' e Q)
    {r : Reach} {b0 : Nat} {v : Value} {d : DataW H} {p : List MemPlace} (hok : Value.okWide P w r b0 t v) (h : DataW.Trod enc P w 0 (fun _ => true) true t v d p) (hlen : ∀ a, (e a).length = sz ∨ ¬ Q a) :
    ∃ xs : List α, Row e sz [all w] v xs ∧ xs.length ≤ maxLen ∧ ∀ a ∈ xs, Q a := by
  obtain ⟨h1, h2⟩ := okWide_slice ht hok
  obtain ⟨fuel, h⟩ := h
  rw [h2] at h
  exact slice_row ht hs he h1 h hlen
/-- cell i of a struct among the arguments -/
theorem row_cell {r : Reach} {b0 : Nat} {t : TypeId} {cs : Array Value} {ts : List TypeId} (hts : P.cellTypes P.depth t = some ts) (h : Row.okWide P w r b0 t cs) {i : Nat} {v : Value} (hv : cs[i]? = some v) {u : TypeId} (hu : ts[i % ts.length]? = some u) : Cell.okWide P w r b0 u v := by
  obtain ⟨ts', h1, _, h2⟩ := h
  rw [hts] at h1
  obtain rfl := Option.some.inj h1
  obtain ⟨u', h3, h4⟩ := h2 i v hv
  rw [hu] at h3
  obtain rfl := Option.some.inj h3
  exact h4
/-- field i of a struct among the arguments, a slice -/
theorem field_row {t t' e' : TypeId} {fs : Array Field} {f : Field} {i sz : Nat} {e : α → List Value} {Q : α → Prop} (hst : P.underlying t = some (.struct fs)) (hf : fs[i]? = some f) (ht' : f.type = t') (ht : P.underlying t' = some (.slice e')) (hs : P.cellsOf e' = sz) (he : Reads P e' e Q)
    {r : Reach} {b0 : Nat} {v : Value} {cs : List Value} {n : Nat} {x : DataW H × List MemPlace} (hok : Cell.okWide P w r b0 t' v) (hv : (cs.drop f.offset).take (P.cellsOf f.type) = [v])
    (h : DataW.trod enc P w 0 (fun _ => true) true n t cs = some x) (hlen : ∀ a, (e a).length = sz ∨ ¬ Q a) :
    ∃ xs : List α, Row e sz [all w] v xs ∧ xs.length ≤ maxLen ∧ ∀ a ∈ xs, Q a := by
  obtain ⟨xs0, m, _, _, _, hn, hi⟩ := DataW.trod_struct hst h
  have h1 := hi i f hf
  have hlt : i < fs.size := (Array.getElem?_eq_some_iff.1 hf).1
  rw [List.getElem?_eq_getElem (by omega), hv, ht'] at h1
  exact slice_row ht hs he hok h1 hlen

/-- what was read ahead of the call is read behind it -/
theorem trodAll_old {w' : World} (hl : laidOutB P = true) (hO : Old w w') : ∀ {ts : List TypeId} {vs : List Value} {ds : List (DataW H)} {ps : List MemPlace}, (∀ t ∈ ts, P.readableRec t = true ∧ t < P.types.size) →
    DataW.TrodAll enc P w base (fun _ => true) true ts vs ds ps → (∀ p ∈ ps, spare p.block = true) → (∀ p ∈ ps, p.block < w.heap.size) → DataW.TrodAll enc P w' base spare true ts vs ds ps
  | [], [], [], _, _, h, _, _ => h
  | t :: ts, v :: vs, d :: ds, ps, ht, ⟨p, q, h1, h2, e⟩, hs, hp => by
    subst e
    refine ⟨p, q, ?_, trodAll_old hl hO (fun t' h' => ht t' (by simp [h'])) h2 (fun x hx => hs x (by simp [hx])) (fun x hx => hp x (by simp [hx])), rfl⟩
    refine WideElems.Trod_stays hl (ht t (by simp)).1 (ht t (by simp)).2 h1 (fun x hx => ?_) (fun x hx => hs x (by simp [hx]))
    have hb := hO.heap x.block (hp x (by simp [hx]))
    cases x with
    | cell b o => exact World.cell?_of_block (w := w) hb
    | map b => exact hb
  | [], _ :: _, _, _, _, h, _, _ => h.elim
  | [], [], _ :: _, _, _, h, _, _ => h.elim
  | _ :: _, [], _, _, _, h, _, _ => h.elim
  | _ :: _, _ :: _, [], _, _, h, _, _ => h.elim
end
end Go.Sx
