/- A small logic over the model's weakest preconditions: registers known in part, memory known in part. No program in sight. -/
import Derived.WalkKit
namespace Go.Sx
open Go

/-! ### Registers known in part -/
abbrev Reg := List (Nat × Value)

def look : Reg → Nat → Option Value
  | [], _ => none
  | p :: r, t => cond (Nat.beq p.1 t) (some p.2) (look r t)

structure Fits (n : Nat) (R : Reg) (a : Act) : Prop where
  size : a.tmps.size = n
  defers : a.defers = []
  regs : ∀ t v, look R t = some v → a.tmps.getD t undef = v

theorem look_cons (u : Nat) (v : Value) (r : Reg) (t : Nat) : look ((u, v) :: r) t = if u = t then some v else look r t := by
  by_cases h : u = t
  · subst h; simp [look]
  · have h' : Nat.beq u t = false := by
      cases hb : Nat.beq u t
      · rfl
      · exact (h (Nat.eq_of_beq_eq_true hb)).elim
    simp [look, h, h']

theorem Fits.put {n : Nat} {R : Reg} {a : Act} (h : Fits n R a) {d : Nat} (hd : Nat.ble (d + 1) n = true) (v : Value) : Fits n ((d, v) :: R) (a.put (some d) v) := by
  have hd' : d < n := Nat.le_of_ble_eq_true hd
  refine ⟨by simp [Act.put, h.size], by simp [Act.put, h.defers], ?_⟩
  intro t u hl
  rw [look_cons] at hl
  simp only [Act.put, Array.getD_eq_getD_getElem?]
  by_cases e : d = t
  · subst e
    rw [if_pos rfl] at hl
    obtain rfl := Option.some.inj hl
    rw [Array.getElem?_setIfInBounds_self_of_lt (by rw [h.size]; exact hd')]
    rfl
  · rw [if_neg e] at hl
    have := h.regs t u hl
    rw [Array.getD_eq_getD_getElem?] at this
    rw [Array.getElem?_setIfInBounds_ne e]
    exact this

def ev (R : Reg) : Operand → Option Value
  | .tmp t => look R t
  | .const v => some v
  | .global g => some (.pointer (some ⟨g, 0, none⟩))
  | .func f => some (.func (.func f) #[] #[])

theorem Fits.ev {n : Nat} {R : Reg} {a : Act} (h : Fits n R a) {x : Operand} {v : Value} (hx : ev R x = some v) : a.eval x = v := by
  cases x with
  | tmp t => exact h.regs t v hx
  | const u => exact Option.some.inj hx
  | global g => exact Option.some.inj hx
  | func f => exact Option.some.inj hx

def evs (R : Reg) : List Operand → Option (List Value)
  | [] => some []
  | x :: l => match ev R x, evs R l with
    | some v, some vs => some (v :: vs)
    | _, _ => none

theorem Fits.evs {n : Nat} {R : Reg} {a : Act} (h : Fits n R a) : ∀ {l : List Operand} {vs : List Value}, evs R l = some vs → l.map a.eval = vs := by
  intro l
  induction l with
  | nil => intro vs hl; simp [Sx.evs] at hl; simp [hl]
  | cons x l ih =>
    intro vs hl
    simp only [Sx.evs] at hl
    split at hl
    · rename_i v vs' hv hvs
      obtain rfl := Option.some.inj hl
      simp [h.ev hv, ih hvs]
    · cases hl

/-- the registers of R' are among those of R -/
def SubR (R' R : Reg) : Prop := ∀ t v, look R' t = some v → look R t = some v
theorem SubR.nil (R : Reg) : SubR [] R := fun t v h => by simp [look] at h
theorem SubR.cons {R' R : Reg} {t : Nat} {v : Value} (h : look R t = some v) (hr : SubR R' R) : SubR ((t, v) :: R') R := by
  intro u x hl
  rw [look_cons] at hl
  by_cases e : t = u
  · subst e; rw [if_pos rfl] at hl; rw [← hl]; exact h
  · rw [if_neg e] at hl; exact hr u x hl
theorem SubR.cons' {R' R : Reg} {t : Nat} {u v : Value} (h : look R t = some u) (e : u = v) (hr : SubR R' R) : SubR ((t, v) :: R') R := SubR.cons (e ▸ h) hr
theorem SubR.refl (R : Reg) : SubR R R := fun _ _ h => h
theorem Fits.sub {n : Nat} {R R' : Reg} {a : Act} (h : Fits n R a) (hs : SubR R' R) : Fits n R' a := ⟨h.size, h.defers, fun t v hl => h.regs t v (hs t v hl)⟩

/-! ### Memory known in part: chunks of blocks -/
abbrev Chunk := List (Nat × Obj)
/-- what is outside the memory, and stays: the system, what was printed -/
class Outer where
  os : Os
  out : Array (Nat × ByteArray)
variable [Outer]

structure Mem (hs : List Chunk) (w : World) : Prop where
  nodup : (hs.flatten.map Prod.fst).Nodup
  has : ∀ b o, (b, o) ∈ hs.flatten → w.heap[b]? = some o
  outer : w.os = Outer.os ∧ w.output = Outer.out

/-- chunk A is in hs, r is what is left -/
inductive Pull : List Chunk → Chunk → List Chunk → Prop
  | head {A : Chunk} {r : List Chunk} : Pull (A :: r) A r
  | tail {A B : Chunk} {l r : List Chunk} : Pull l A r → Pull (B :: l) A (B :: r)

omit [Outer] in
theorem Pull.perm {hs : List Chunk} {A : Chunk} {r : List Chunk} (h : Pull hs A r) : hs.flatten.Perm (A ++ r.flatten) := by
  induction h with
  | head => simp
  | @tail A B l r _ ih =>
    simp only [List.flatten_cons]
    refine (List.Perm.append_left B ih).trans ?_
    rw [← List.append_assoc, ← List.append_assoc]
    exact List.Perm.append_right _ List.perm_append_comm

theorem Mem.perm {hs hs' : List Chunk} {w : World} (h : Mem hs w) (hp : hs.flatten.Perm hs'.flatten) : Mem hs' w :=
  ⟨(hp.map _).nodup_iff.1 h.nodup, fun b o hb => h.has b o (hp.symm.subset hb), h.outer⟩

theorem Mem.pull {hs : List Chunk} {A : Chunk} {r : List Chunk} {w : World} (h : Mem hs w) (hp : Pull hs A r) : Mem (A :: r) w :=
  h.perm (by simpa using hp.perm)

theorem Mem.drop {A : Chunk} {r : List Chunk} {w : World} (h : Mem (A :: r) w) : Mem r w := by
  refine ⟨?_, fun b o hb => h.has b o (by simp [hb]), h.outer⟩
  have := h.nodup
  simp only [List.flatten_cons, List.map_append] at this
  exact (List.nodup_append.1 this).2.1

/-- hs' is a choice of chunks out of hs -/
inductive Sel : List Chunk → List Chunk → Prop
  | refl (hs : List Chunk) : Sel hs hs
  | pull {hs : List Chunk} {A : Chunk} {r hs' : List Chunk} : Pull hs A r → Sel r hs' → Sel hs (A :: hs')
  | drop {A : Chunk} {r hs' : List Chunk} : Sel r hs' → Sel (A :: r) hs'
  | empty {hs hs' : List Chunk} : Sel hs hs' → Sel hs ([] :: hs')
  | join {hs hs' : List Chunk} {A B : Chunk} : Sel hs (A :: B :: hs') → Sel hs ((A ++ B) :: hs')
  | split {A B : Chunk} {r hs' : List Chunk} : Sel (A :: B :: r) hs' → Sel ((A ++ B) :: r) hs'

/-- an empty chunk more -/
theorem Sel.none {hs : List Chunk} : Mem hs = Mem ([] :: hs) := by
  funext w
  refine propext ⟨fun h => ⟨by simpa using h.nodup, by simpa using h.has, h.outer⟩, fun h => ⟨by simpa using h.nodup, by simpa using h.has, h.outer⟩⟩

omit [Outer] in
theorem Sel.perm {hs hs' : List Chunk} (h : Sel hs hs') : ∃ rest : Chunk, hs.flatten.Perm (hs'.flatten ++ rest) := by
  induction h with
  | refl => exact ⟨[], by simp⟩
  | @pull hs A r hs' hp _ ih =>
    obtain ⟨rest, ih⟩ := ih
    exact ⟨rest, hp.perm.trans (by simpa using List.Perm.append_left A ih)⟩
  | @drop A r hs' _ ih =>
    obtain ⟨rest, ih⟩ := ih
    refine ⟨A ++ rest, ?_⟩
    simp only [List.flatten_cons]
    refine (List.Perm.append_left A ih).trans ?_
    rw [← List.append_assoc, ← List.append_assoc]
    exact List.Perm.append_right _ List.perm_append_comm
  | empty _ ih => simpa using ih
  | join _ ih => obtain ⟨rest, ih⟩ := ih; exact ⟨rest, by simpa [List.append_assoc] using ih⟩
  | split _ ih => obtain ⟨rest, ih⟩ := ih; exact ⟨rest, by simpa [List.append_assoc] using ih⟩

theorem Mem.sel {hs hs' : List Chunk} {w : World} (h : Mem hs w) (hsel : Sel hs hs') : Mem hs' w := by
  obtain ⟨rest, hp⟩ := hsel.perm
  refine ⟨?_, fun b o hb => h.has b o (hp.symm.subset (by simp [hb])), h.outer⟩
  have := (hp.map Prod.fst).nodup_iff.1 h.nodup
  rw [List.map_append, List.nodup_append] at this
  exact this.1

/-- a block is known -/
inductive Has : List Chunk → Nat → Obj → Prop
  | here {b : Nat} {o : Obj} {A : Chunk} {r : List Chunk} : (b, o) ∈ A → Has (A :: r) b o
  | there {b : Nat} {o : Obj} {A : Chunk} {r : List Chunk} : Has r b o → Has (A :: r) b o

omit [Outer] in
theorem Has.mem {hs : List Chunk} {b : Nat} {o : Obj} (h : Has hs b o) : (b, o) ∈ hs.flatten := by
  induction h with
  | here hm => simp [hm]
  | there _ ih => simp [ih]

omit [Outer] in
theorem Has.of_mem {hs : List Chunk} {b : Nat} {o : Obj} (h : (b, o) ∈ hs.flatten) : Has hs b o := by
  induction hs with
  | nil => simp at h
  | cons A r ih =>
    simp only [List.flatten_cons, List.mem_append] at h
    cases h with
    | inl h => exact .here h
    | inr h => exact .there (ih h)

omit [Outer] in
theorem Has.one {b : Nat} {o : Obj} {r : List Chunk} : Has ([(b, o)] :: r) b o := .here (by simp)

theorem Mem.heap {hs : List Chunk} {w : World} (h : Mem hs w) {b : Nat} {o : Obj} (hb : Has hs b o) : w.heap[b]? = some o := h.has b o hb.mem

omit [Outer] in
/-- what is read of hs is read of every choice that keeps it -/
theorem Has.pull {hs : List Chunk} {A : Chunk} {r : List Chunk} (hp : Pull hs A r) {b : Nat} {o : Obj} (h : Has hs b o) : Has (A :: r) b o :=
  Has.of_mem (by have := hp.perm.subset h.mem; simpa using this)

/-- a new block -/
theorem Mem.alloc {hs : List Chunk} {w : World} (h : Mem hs w) (o : Obj) : Mem ([(w.heap.size, o)] :: hs) (w.alloc o) := by
  have hlt : ∀ b o', (b, o') ∈ hs.flatten → b < w.heap.size := by
    intro b o' hb
    have := h.has b o' hb
    exact (Array.getElem?_eq_some_iff.1 this).1
  refine ⟨?_, ?_, h.outer⟩
  · simp only [List.flatten_cons, List.map_cons, List.singleton_append, List.nodup_cons]
    refine ⟨?_, h.nodup⟩
    intro hm
    obtain ⟨⟨b, o'⟩, hb, e⟩ := List.mem_map.1 hm
    have := hlt b o' hb
    simp only at e
    omega
  · intro b o' hb
    simp only [List.flatten_cons, List.singleton_append, List.mem_cons, Prod.mk.injEq] at hb
    rcases hb with ⟨rfl, rfl⟩ | hb
    · show (w.heap.push _)[w.heap.size]? = _
      simp
    · have h1 := hlt b o' hb
      have h2 := h.has b o' hb
      show (w.heap.push _)[b]? = _
      rw [Array.getElem?_push_lt h1]
      rw [Array.getElem?_eq_getElem h1] at h2
      exact h2

theorem Mem.drewN {hs : List Chunk} {w : World} (h : Mem hs w) : Mem hs { w with drawn := w.drawn + 1 } := ⟨h.nodup, h.has, h.outer⟩

/-- one block is written -/
theorem Mem.write {b : Nat} {o o' : Obj} {hs : List Chunk} {w w' : World} (h : Mem ([(b, o)] :: hs) w)
    (hb : w'.heap[b]? = some o') (hk : ∀ c, c ≠ b → w'.heap[c]? = w.heap[c]?) (hs' : w'.os = w.os ∧ w'.output = w.output) : Mem ([(b, o')] :: hs) w' := by
  have hn := h.nodup
  simp only [List.flatten_cons, List.singleton_append, List.map_cons, List.nodup_cons] at hn
  refine ⟨?_, ?_, hs'.1.trans h.outer.1, hs'.2.trans h.outer.2⟩
  · simp only [List.flatten_cons, List.singleton_append, List.map_cons, List.nodup_cons]
    exact hn
  · intro c oc hc
    simp only [List.flatten_cons, List.singleton_append, List.mem_cons, Prod.mk.injEq] at hc
    rcases hc with ⟨rfl, rfl⟩ | hc
    · exact hb
    · have hne : c ≠ b := by
        intro e
        subst e
        exact hn.1 (List.mem_map.2 ⟨(c, oc), hc, rfl⟩)
      rw [hk c hne]
      exact h.has c oc (by simp [hc])
end Go.Sx
