/- The control rules of the small logic, and the operations that touch no memory, many at one stroke. No program in sight. -/
import Derived.Test.YtoalhcodigpgkaaSxA
import Derived.Deep.LoopGhost
namespace Go.Sx
open Go
variable [Outer]

structure Cx where
  P : Program
  fn : Func
  n : Nat
  E : Ending → World → Prop

/-- what stands behind a piece of code -/
inductive Kont
  | fin
  | seq (c : Code) (k : Kont)
  | blk (id : Nat) (k : Kont)
  | loop (I : Act → World → Prop) (k : Kont)

def Kont.Q (X : Cx) : Kont → Exit → Act → World → Prop
  | .fin => bodyPost X.P X.fn X.E
  | .seq c k => Exit.then (c.wp X.P (k.Q X)) (k.Q X)
  | .blk id k => Exit.inBlock id (k.Q X)
  | .loop I k => Exit.then I (k.Q X)

def TT (X : Cx) (c : Code) (k : Kont) (R : Reg) (hs : List Chunk) : Prop := ∀ a w, Fits X.n R a → Mem hs w → c.wp X.P (k.Q X) a w
def KT (X : Cx) (k : Kont) (R : Reg) (hs : List Chunk) : Prop := ∀ a w, Fits X.n R a → Mem hs w → k.Q X .normal a w
def XT (X : Cx) (id : Nat) (k : Kont) (R : Reg) (hs : List Chunk) : Prop := ∀ a w, Fits X.n R a → Mem hs w → k.Q X (.exit id) a w
def RT (X : Cx) (R : Reg) (hs : List Chunk) : Prop := ∀ a w, Fits X.n R a → Mem hs w → bodyPost X.P X.fn X.E .ret a w
def PT (X : Cx) (ch : List PanicEntry) (hs : List Chunk) : Prop := ∀ w, Mem hs w → X.E (.panicked ch) w
def OT (X : Cx) (ops : Array Oper) (l : List Oper) (k : Kont) (R : Reg) (hs : List Chunk) : Prop :=
  ∀ a w, Fits X.n R a → Mem hs w → wpList X.P ops (k.Q X) l a w

section
variable {X : Cx} {k : Kont} {R : Reg} {hs : List Chunk}

omit [Outer] in
theorem Kont.ret_eq (k : Kont) : k.Q X .ret = bodyPost X.P X.fn X.E .ret := by
  induction k with
  | fin => rfl
  | seq c k ih => exact ih
  | blk id k ih => exact ih
  | loop I k ih => exact ih
omit [Outer] in
theorem Kont.panic_eq (k : Kont) (ch : List PanicEntry) : k.Q X (.panic ch) = bodyPost X.P X.fn X.E (.panic ch) := by
  induction k with
  | fin => rfl
  | seq c k ih => exact ih
  | blk id k ih => exact ih
  | loop I k ih => exact ih

theorem TT.seq {x y : Code} (h : TT X x (.seq y k) R hs) : TT X (.seq x y) k R hs := fun a w ha hm => wp_seq (h a w ha hm)
theorem TT.skip (h : KT X k R hs) : TT X .skip k R hs := fun a w ha hm => wp_skip (h a w ha hm)
theorem TT.block {id : Nat} {c : Code} (h : TT X c (.blk id k) R hs) : TT X (.block id c) k R hs := fun a w ha hm => wp_block (h a w ha hm)
theorem TT.exit {id : Nat} (h : XT X id k R hs) : TT X (.exit id) k R hs := fun a w ha hm => wp_exit (h a w ha hm)
theorem TT.ret (h : RT X R hs) : TT X .ret k R hs := fun a w ha hm => wp_ret (by rw [Kont.ret_eq]; exact h a w ha hm)
theorem TT.cond_true {c : Operand} {x y : Code} (hc : ev R c = some (.bool true)) (h : TT X x k R hs) : TT X (.cond c x y) k R hs :=
  fun a w ha hm => wp_cond_true (ha.ev hc) (h a w ha hm)
theorem TT.cond_false {c : Operand} {x y : Code} (hc : ev R c = some (.bool false)) (h : TT X y k R hs) : TT X (.cond c x y) k R hs :=
  fun a w ha hm => wp_cond_false (ha.ev hc) (h a w ha hm)
theorem TT.cond {c : Operand} {x y : Code} {t : Bool} (hc : ev R c = some (.bool t)) (ht : t = true → TT X x k R hs) (hf : t = false → TT X y k R hs) :
    TT X (.cond c x y) k R hs :=
  fun a w ha hm => wp_cond_split (ha.ev hc) (fun e => ht e a w ha hm) (fun e => hf e a w ha hm)

theorem KT.seq {c : Code} (h : TT X c k R hs) : KT X (.seq c k) R hs := fun a w ha hm => h a w ha hm
theorem KT.blk {id : Nat} (h : KT X k R hs) : KT X (.blk id k) R hs := fun a w ha hm => h a w ha hm
theorem XT.seq {id : Nat} {c : Code} (h : XT X id k R hs) : XT X id (.seq c k) R hs := fun a w ha hm => h a w ha hm
theorem XT.loop {id : Nat} {I : Act → World → Prop} (h : XT X id k R hs) : XT X id (.loop I k) R hs := fun a w ha hm => h a w ha hm
theorem XT.here {id : Nat} (h : KT X k R hs) : XT X id (.blk id k) R hs := fun a w ha hm => by
  show Exit.inBlock id (k.Q X) (.exit id) a w
  simp only [Exit.inBlock, if_true]
  exact h a w ha hm
theorem XT.blk {id id' : Nat} (hne : Nat.beq id id' = false) (h : XT X id k R hs) : XT X id (.blk id' k) R hs := fun a w ha hm => by
  show Exit.inBlock id' (k.Q X) (.exit id) a w
  have : id ≠ id' := by intro e; subst e; simp at hne
  simp only [Exit.inBlock, if_neg this]
  exact h a w ha hm

/-- registers and chunks are let go, chunks put in another order -/
theorem TT.weaken {c : Code} {R' : Reg} {hs' : List Chunk} (hr : SubR R' R) (hm : Sel hs hs') (h : TT X c k R' hs') : TT X c k R hs :=
  fun a w ha hw => h a w (ha.sub hr) (hw.sel hm)
theorem KT.weaken {R' : Reg} {hs' : List Chunk} (hr : SubR R' R) (hm : Sel hs hs') (h : KT X k R' hs') : KT X k R hs :=
  fun a w ha hw => h a w (ha.sub hr) (hw.sel hm)
theorem OT.weaken {ops : Array Oper} {l : List Oper} {R' : Reg} {hs' : List Chunk} (hr : SubR R' R) (hm : Sel hs hs') (h : OT X ops l k R' hs') : OT X ops l k R hs :=
  fun a w ha hw => h a w (ha.sub hr) (hw.sel hm)

theorem TT.chunk0 {c : Code} (h : TT X c k R ([] :: hs)) : TT X c k R hs := fun a w ha hw => h a w ha (by rw [← Sel.none]; exact hw)
theorem KT.chunk0 (h : KT X k R ([] :: hs)) : KT X k R hs := fun a w ha hw => h a w ha (by rw [← Sel.none]; exact hw)
theorem OT.chunk0 {ops : Array Oper} {l : List Oper} (h : OT X ops l k R ([] :: hs)) : OT X ops l k R hs := fun a w ha hw => h a w ha (by rw [← Sel.none]; exact hw)
/-- A loop whose state is told by a ghost i; m lessens. -/
def Inv {ι : Type} (X : Cx) (A : ι → Prop) (m : ι → Nat) (S : ι → Reg) (H : ι → List Chunk) (bound : Nat) (a : Act) (w : World) : Prop :=
  ∃ j, A j ∧ m j < bound ∧ Fits X.n (S j) a ∧ Mem (H j) w
theorem TT.loop {ι : Type} (A : ι → Prop) (m : ι → Nat) (S : ι → Reg) (H : ι → List Chunk) {c : Code} (i : ι) (hi : A i) (hr : SubR (S i) R) (hm : Sel hs (H i))
    (round : ∀ j, A j → TT X c (.loop (Inv X A m S H (m j)) k) (S j) (H j)) : TT X (.loop c) k R hs := by
  intro a w ha hw
  refine wp_loop_ghost (fun n a w => ∃ j, m j = n ∧ A j ∧ Fits X.n (S j) a ∧ Mem (H j) w) (m i) ⟨i, rfl, hi, ha.sub hr, hw.sel hm⟩ ?_
  rintro n a w ⟨j, rfl, hj, ha, hw⟩
  refine wp_mono (round j hj a w ha hw) ?_
  intro e a' w' hq
  cases e with
  | normal =>
    obtain ⟨j', hA, hlt, hF, hM⟩ := hq
    exact ⟨m j', hlt, j', rfl, hA, hF, hM⟩
  | exit id => exact hq
  | goto l => exact hq
  | ret => exact hq
  | panic ch => exact hq
  | outgrown => exact hq
theorem KT.loop {ι : Type} {A : ι → Prop} {m : ι → Nat} {S : ι → Reg} {H : ι → List Chunk} {b : Nat} (j : ι) (hj : A j) (hlt : m j < b) (hr : SubR (S j) R) (hm : Sel hs (H j)) :
    KT X (.loop (Inv X A m S H b) k) R hs := fun _ _ ha hw => ⟨j, hj, hlt, ha.sub hr, hw.sel hm⟩

/-- cut: what follows is proved once, over a state told anew -/
theorem TT.cut {ι : Type} (A : ι → Prop) (S : ι → Reg) (H : ι → List Chunk) {x y : Code}
    (h : TT X x (.loop (fun a w => ∃ j, A j ∧ Fits X.n (S j) a ∧ Mem (H j) w) k) R hs) (hy : ∀ j, A j → TT X y k (S j) (H j)) : TT X (.seq x y) k R hs := by
  intro a w ha hm
  refine wp_seq (wp_mono (h a w ha hm) ?_)
  intro e a' w' hq
  cases e with
  | normal => obtain ⟨j, hA, hF, hM⟩ := hq; exact hy j hA a' w' hF hM
  | exit id => exact hq
  | goto l => exact hq
  | ret => exact hq
  | panic ch => exact hq
  | outgrown => exact hq
theorem KT.cut {ι : Type} {A : ι → Prop} {S : ι → Reg} {H : ι → List Chunk} (j : ι) (hj : A j) (hr : SubR (S j) R) (hm : Sel hs (H j)) :
    KT X (.loop (fun a w => ∃ j, A j ∧ Fits X.n (S j) a ∧ Mem (H j) w) k) R hs := fun _ _ ha hw => ⟨j, hj, ha.sub hr, hw.sel hm⟩

omit [Outer] in
theorem wpOps_range (P : Program) (ops : Array Oper) (Q : Exit → Act → World → Prop) : wpOps P ops Q (List.range ops.size) = wpList P ops Q ops.toList := by
  have h := wpOps_eq_wpList (P := P) (ops := ops) (Q := Q) ops.toList 0 (by intro j; simp)
  rw [← h, List.range_eq_range']
  simp
theorem TT.region {id : Nat} {ops : Array Oper} (h : OT X ops ops.toList k R hs) : TT X (.region id ops false) k R hs :=
  fun a w ha hm => wp_region (by rw [wpOps_range]; exact h a w ha hm)
theorem OT.nil {ops : Array Oper} (h : KT X k R hs) : OT X ops [] k R hs := fun a w ha hm => h a w ha hm

/-! ### Guards -/
def grd (ops : Array Oper) (R : Reg) : Option (Nat × Bool) → Option Bool
  | none => some true
  | some (j, want) => match (ops[j]?).bind (·.dst) with
    | none => none
    | some t => match look R t with
      | some (.bool b) => some (b == want)
      | some (.tuple _) => some false
      | _ => none
omit [Outer] in
theorem grd_ok {ops : Array Oper} {n : Nat} {a : Act} (ha : Fits n R a) {o : Oper} {b : Bool} (h : grd ops R o.guard = some b) : Region.wanted o (yielded ops a.tmps) = b := by
  unfold Region.wanted
  cases hg : o.guard with
  | none => rw [hg] at h; exact Option.some.inj h
  | some p =>
    obtain ⟨j, want⟩ := p
    rw [hg] at h
    simp only [grd] at h
    split at h
    · cases h
    · rename_i t ht
      split at h
      · rename_i v hv
        have hx := ha.regs t _ hv
        have : a.tmps[t]? = some (.bool v) := by
          rw [Array.getD_eq_getD_getElem?] at hx
          cases e : a.tmps[t]? with
          | none => rw [e] at hx; simp [undef] at hx
          | some u => rw [e] at hx; simp at hx; rw [hx]
        simp only [yielded, ht, Option.bind_some, this]
        obtain rfl := Option.some.inj h
        cases v <;> cases want <;> rfl
      · rename_i vs hv
        have hx := ha.regs t _ hv
        obtain rfl := Option.some.inj h
        have : ∀ c, a.tmps[t]? ≠ some (.bool c) := by
          intro c e
          rw [Array.getD_eq_getD_getElem?, e] at hx
          cases hx
        simp only [yielded, ht, Option.bind_some]
        cases e : a.tmps[t]? with
        | none => rfl
        | some u => cases u <;> first | rfl | exact (this _ e).elim
      · cases h

/-! ### Operations that touch no memory -/
def binI (op : BinOp) (k : IntKind) (a b : Int) : Option Value :=
  match op with
  | .add => some (.int k (k.wrap (a + b)))
  | .sub => some (.int k (k.wrap (a - b)))
  | .mul => some (.int k (k.wrap (a * b)))
  | .and => some (.int k (k.wrap (BitVec.ofInt k.bits a &&& BitVec.ofInt k.bits b).toNat))
  | .or => some (.int k (k.wrap (BitVec.ofInt k.bits a ||| BitVec.ofInt k.bits b).toNat))
  | .xor => some (.int k (k.wrap (BitVec.ofInt k.bits a ^^^ BitVec.ofInt k.bits b).toNat))
  | .andNot => some (.int k (k.wrap (BitVec.ofInt k.bits a &&& ~~~ BitVec.ofInt k.bits b).toNat))
  | .eql => some (.bool (a == b))
  | .neq => some (.bool (a != b))
  | .lss => some (.bool (decide (a < b)))
  | .leq => some (.bool (decide (a ≤ b)))
  | .gtr => some (.bool (decide (a > b)))
  | .geq => some (.bool (decide (a ≥ b)))
  | .quo => if b = 0 then none else some (.int k (k.wrap (a.tdiv b)))
  | .rem => if b = 0 then none else some (.int k (a.tmod b))
  | _ => none
def binS (op : BinOp) (a b : ByteArray) : Option Value :=
  match op with
  | .eql => some (.bool (decide (a = b)))
  | .neq => some (.bool (!decide (a = b)))
  | .lss => some (.bool (Op.bytesLess a.data.toList b.data.toList))
  | .leq => some (.bool (Op.bytesLess a.data.toList b.data.toList || decide (a = b)))
  | .gtr => some (.bool (!(Op.bytesLess a.data.toList b.data.toList || decide (a = b))))
  | .geq => some (.bool (!Op.bytesLess a.data.toList b.data.toList))
  | _ => none
def bin (op : BinOp) (x y : Value) : Option Value :=
  match x, y with
  | .int k a, .int k' b =>
    match op with
    | .shl => if b < 0 then none else some (.int k (k.wrap (a * 2 ^ min b.toNat k.bits)))
    | .shr => if b < 0 then none else some (.int k (a.fdiv (2 ^ min b.toNat k.bits)))
    | _ => if k = k' then binI op k a b else none
  | .string a, .string b => binS op a b
  | _, _ => none

omit [Outer] in
theorem str_eq (a b : ByteArray) : (a.data.toList == b.data.toList) = decide (a = b) := by
  by_cases h : a = b
  · subst h; simp
  · have : ¬ a.data.toList = b.data.toList := by
      intro e; apply h; cases a; cases b; simp at e; simp [e]
    rw [decide_eq_false h]
    exact beq_eq_false_iff_ne.2 this

omit [Outer] in
theorem bin_ok {op : BinOp} {x y v : Value} (h : bin op x y = some v) (P : Program) (t : TypeId) (ox oy : Operand) (w : World) :
    (do eqGuard op t ox oy x y; binOp op t x y : Sem Value).run P w = .ok v w := by
  unfold bin at h
  split at h
  · rename_i k a k' b
    have hg : ((eqGuard op t ox oy (.int k a) (.int k' b)) >>= fun _ => binOp op t (.int k a) (.int k' b)).run P w = (binOp op t (.int k a) (.int k' b)).run P w := by
      cases op <;> simp [eqGuard]
    refine hg.trans ?_
    split at h
    · split at h
      · cases h
      · rename_i hb
        obtain rfl := Option.some.inj h
        simp [binOp, Op.shift, hb]
    · split at h
      · cases h
      · rename_i hb
        obtain rfl := Option.some.inj h
        simp [binOp, Op.shift, hb]
    · split at h
      · rename_i h1 h2 hk
        subst hk
        unfold binI at h
        split at h
        case h_14 =>
          split at h
          · cases h
          · rename_i hb
            obtain rfl := Option.some.inj h
            simp [binOp, Op.intDiv, hb]
        case h_15 =>
          split at h
          · cases h
          · rename_i hb
            obtain rfl := Option.some.inj h
            simp [binOp, Op.intDiv, hb]
        case h_16 => cases h
        all_goals
          obtain rfl := Option.some.inj h
          simp [binOp, Op.intArith, Op.intBits, Op.intCmp, bne]
      · cases h
  · rename_i a b
    have hg : ((eqGuard op t ox oy (.string a) (.string b)) >>= fun _ => binOp op t (.string a) (.string b)).run P w = (binOp op t (.string a) (.string b)).run P w := by
      cases op <;> simp [eqGuard]
    refine hg.trans ?_
    unfold binS at h
    split at h
    case h_7 => cases h
    all_goals
      obtain rfl := Option.some.inj h
      simp only [binOp, Op.stringOp, ByteArray.toList_eq, str_eq]
      rfl
  · cases h

def un (op : UnOp) (x : Value) : Option Value :=
  match op, x with
  | .not, .bool b => some (.bool (!b))
  | .xor, .int k n => some (.int k (k.wrap (BitVec.ofInt k.bits (if k.signed then -1 else k.max) ^^^ BitVec.ofInt k.bits n).toNat))
  | .neg, .int k n => some (.int k (k.wrap (0 - n)))
  | _, _ => none
omit [Outer] in
theorem un_ok {op : UnOp} {x v : Value} (h : un op x = some v) (P : Program) (w : World) : (Op.unary op x).run P w = .ok v w := by
  unfold un at h
  split at h
  · obtain rfl := Option.some.inj h; simp [Op.unary]
  · obtain rfl := Option.some.inj h; simp [Op.unary, Op.intBits]
  · obtain rfl := Option.some.inj h; simp [Op.unary, Op.intArith]
  · cases h

/-- what is known of the program's types -/
inductive TD
  | one (d : TypeDesc)
  | slice (e : Nat) (sz : Nat)
  | arr (n : Nat) (e : Nat) (sz : Nat)
  | struct (fs : List (Nat × Nat)) (sz : Nat)
inductive FieldsOk (P : Program) : List Field → List (Nat × Nat) → Prop
  | nil : FieldsOk P [] []
  | cons {f : Field} {o s : Nat} {F : List Field} {fs : List (Nat × Nat)} : f.offset = o → (∀ w, (sizeOf f.type).run P w = .ok (s + 1) w) → FieldsOk P F fs → FieldsOk P (f :: F) ((o, s + 1) :: fs)
omit [Outer] in
theorem FieldsOk.get {P : Program} {F : List Field} {fs : List (Nat × Nat)} (h : FieldsOk P F fs) : ∀ {i : Nat} {p : Nat × Nat}, fs[i]? = some p →
    ∃ f, F[i]? = some f ∧ f.offset = p.1 ∧ ∃ s, p.2 = s + 1 ∧ ∀ w, (sizeOf f.type).run P w = .ok (s + 1) w := by
  induction h with
  | nil => intro i p hp; simp at hp
  | cons ho hs _ ih =>
    intro i p hp
    cases i with
    | zero => simp at hp; subst hp; exact ⟨_, rfl, ho, _, rfl, hs⟩
    | succ i => exact ih (by simpa using hp)
omit [Outer] in
theorem FieldsOk.length {P : Program} {F : List Field} {fs : List (Nat × Nat)} (h : FieldsOk P F fs) : F.length = fs.length := by
  induction h with
  | nil => rfl
  | cons _ _ _ ih => simp [ih]
def TD.is (P : Program) (t : Nat) : TD → Prop
  | .one d => P.underlying t = some d ∧ (∀ w, (isAgg t).run P w = .ok false w) ∧ (∀ w, (sizeOf t).run P w = .ok 1 w)
  | .slice e sz => P.underlying t = some (.slice e) ∧ (∀ w, (sizeOf e).run P w = .ok sz w) ∧ (∀ w, (isAgg t).run P w = .ok false w) ∧ (∀ w, (sizeOf t).run P w = .ok 1 w)
  | .arr n e sz => P.underlying t = some (.array n e) ∧ (∀ w, (sizeOf e).run P w = .ok sz w) ∧ (∀ w, (isAgg t).run P w = .ok true w) ∧ (∀ w, (sizeOf t).run P w = .ok (n * sz) w)
  | .struct fs sz => (∃ F, P.underlying t = some (.struct F) ∧ FieldsOk P F.toList fs) ∧ (∀ w, (isAgg t).run P w = .ok true w) ∧ (∀ w, (sizeOf t).run P w = .ok sz w)
abbrev Tab := List (Nat × TD)
def Tab.ok (P : Program) (T : Tab) : Prop := ∀ p ∈ T, p.2.is P p.1
omit [Outer] in
theorem Tab.ok.nil {P : Program} : Tab.ok P [] := fun p hp => by cases hp
omit [Outer] in
theorem Tab.ok.cons {P : Program} {t : Nat} {d : TD} {T : Tab} (h : d.is P t) (hT : T.ok P) : Tab.ok P ((t, d) :: T) := fun p hp => by
  rcases List.mem_cons.1 hp with rfl | hp
  · exact h
  · exact hT p hp
def ty : Tab → Nat → Option TD
  | [], _ => none
  | p :: r, t => cond (Nat.beq p.1 t) (some p.2) (ty r t)
omit [Outer] in
theorem Tab.ok.ty {P : Program} {T : Tab} (h : T.ok P) {t : Nat} {d : TD} (ht : ty T t = some d) : d.is P t := by
  induction T with
  | nil => simp [Sx.ty] at ht
  | cons p r ih =>
    simp only [Sx.ty] at ht
    cases hb : Nat.beq p.1 t with
    | true =>
      rw [hb] at ht
      have e := Nat.eq_of_beq_eq_true hb
      obtain rfl := Option.some.inj ht
      have := h p (by simp)
      rw [e] at this
      exact this
    | false =>
      rw [hb] at ht
      exact ih (fun q hq => h q (by simp [hq])) ht
omit [Outer] in
theorem TD.is.some {P : Program} {t : Nat} {d : TD} (h : d.is P t) : ∃ u, P.underlying t = some u := by
  cases d with
  | one d => exact ⟨_, h.1⟩
  | slice e sz => exact ⟨_, h.1⟩
  | arr n e sz => exact ⟨_, h.1⟩
  | struct offs sz => obtain ⟨⟨fs, h, _⟩, _⟩ := h; exact ⟨_, h⟩

/-- the value of an operation that touches no memory -/
def pev (T : Tab) (R : Reg) : Op → Option Value
  | .move x => ev R x
  | .assign x => ev R x
  | .pick c a b => match ev R c, ev R a, ev R b with
    | some (.bool t), some u, some v => some (cond t u v)
    | _, _, _ => none
  | .binOp op t x y _ => match ev R x, ev R y with
    | some (.bool a), some (.bool b) => match op, ty T t with
      | .eql, some (.one .bool) => some (.bool (a == b))
      | .neq, some (.one .bool) => some (.bool (!(a == b)))
      | _, _ => none
    | some (.pointer p), some (.pointer none) => match op, ty T t with
      | .eql, some (.one (.pointer _)) => some (.bool p.isNone)
      | .neq, some (.one (.pointer _)) => some (.bool (!p.isNone))
      | _, _ => none
    | some (.slice p _ _), some (.slice none _ _) => match op, ty T t with
      | .eql, some (.slice _ _) => some (.bool p.isNone)
      | .neq, some (.slice _ _) => some (.bool (!p.isNone))
      | _, _ => none
    | some u, some v => bin op u v
    | _, _ => none
  | .unOp op _ x => match ev R x with
    | some u => un op u
    | none => none
  | .extract x i => match ev R x with
    | some (.tuple vs) => vs.toList[i]?
    | _ => none
  | .nilCheck x => match ev R x with
    | some (.pointer (some p)) => some (.pointer (some p))
    | _ => none
  | .convert s d x => match ev R x with
    | some (.int _ n) => match ty T s, ty T d with
      | some _, some (.one (.int k)) => some (.int k (k.wrap n))
      | _, _ => none
    | _ => none
  | .fieldAddr s x f => match ev R x with
    | some (.pointer (some ⟨b, o, none⟩)) => match ty T s with
      | some (.struct offs _) => match offs[f]? with
        | some p => some (.pointer (some ⟨b, o + p.1, none⟩))
        | none => none
      | _ => none
    | _ => none
  | .call c => match c.callee with
    | .builtin .len => match c.args.toList, c.argTypes.toList with
      | [x], [t] => match ev R x, ty T t with
        | some (.slice _ n _), some (.slice _ _) => some (.int .i64 n)
        | some (.string s), some (.one .string) => some (.int .i64 s.size)
        | _, _ => none
      | _, _ => none
    | .builtin .min => match evs R c.args.toList with
      | some [.int k a, .int _ b] => some (.int k (min a b))
      | _ => none
    | .builtin .max => match evs R c.args.toList with
      | some [.int k a, .int _ b] => some (.int k (max a b))
      | _ => none
    | _ => none
  | .makeFunc fn first caps => match evs R first.toList, evs R caps.toList with
    | some a, some b => some (.func fn ⟨a⟩ ⟨b⟩)
    | _, _ => none
  | _ => none

omit [Outer] in
theorem evs_array {n : Nat} {R : Reg} {a : Act} (ha : Fits n R a) {xs : Array Operand} {vs : List Value} (h : evs R xs.toList = some vs) : xs.map a.eval = ⟨vs⟩ := by
  have := ha.evs h
  apply Array.ext'
  simpa using this
omit [Outer] in
theorem equal_bool {P : Program} {t : TypeId} (hu : P.underlying t = some .bool) (a b : Bool) (w : World) : (Op.equal t (.bool a) (.bool b)).run P w = .ok (a == b) w := by
  show (Op.equalIn (9999 + 1) t (.bool a) (.bool b)).run P w = _
  rw [Op.equalIn, Sem.run_bind, run_underlying hu]
  rfl
omit [Outer] in
theorem equal_ptr {P : Program} {t e : TypeId} (hu : P.underlying t = some (.pointer e)) (p : Option Addr) (w : World) : (Op.equal t (.pointer p) (.pointer none)).run P w = .ok p.isNone w := by
  show (Op.equalIn (9999 + 1) t (.pointer p) (.pointer none)).run P w = _
  rw [Op.equalIn, Sem.run_bind, run_underlying hu]
  cases p <;> rfl
omit [Outer] in
theorem equal_slice {P : Program} {t e : TypeId} (hu : P.underlying t = some (.slice e)) (p : Option Addr) (a b c d : Nat) (w : World) : (Op.equal t (.slice p a b) (.slice none c d)).run P w = .ok p.isNone w := by
  show (Op.equalIn (9999 + 1) t (.slice p a b) (.slice none c d)).run P w = _
  rw [Op.equalIn, Sem.run_bind, run_underlying hu]
  cases p <;> rfl
omit [Outer] in
theorem pev_ok {X : Cx} {T : Tab} (hT : T.ok X.P) {R : Reg} {a : Act} (ha : Fits X.n R a) {o : Oper} {v : Value} (h : pev T R o.op = some v) (w : World) :
    (execOp a.eval o).run X.P w = .ok (.value v) w := by
  unfold pev at h
  split at h
  · rename_i x hop; simp [execOp, hop, ha.ev h]
  · rename_i x hop; simp [execOp, hop, ha.ev h]
  · rename_i c x y hop
    split at h
    · rename_i t u v' hc hx hy
      obtain rfl := Option.some.inj h
      simp only [execOp, hop, ha.ev hc, ha.ev hx, ha.ev hy]
      cases t <;> simp [asBool]
    · cases h
  · rename_i op t x y _ hop
    split at h
    · rename_i p q hx hy
      split at h
      · rename_i ht
        obtain rfl := Option.some.inj h
        have := equal_bool (hT.ty ht).1 p q w
        simp only [execOp, hop, ha.ev hx, ha.ev hy]
        rw [Sem.run_bind, Sem.run_bind]
        show Result.andThen (Result.andThen (Result.ok () w) fun _ w => ((Op.equal t (.bool p) (.bool q)) >>= fun b => pure (Value.bool b)).run X.P w) _ = _
        simp only [Result.andThen_ok]
        rw [Sem.run_bind, this]
        rfl
      · rename_i ht
        obtain rfl := Option.some.inj h
        have := equal_bool (hT.ty ht).1 p q w
        simp only [execOp, hop, ha.ev hx, ha.ev hy]
        rw [Sem.run_bind, Sem.run_bind]
        show Result.andThen (Result.andThen (Result.ok () w) fun _ w => ((Op.equal t (.bool p) (.bool q)) >>= fun b => pure (Value.bool (!b))).run X.P w) _ = _
        simp only [Result.andThen_ok]
        rw [Sem.run_bind, this]
        rfl
      · cases h
    · rename_i p hx hy
      split at h
      · rename_i e ht
        obtain rfl := Option.some.inj h
        have := equal_ptr (hT.ty ht).1 p w
        simp only [execOp, hop, ha.ev hx, ha.ev hy]
        rw [Sem.run_bind, Sem.run_bind]
        show Result.andThen (Result.andThen (Result.ok () w) fun _ w => ((Op.equal t (.pointer p) (.pointer none)) >>= fun b => pure (Value.bool b)).run X.P w) _ = _
        simp only [Result.andThen_ok]
        rw [Sem.run_bind, this]
        rfl
      · rename_i e ht
        obtain rfl := Option.some.inj h
        have := equal_ptr (hT.ty ht).1 p w
        simp only [execOp, hop, ha.ev hx, ha.ev hy]
        rw [Sem.run_bind, Sem.run_bind]
        show Result.andThen (Result.andThen (Result.ok () w) fun _ w => ((Op.equal t (.pointer p) (.pointer none)) >>= fun b => pure (Value.bool (!b))).run X.P w) _ = _
        simp only [Result.andThen_ok]
        rw [Sem.run_bind, this]
        rfl
      · cases h
    · rename_i p a1 b1 c1 d1 hx hy
      split at h
      · rename_i e sz ht
        obtain rfl := Option.some.inj h
        have := equal_slice (hT.ty ht).1 p a1 b1 c1 d1 w
        simp only [execOp, hop, ha.ev hx, ha.ev hy]
        rw [Sem.run_bind, Sem.run_bind]
        show Result.andThen (Result.andThen (Result.ok () w) fun _ w => ((Op.equal t (.slice p a1 b1) (.slice none c1 d1)) >>= fun b => pure (Value.bool b)).run X.P w) _ = _
        simp only [Result.andThen_ok]
        rw [Sem.run_bind, this]
        rfl
      · rename_i e sz ht
        obtain rfl := Option.some.inj h
        have := equal_slice (hT.ty ht).1 p a1 b1 c1 d1 w
        simp only [execOp, hop, ha.ev hx, ha.ev hy]
        rw [Sem.run_bind, Sem.run_bind]
        show Result.andThen (Result.andThen (Result.ok () w) fun _ w => ((Op.equal t (.slice p a1 b1) (.slice none c1 d1)) >>= fun b => pure (Value.bool (!b))).run X.P w) _ = _
        simp only [Result.andThen_ok]
        rw [Sem.run_bind, this]
        rfl
      · cases h
    · rename_i u u' _ _ _ hx hy
      have := bin_ok h X.P t x y w
      simp only [execOp, hop, ha.ev hx, ha.ev hy]
      rw [show (do pure (Next.value (← (do eqGuard op t x y u u'; binOp op t u u'))) : Sem Next) = ((do eqGuard op t x y u u'; binOp op t u u') : Sem Value) >>= fun z => pure (Next.value z) from rfl, Sem.run_bind, this]
      rfl
    · cases h
  · rename_i op t x hop
    split at h
    · rename_i u hx
      have := un_ok h X.P w
      simp only [execOp, hop, ha.ev hx]
      rw [Sem.run_bind, this]
      rfl
    · cases h
  · rename_i x i hop
    split at h
    · rename_i vs hx
      rw [Array.getElem?_toList] at h
      simp [execOp, hop, ha.ev hx, Instr.extract, h]
    · cases h
  · rename_i x hop
    split at h
    · rename_i p hx
      obtain rfl := Option.some.inj h
      simp [execOp, hop, ha.ev hx]
    · cases h
  · rename_i s d x hop
    split at h
    · rename_i k n hx
      split at h
      · rename_i ds k' hs hd
        obtain rfl := Option.some.inj h
        obtain ⟨us, hus⟩ := (hT.ty hs).some
        have hud := (hT.ty hd).1
        simp only [execOp, hop, ha.ev hx]
        rw [Sem.run_bind]
        have : (convert s d (.int k n)).run X.P w = .ok (.int k' (k'.wrap n)) w := by
          unfold convert
          rw [Sem.run_bind, run_underlying hus]
          show (underlying d >>= _).run X.P w = _
          rw [Sem.run_bind, run_underlying hud]
          cases us <;> simp [Conv.intToInt]
        rw [this]
        rfl
      · cases h
    · cases h
  · rename_i s x f hop
    split at h
    · rename_i b off hx
      split at h
      · rename_i offs hs
        split at h
        · rename_i off' hf
          obtain rfl := Option.some.inj h
          obtain ⟨⟨F, hu, hF⟩, _⟩ := hT.ty hs
          simp only [execOp, hop, ha.ev hx]
          rw [Sem.run_bind]
          obtain ⟨fd, hfd, hoff, n, _, hn⟩ := hF.get hf
          have hfs' : F[f]? = some fd := by simpa using hfd
          have this : (Instr.fieldAt s (.pointer (some ⟨b, off, none⟩)) f).run X.P w = .ok (.pointer (some ⟨b, off + off'.1, none⟩)) w := by
            unfold Instr.fieldAt
            rw [Sem.run_bind, run_underlying hu]
            simp only [Result.andThen_ok, hfs', Instr.sureAddr, fieldPlace]
            rw [Sem.run_bind]
            simp only [Sem.run_pure, Result.andThen_ok]
            rw [Sem.run_bind, Sem.run_bind, hn]
            simp only [Result.andThen_ok, Nat.succ_ne_zero, if_false, Sem.run_pure, hoff]
            congr 3
            unfold Addr.add
            split <;> simp_all
          rw [this]
          rfl
        · cases h
      · cases h
    · cases h
  · rename_i c hop
    split at h
    · rename_i hcal
      split at h
      · rename_i x t hargs htys
        split at h
        · rename_i b n cap e sz hx ht
          obtain rfl := Option.some.inj h
          have hu := (hT.ty ht).1
          have e1 : c.args = #[x] := by rw [← hargs]
          have e2 : c.argTypes = #[t] := by rw [← htys]
          simp [execOp, hop, resolve, hcal, e1, e2, ha.ev hx, invoke, builtin, Builtin.len_, run_underlying hu, goInt]
        · rename_i s hx ht
          obtain rfl := Option.some.inj h
          have hu := (hT.ty ht).1
          have e1 : c.args = #[x] := by rw [← hargs]
          have e2 : c.argTypes = #[t] := by rw [← htys]
          simp [execOp, hop, resolve, hcal, e1, e2, ha.ev hx, invoke, builtin, Builtin.len_, run_underlying hu, goInt]
        · cases h
      · cases h
    · rename_i hcal
      split at h
      · rename_i k a' k' b hargs
        obtain rfl := Option.some.inj h
        have e1 := evs_array ha hargs
        have e2 : (if b < a' then b else a') = min a' b := by omega
        simp [execOp, hop, resolve, hcal, e1, invoke, builtin, Builtin.min_, Builtin.min2, e2]
      · cases h
    · rename_i hcal
      split at h
      · rename_i k a' k' b hargs
        obtain rfl := Option.some.inj h
        have e1 := evs_array ha hargs
        have e2 : (if b > a' then b else a') = max a' b := by omega
        simp [execOp, hop, resolve, hcal, e1, invoke, builtin, Builtin.max_, Builtin.max2, e2]
      · cases h
    · cases h
  · rename_i fn first caps hop
    split at h
    · rename_i a' b h1 h2
      obtain rfl := Option.some.inj h
      simp [execOp, hop, Instr.makeFunc, evs_array ha h1, evs_array ha h2]
    · cases h
  · cases h

/-- many operations at one stroke -/
def runp (T : Tab) (n : Nat) (ops : Array Oper) : Nat → Reg → List Oper → Option (Reg × List Oper)
  | 0, R, l => some (R, l)
  | m + 1, R, o :: l => match grd ops R o.guard, o.dst with
    | some true, some d => match pev T R o.op with
      | some v => cond (Nat.ble (d + 1) n) (runp T n ops m ((d, v) :: R) l) none
      | none => none
    | some false, some d => cond (Nat.ble (d + 1) n) (runp T n ops m ((d, undef) :: R) l) none
    | _, _ => none
  | _ + 1, _, [] => none
theorem OT.pures {X : Cx} {k : Kont} {hs : List Chunk} {ops : Array Oper} {T : Tab} (hT : T.ok X.P) (m : Nat) : ∀ {R : Reg} {l : List Oper} {R' : Reg} {l' : List Oper},
    runp T X.n ops m R l = some (R', l') → OT X ops l' k R' hs → OT X ops l k R hs := by
  induction m with
  | zero =>
    intro R l R' l' h hk
    simp only [runp, Option.some.injEq, Prod.mk.injEq] at h
    obtain ⟨rfl, rfl⟩ := h
    exact hk
  | succ m ih =>
    intro R l R' l' h hk
    cases l with
    | nil => simp [runp] at h
    | cons o l =>
      simp only [runp] at h
      intro a w ha hm
      simp only [wpList]
      split at h
      · rename_i d hg hd
        rw [grd_ok ha hg, if_pos rfl]
        split at h
        · rename_i v hv
          cases hb : Nat.ble (d + 1) X.n with
          | false => rw [hb] at h; cases h
          | true =>
            rw [hb] at h
            refine Or.inl ?_
            unfold Oper.wp
            rw [pev_ok hT ha hv w, Oper.upon_value, hd]
            exact ih h hk _ _ (ha.put hb v) hm
        · cases h
      · rename_i d hg hd
        rw [grd_ok ha hg, if_neg (by simp)]
        cases hb : Nat.ble (d + 1) X.n with
        | false => rw [hb] at h; cases h
        | true =>
          rw [hb] at h
          rw [hd]
          exact ih h hk _ _ (ha.put hb undef) hm
      · cases h
end
end Go.Sx
