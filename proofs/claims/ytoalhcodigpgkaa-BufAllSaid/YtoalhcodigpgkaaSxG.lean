/- Statements whose order Go leaves open: operations that only read memory that stays are taken first; the others in every order. No program in sight. -/
import Derived.Test.YtoalhcodigpgkaaSxF
import Derived.Orders
namespace Go.Sx
open Go
variable [Outer]

/-- any order, J holding all the way -/
def anyJ (P : Program) (ops : Array Oper) (Q : Exit → Act → World → Prop) (J : World → Prop) : Nat → Array Bool → Act → World → Prop
  | 0, listed, a, w => J w ∧ Region.ready .any ops listed = [] ∧ Q .normal a w
  | fuel + 1, listed, a, w => J w ∧ (Region.ready .any ops listed = [] → Q .normal a w) ∧
    ∀ i ∈ Region.ready .any ops listed, wpOp P ops Q i (anyJ P ops Q J fuel (listed.setIfInBounds i true)) a w

omit [Outer] in
theorem anyJ_any {P : Program} {ops : Array Oper} {Q : Exit → Act → World → Prop} {J : World → Prop} : ∀ (fuel : Nat) (listed : Array Bool) (a : Act) (w : World), anyJ P ops Q J fuel listed a w → wpAny P .any ops Q fuel listed a w := by
  intro fuel
  induction fuel with
  | zero => intro listed a w h; exact h.2
  | succ fuel ih => intro listed a w h; exact ⟨h.2.1, fun i hi => wpOp_mono (fun a w => ih _ a w) (h.2.2 i hi)⟩

/-- what an operation yields wherever J holds, memory untouched -/
def YieldsJ (P : Program) (ops : Array Oper) (J : World → Prop) (o : Oper) (v : Value) (a : Act) : Prop :=
  (Region.wanted o (yielded ops a.tmps) = true ∧ ∀ w, J w → (execOp a.eval o).run P w = .ok (.value v) w) ∨ (Region.wanted o (yielded ops a.tmps) = false ∧ v = undef)

section
variable {P : Program} {ops : Array Oper} {Q : Exit → Act → World → Prop} {J : World → Prop}

omit [Outer] in
theorem YieldsJ.wpOp {i : Nat} {o : Oper} {v : Value} {a : Act} {w : World} {K : Act → World → Prop} (hi : ops[i]? = some o) (hy : YieldsJ P ops J o v a) (hJ : J w) (h : K (a.put o.dst v) w) : Go.wpOp P ops Q i K a w := by
  unfold Go.wpOp
  simp only [hi]
  rcases hy with ⟨hw, hv⟩ | ⟨hw, rfl⟩
  · simp only [hw, if_true, Oper.wp, hv w hJ, Oper.upon]; exact .inl h
  · simp only [hw, Bool.false_eq_true, if_false]; exact h

omit [Outer] in
theorem YieldsJ.of_same {o : Oper} {v : Value} {a a' : Act} (hy : YieldsJ P ops J o v a) (he : execOp a'.eval o = execOp a.eval o)
    (hw : Region.wanted o (yielded ops a'.tmps) = Region.wanted o (yielded ops a.tmps)) : YieldsJ P ops J o v a' := by
  unfold YieldsJ at *
  rw [he, hw]
  exact hy

omit [Outer] in
theorem wpOp_putJ {j : Nat} {oi oj : Oper} {v : Value} (hj : ops[j]? = some oj) (hap : oi.apart ops oj = true)
    (hsi : ∀ cs b, oi.op ≠ .select cs b) (hsj : ∀ cs b, oj.op ≠ .select cs b)
    (hQ : ∀ c a w, Q (.panic c) (a.put oi.dst v) w → Q (.panic c) a w) {K : Act → World → Prop} {a : Act} {w : World}
    (hy : YieldsJ P ops J oi v a) (h : wpOp P ops Q j K (a.put oi.dst v) w) :
    wpOp P ops Q j (fun a' w' => YieldsJ P ops J oi v a' ∧ K (a'.put oi.dst v) w') a w := by
  obtain ⟨h1, h2, h3⟩ := Oper.apart_spec hap
  have keep : ∀ (a : Act), YieldsJ P ops J oi v a → ∀ u, YieldsJ P ops J oi v (a.put oj.dst u) := fun a hy u =>
    hy.of_same (execOp_put oi hsi a oj.dst u h3) (wanted_put oi a oj.dst u h3)
  have keepD : ∀ d, YieldsJ P ops J oi v { a with defers := d :: a.defers } := fun d => hy.of_same rfl rfl
  unfold wpOp at *
  simp only [hj] at *
  rw [wanted_put oj a oi.dst v h1] at h
  split
  · rename_i hw
    simp only [hw, if_true] at h
    rcases h with h | ⟨hasks, hlets⟩
    case inr => exact .inr ⟨by unfold Oper.asks at *; rw [execOp_put oj hsj a oi.dst v h1] at hasks; exact hasks, hlets⟩
    refine .inl ?_
    unfold Oper.wp at *
    rw [execOp_put oj hsj a oi.dst v h1] at h
    generalize (execOp a.eval oj).run P w = r at *
    cases r with
    | ok n w' =>
      cases n <;> simp only [Oper.upon] at h ⊢
      case value u => exact ⟨keep a hy u, by rw [← Act.put_comm a v u h2]; exact h⟩
      case skip => exact ⟨keep a hy _, by rw [← Act.put_comm a v undef h2]; exact h⟩
      case defer d =>
        refine ⟨keep _ (keepD d) _, ?_⟩
        rw [← Act.put_comm _ v undef h2, ← Act.put_defers]
        exact h
      case enter f args =>
        refine Calls.mono h fun e w'' he => ?_
        cases e with
        | returned u => exact ⟨keep a hy u, by rw [← Act.put_comm a v u h2]; exact he⟩
        | panicked c => exact hQ _ _ _ he
        | outgrown => exact he
      case row row args => exact Rows.mono h fun u w'' he => ⟨keep a hy u, by rw [← Act.put_comm a v u h2]; exact he⟩
    | halt x w' =>
      cases x <;> simp only [Oper.upon] at h ⊢
      case panic u => exact hQ _ _ _ h
  · rename_i hw
    simp only [hw] at h
    exact ⟨keep a hy _, by rw [← Act.put_comm a v undef h2]; exact h⟩

omit [Outer] in
theorem anyJ_J {fuel : Nat} {listed : Array Bool} {a : Act} {w : World} (h : anyJ P ops Q J fuel listed a w) : J w := by
  cases fuel with
  | zero => exact h.1
  | succ n => exact h.1

omit [Outer] in
theorem anyJ_first {i : Nat} {oi : Oper} {v : Value} (hi : ops[i]? = some oi) (hsel : ∀ (j : Nat) (o : Oper) cs b, ops[j]? = some o → o.op ≠ .select cs b)
    (hQ : ∀ c a w, Q (.panic c) (a.put oi.dst v) w → Q (.panic c) a w) :
    ∀ (fuel : Nat) (listed : Array Bool) (a : Act) (w : World),
      (∀ j oj, ops[j]? = some oj → j ≠ i → listed.getD j true = false → (∀ e ∈ oj.after, Region.binds .any e = true → e.on ≠ i) → oi.apart ops oj = true) →
      i ∈ Region.ready .any ops listed → YieldsJ P ops J oi v a →
      anyJ P ops Q J fuel (listed.setIfInBounds i true) (a.put oi.dst v) w → anyJ P ops Q J (fuel + 1) listed a w := by
  intro fuel
  induction fuel with
  | zero =>
    intro listed a w _ hr hy H
    refine ⟨H.1, fun h => (by rw [h] at hr; cases hr), fun j hj => ?_⟩
    by_cases hji : j = i
    · subst hji; exact hy.wpOp hi H.1 H
    · have := ready_mono hj hji
      rw [H.2.1] at this
      cases this
  | succ fuel ih =>
    intro listed a w hfree hr hy H
    refine ⟨H.1, fun h => (by rw [h] at hr; cases hr), fun j hj => ?_⟩
    by_cases hji : j = i
    · subst hji; exact hy.wpOp hi H.1 H
    · have h1 := H.2.2 j (ready_mono hj hji)
      obtain ⟨hjun, oj, hoj, hall⟩ := mem_ready.1 hj
      have hnot : ∀ e ∈ oj.after, Region.binds .any e = true → e.on ≠ i := fun e he hb heq => by
        have h1 := hall e he hb
        have h0 := (mem_ready.1 hr).1
        rw [heq] at h1
        rcases Nat.lt_or_ge i listed.size with h' | h'
        · simp [h'] at h0 h1; rw [h0] at h1; cases h1
        · simp [Array.getElem?_eq_none h'] at h1
      have h2 := wpOp_putJ hoj (hfree j oj hoj hji hjun hnot) (fun cs b => hsel i oi cs b hi) (fun cs b => hsel j oj cs b hoj) hQ hy h1
      have hfree' : ∀ k ok, ops[k]? = some ok → k ≠ i → (listed.setIfInBounds j true).getD k true = false →
          (∀ e ∈ ok.after, Region.binds .any e = true → e.on ≠ i) → oi.apart ops ok = true := fun k ok hk hki hun hno => by
        refine hfree k ok hk hki ?_ hno
        by_cases hjk : j = k
        · subst hjk; exact hjun
        · rw [getD_set_ne true hjk] at hun; exact hun
      refine wpOp_mono (fun a' w' h3 => ih (listed.setIfInBounds j true) a' w' hfree' (ready_mono hr (Ne.symm hji)) h3.1 ?_) h2
      rw [Array.setIfInBounds_comm _ _ hji]
      exact h3.2
end

section
variable {X : Cx} {k : Kont} {R : Reg} {hs Cs : List Chunk} {ops : Array Oper} {T : Tab}

/-- the rest of a statement whose order is open; Cs: the memory that stays -/
def AT (X : Cx) (ops : Array Oper) (Cs : List Chunk) (k : Kont) (fuel : Nat) (listed : List Bool) (R : Reg) (hs : List Chunk) : Prop :=
  ∀ a w, Fits X.n R a → Mem hs w → anyJ X.P ops (k.Q X) (Mem Cs) fuel ⟨listed⟩ a w

theorem TT.draw {id : Nat} (Cs : List Chunk) (hm : X.P.follows .mixedOrders = true) (h : AT X ops Cs k ops.size (List.replicate ops.size false) R hs) : TT X (.region id ops true) k R hs := by
  intro a w ha hw
  refine wp_region_any hm (anyJ_any (J := Mem Cs) _ _ _ _ ?_)
  have := h a { w with drawn := w.drawn + 1 } ha hw.drewN
  have e : Array.replicate ops.size false = ⟨List.replicate ops.size false⟩ := by apply Array.ext'; simp
  rw [e]
  exact this

theorem AT.weaken {fuel : Nat} {listed : List Bool} {R' : Reg} {hs' : List Chunk} (hr : SubR R' R) (hm : Sel hs hs') (h : AT X ops Cs k fuel listed R' hs') : AT X ops Cs k fuel listed R hs :=
  fun a w ha hw => h a w (ha.sub hr) (hw.sel hm)

theorem AT.split {fuel : Nat} {listed : List Bool} (t : Nat) {b : Bool} (hb : look R t = some (.bool b)) (ht : b = true → AT X ops Cs k fuel listed ((t, .bool true) :: R) hs) (hf : b = false → AT X ops Cs k fuel listed ((t, .bool false) :: R) hs) :
    AT X ops Cs k fuel listed R hs := by
  intro a w ha hm
  have key : ∀ c, b = c → Fits X.n ((t, .bool c) :: R) a := fun c hc => ⟨ha.size, ha.defers, fun u v h => by
      rw [look_cons] at h
      by_cases e : t = u
      · subst e; rw [if_pos rfl] at h; rw [← hc] at h; exact ha.regs _ _ (hb.trans h)
      · rw [if_neg e] at h; exact ha.regs u v h⟩
  cases b with
  | true => exact ht rfl a w (key true rfl) hm
  | false => exact hf rfl a w (key false rfl) hm

/-- an operation on registers alone, or a load from memory that stays: its value -/
inductive Fl (X : Cx) (T : Tab) (Cs : List Chunk) (R : Reg) : Op → Value → Prop
  | pure {o : Op} {v : Value} : pev T R o = some v → Fl X T Cs R o v
  | load {t : Nat} {x : Operand} {ad : Addr} {v : Value} : ev R x = some (.pointer (some ad)) → Ld X.P Cs t ad v → Fl X T Cs R (.load t x) v
  | det {op : Op} {v : Value} : (∀ (o : Oper) (a : Act) (w : World), o.op = op → Fits X.n R a → (execOp a.eval o).run X.P w = .ok (.value v) w) → Fl X T Cs R op v

theorem Fl.run (hT : T.ok X.P) {o : Oper} {v : Value} (h : Fl X T Cs R o.op v) {a : Act} (ha : Fits X.n R a) {w : World} (hw : Mem Cs w) : (execOp a.eval o).run X.P w = .ok (.value v) w := by
  generalize ho : o.op = p at h
  cases h with
  | pure hp => exact pev_ok hT ha (by rw [ho]; exact hp) w
  | load hx hl =>
    have := hl w hw
    simp [execOp, ho, ha.ev hx, Instr.loadAt, Instr.sureAddr, this]
  | det hd => exact hd o a w ho ha

theorem AT.take (hT : T.ok X.P) (i : Nat) {o : Oper} {d : Nat} {v : Value} {fuel : Nat} {listed : List Bool} (hi : ops.toList[i]? = some o) (hd : o.dst = some d) (hs0 : Region.noSelect ops = true) (hfree : Region.free .any ops ⟨listed⟩ i = true)
    (hready : (Region.ready .any ops ⟨listed⟩).contains i = true) (hg : grd ops R o.guard = some true) (hv : Fl X T Cs R o.op v) (hdn : Nat.ble (d + 1) X.n = true)
    (h : AT X ops Cs k fuel (listed.set i true) ((d, v) :: R) hs) : AT X ops Cs k (fuel + 1) listed R hs := by
  intro a w ha hm
  have hi' : ops[i]? = some o := by simpa using hi
  refine anyJ_first hi' (Region.noSelect_spec hs0) (fun c a w hq => ?_) fuel ⟨listed⟩ a w (Region.free_spec hi' hfree) (by simpa using hready) (.inl ⟨grd_ok ha hg, fun w' hw' => hv.run hT ha hw'⟩) ?_
  · rw [Kont.panic_eq] at hq ⊢
    rw [hd] at hq
    exact hq
  · have := h (a.put (some d) v) w (ha.put hdn v) hm
    rw [hd]
    have e : (⟨listed⟩ : Array Bool).setIfInBounds i true = ⟨listed.set i true⟩ := by apply Array.ext'; simp
    rw [e]
    exact this
theorem AT.skip (i : Nat) {o : Oper} {d : Nat} {fuel : Nat} {listed : List Bool} (hi : ops.toList[i]? = some o) (hd : o.dst = some d) (hs0 : Region.noSelect ops = true) (hfree : Region.free .any ops ⟨listed⟩ i = true)
    (hready : (Region.ready .any ops ⟨listed⟩).contains i = true) (hg : grd ops R o.guard = some false) (hdn : Nat.ble (d + 1) X.n = true)
    (h : AT X ops Cs k fuel (listed.set i true) ((d, undef) :: R) hs) : AT X ops Cs k (fuel + 1) listed R hs := by
  intro a w ha hm
  have hi' : ops[i]? = some o := by simpa using hi
  refine anyJ_first hi' (Region.noSelect_spec hs0) (fun c a w hq => ?_) fuel ⟨listed⟩ a w (Region.free_spec hi' hfree) (by simpa using hready) (.inr ⟨grd_ok ha hg, rfl⟩) ?_
  · rw [Kont.panic_eq] at hq ⊢
    rw [hd] at hq
    exact hq
  · have := h (a.put (some d) undef) w (ha.put hdn undef) hm
    rw [hd]
    have e : (⟨listed⟩ : Array Bool).setIfInBounds i true = ⟨listed.set i true⟩ := by apply Array.ext'; simp
    rw [e]
    exact this

def anyK (X : Cx) (ops : Array Oper) (Cs : List Chunk) (k : Kont) (fuel : Nat) (listed : List Bool) : Kont := .loop (fun a w => anyJ X.P ops (k.Q X) (Mem Cs) fuel ⟨listed⟩ a w) k
theorem KT.any {fuel : Nat} {listed : List Bool} (h : AT X ops Cs k fuel listed R hs) : KT X (anyK X ops Cs k fuel listed) R hs := fun a w ha hm => h a w ha hm

omit [Outer] in
/-- one operation, out of those that may be next -/
theorem wpOp_of_list {i : Nat} {o : Oper} (hi : ops[i]? = some o) {a : Act} {w : World} {J : Act → World → Prop} (h : wpList X.P ops ((Kont.loop J k).Q X) [o] a w) : wpOp X.P ops (k.Q X) i J a w := by
  unfold wpOp
  simp only [hi]
  simp only [wpList] at h
  split at h
  · rename_i hw
    rw [if_pos hw]
    rcases h with h | ⟨h1, a0, w0, h2⟩
    · refine .inl ?_
      unfold Oper.wp at h ⊢
      generalize (execOp a.eval o).run X.P w = r at *
      cases r with
      | ok n w' => cases n <;> exact h
      | halt x w' => cases x <;> exact h
    · exact .inr ⟨h1, a0, w0, h2⟩
  · rename_i hw
    rw [if_neg hw]
    exact h
theorem AT.all {fuel : Nat} {listed : List Bool} (rs : List Nat) (hr : Region.ready .any ops ⟨listed⟩ = rs) (hne : rs ≠ []) (hsel : Sel hs Cs)
    (h : ∀ i ∈ rs, ∃ o, ops.toList[i]? = some o ∧ OT X ops [o] (anyK X ops Cs k fuel (listed.set i true)) R hs) : AT X ops Cs k (fuel + 1) listed R hs := by
  intro a w ha hm
  refine ⟨hm.sel hsel, fun h0 => absurd (hr ▸ h0) hne, fun i hi => ?_⟩
  rw [hr] at hi
  obtain ⟨o, ho, hot⟩ := h i hi
  have hi' : ops[i]? = some o := by simpa using ho
  have e : (⟨listed⟩ : Array Bool).setIfInBounds i true = ⟨listed.set i true⟩ := by apply Array.ext'; simp
  rw [e]
  exact wpOp_of_list hi' (hot a w ha hm)
theorem AT.op {fuel : Nat} {listed : List Bool} (i : Nat) {o : Oper} (hr : Region.ready .any ops ⟨listed⟩ = [i]) (ho : ops.toList[i]? = some o) (hsel : Sel hs Cs)
    (h : OT X ops [o] (anyK X ops Cs k fuel (listed.set i true)) R hs) : AT X ops Cs k (fuel + 1) listed R hs :=
  AT.all [i] hr (by simp) hsel fun j hj => by rw [List.mem_singleton] at hj; subst hj; exact ⟨o, ho, h⟩
theorem AT.done {fuel : Nat} {listed : List Bool} (hr : Region.ready .any ops ⟨listed⟩ = []) (hsel : Sel hs Cs) (h : KT X k R hs) : AT X ops Cs k fuel listed R hs := by
  intro a w ha hm
  cases fuel with
  | zero => exact ⟨hm.sel hsel, hr, h a w ha hm⟩
  | succ n => exact ⟨hm.sel hsel, fun _ => h a w ha hm, fun i hi => by rw [hr] at hi; cases hi⟩

/-- many at one stroke: that each may be taken (closed), and the values -/
def chkA (ops : Array Oper) : List Bool → List Nat → Bool
  | _, [] => true
  | listed, i :: r => Region.free .any ops ⟨listed⟩ i && (Region.ready .any ops ⟨listed⟩).contains i && chkA ops (listed.set i true) r
def setA : List Bool → List Nat → List Bool
  | listed, [] => listed
  | listed, i :: r => setA (listed.set i true) r
def runA (T : Tab) (n : Nat) (ops : Array Oper) (l : List Oper) : List Nat → Reg → Option Reg
  | [], R => some R
  | i :: r, R => match l[i]? with
    | none => none
    | some o => match o.dst with
      | none => none
      | some d => match grd ops R o.guard with
        | some true => match pev T R o.op with
          | some v => cond (Nat.ble (d + 1) n) (runA T n ops l r ((d, v) :: R)) none
          | none => none
        | some false => cond (Nat.ble (d + 1) n) (runA T n ops l r ((d, undef) :: R)) none
        | none => none
theorem AT.takes (hT : T.ok X.P) (is : List Nat) : ∀ {fuel : Nat} {listed : List Bool} {R R' : Reg}, Region.noSelect ops = true → chkA ops listed is = true → runA T X.n ops ops.toList is R = some R' →
    AT X ops Cs k fuel (setA listed is) R' hs → AT X ops Cs k (fuel + is.length) listed R hs := by
  induction is with
  | nil =>
    intro fuel listed R R' _ _ hr h
    simp only [runA, Option.some.injEq] at hr
    subst hr
    exact h
  | cons i r ih =>
    intro fuel listed R R' hs0 hc hr h
    simp only [chkA, Bool.and_eq_true] at hc
    simp only [runA] at hr
    split at hr
    · cases hr
    · rename_i o ho
      split at hr
      · cases hr
      · rename_i d hd
        split at hr
        · rename_i hg
          split at hr
          · rename_i v hv
            cases hb : Nat.ble (d + 1) X.n with
            | false => rw [hb] at hr; cases hr
            | true =>
              rw [hb] at hr
              exact AT.take hT i ho hd hs0 hc.1.1 hc.1.2 hg (.pure hv) hb (ih hs0 hc.2 hr h)
          · cases hr
        · rename_i hg
          cases hb : Nat.ble (d + 1) X.n with
          | false => rw [hb] at hr; cases hr
          | true =>
            rw [hb] at hr
            exact AT.skip i ho hd hs0 hc.1.1 hc.1.2 hg hb (ih hs0 hc.2 hr h)
        · cases hr

/-- any operation that leaves memory as it is -/
theorem AT.takeR (i : Nat) {o : Oper} {d : Nat} {v : Value} {fuel : Nat} {listed : List Bool} (hi : ops.toList[i]? = some o) (hd : o.dst = some d) (hs0 : Region.noSelect ops = true) (hfree : Region.free .any ops ⟨listed⟩ i = true)
    (hready : (Region.ready .any ops ⟨listed⟩).contains i = true) (hg : grd ops R o.guard = some true) (hv : ∀ a w, Fits X.n R a → Mem Cs w → (execOp a.eval o).run X.P w = .ok (.value v) w) (hdn : Nat.ble (d + 1) X.n = true)
    (h : AT X ops Cs k fuel (listed.set i true) ((d, v) :: R) hs) : AT X ops Cs k (fuel + 1) listed R hs := by
  intro a w ha hm
  have hi' : ops[i]? = some o := by simpa using hi
  refine anyJ_first hi' (Region.noSelect_spec hs0) (fun c a w hq => ?_) fuel ⟨listed⟩ a w (Region.free_spec hi' hfree) (by simpa using hready) (.inl ⟨grd_ok ha hg, fun w' hw' => hv a w' ha hw'⟩) ?_
  · rw [Kont.panic_eq] at hq ⊢
    rw [hd] at hq
    exact hq
  · have := h (a.put (some d) v) w (ha.put hdn v) hm
    rw [hd]
    have e : (⟨listed⟩ : Array Bool).setIfInBounds i true = ⟨listed.set i true⟩ := by apply Array.ext'; simp
    rw [e]
    exact this
theorem AT.index {α : Type} {enc : α → List Value} {sz e t d ty' : Nat} {pos : String} {after : Array Edge} {gd : Option (Nat × Bool)} {x ix : Operand} {v : Value} {xs : List α} {kk : IntKind} {z : Int} {y : α} {fuel : Nat} {listed : List Bool} (hT : T.ok X.P) (i : Nat)
    (hi : ops.toList[i]? = some ⟨some d, .indexAddr t x ix, ty', pos, after, gd⟩) (hs0 : Region.noSelect ops = true) (hfree : Region.free .any ops ⟨listed⟩ i = true)
    (hready : (Region.ready .any ops ⟨listed⟩).contains i = true) (hg : grd ops R gd = some true) (ht : ty T t = some (.slice e sz)) (hx : ev R x = some v) (hix : ev R ix = some (.int kk z))
    (hrow : Row enc sz Cs v xs) (h0 : 0 ≤ z) (hz : xs[z.toNat]? = some y) (hdn : Nat.ble (d + 1) X.n = true)
    (h : ∀ ad, El enc sz Cs y ad → AT X ops Cs k fuel (listed.set i true) ((d, .pointer (some ad)) :: R) hs) : AT X ops Cs k (fuel + 1) listed R hs := by
  obtain ⟨b, o, cap, rfl, hel⟩ := hrow.el hz
  have hil : z.toNat < xs.length := (List.getElem?_eq_some_iff.1 hz).1
  refine AT.takeR i hi rfl hs0 hfree hready hg (fun a w ha hm => ?_) hdn (h _ hel)
  have hu := (hT.ty ht).1
  have hsz := (hT.ty ht).2.1 w
  simp only [execOp, ha.ev hx, ha.ev hix]
  have : (Instr.indexAt t (.slice (some ⟨b, o, none⟩) xs.length cap) (.int kk z)).run X.P w = .ok (.pointer (some ⟨b, o + z.toNat * sz, none⟩)) w := by
    have hlt : z < (xs.length : Int) := by omega
    simp [Instr.indexAt, asIntOf, run_underlying hu, h0, hlt, hsz, addr_add]
  simp [this]
theorem AT.index_at {sz e t d ty' n b o : Nat} {pos : String} {after : Array Edge} {gd : Option (Nat × Bool)} {x ix : Operand} {kk : IntKind} {z : Int} {fuel : Nat} {listed : List Bool} (hT : T.ok X.P) (i : Nat)
    (hi : ops.toList[i]? = some ⟨some d, .indexAddr t x ix, ty', pos, after, gd⟩) (hs0 : Region.noSelect ops = true) (hfree : Region.free .any ops ⟨listed⟩ i = true)
    (hready : (Region.ready .any ops ⟨listed⟩).contains i = true) (hg : grd ops R gd = some true) (ht : ty T t = some (.arr n e sz)) (hx : ev R x = some (.pointer (some ⟨b, o, none⟩))) (hix : ev R ix = some (.int kk z))
    (h0 : 0 ≤ z) (hz : z < n) (hdn : Nat.ble (d + 1) X.n = true)
    (h : AT X ops Cs k fuel (listed.set i true) ((d, .pointer (some ⟨b, o + z.toNat * sz, none⟩)) :: R) hs) : AT X ops Cs k (fuel + 1) listed R hs := by
  refine AT.takeR i hi rfl hs0 hfree hready hg (fun a w ha hm => ?_) hdn h
  have hu := (hT.ty ht).1
  have hsz := (hT.ty ht).2.1
  simp only [execOp, ha.ev hx, ha.ev hix]
  simp [Instr.indexAt, asIntOf, run_underlying hu, Instr.sureAddr, h0, hz, hsz, addr_add]
end
end Go.Sx
