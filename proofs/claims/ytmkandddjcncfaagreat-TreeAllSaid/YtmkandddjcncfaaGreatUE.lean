/- Several texts in one. What the trees' functions come to on a right book. No program in sight. The two cells of begun. Cells laid one by one. No program in sight. Cells taken away one by one; keys that are found. No program in sight. Spans; cells in place of others; taken away by sevens. No program in sight. The steps of TreeAll. No program in sight. Pages of any bytes. No program in sight. -/
import Derived.Test.YtmkandddjcncfaaGreatUD
set_option linter.unusedVariables false
set_option linter.unusedSimpArgs false
set_option linter.unusedSectionVars false

section
namespace Go.Pl
open Go Go.Sx
/-- no cell of its key is as long -/
def Longer (x : Cell) (l : List Cell) : Prop := ∀ c ∈ l, c.key = x.key → (cellBytes c).length < (cellBytes x).length
/-- what Put comes to -/
def PutR (x : Cell) (g g' : Gone) (e : Int) : Prop :=
  (mayCell x = false ∧ e = 1 ∧ g' = g) ∨ (mayCell x = true ∧ e = 0 ∧ g'.2 = insC g.2 x ∧ ((∃ c ∈ g.2, c.key = x.key ∧ (cellBytes x).length ≤ (cellBytes c).length) → g'.1 = g.1)) ∨
  (mayCell x = true ∧ e = 4 ∧ g' = g ∧ 28 ≤ g.1.length ∧ 20 ≤ g.2.length ∧ Longer x g.2)
theorem RightT.putR {Q Q' : Pages} {g : Gone} (h : RightT Q g) {x : Cell} (hx : mayCell x = true) (hxf : x.val.f < 2 ^ 64 ∧ x.new.f < 2 ^ 64) (hp : putTop Q x = .ok Q') :
    ∃ g', RightT Q' g' ∧ g'.2 = insC g.2 x ∧ ((∃ c ∈ g.2, c.key = x.key ∧ (cellBytes x).length ≤ (cellBytes c).length) → g'.1 = g.1) := by
  by_cases hc : ∃ c ∈ g.2, c.key = x.key ∧ (cellBytes x).length ≤ (cellBytes c).length
  · obtain ⟨c, hc1, hc2, hc3⟩ := hc
    obtain ⟨Q2, g', h1, h2, h3, h4⟩ := h.place hx hxf hc1 hc2 hc3
    rw [hp] at h1; injection h1 with h1; subst h1
    exact ⟨g', h2, put_is h.rising h2.rising h3, fun _ => h4⟩
  · rcases h.put hx hxf with ⟨Q2, g', h1, h2, h3⟩ | ⟨h1, _⟩
    · rw [hp] at h1; injection h1 with h1; subst h1
      exact ⟨g', h2, put_is h.rising h2.rising h3, fun h => absurd h hc⟩
    · rw [hp] at h1; cases h1
theorem RightT.putE {Q : Pages} {g : Gone} (h : RightT Q g) {x : Cell} (hx : mayCell x = true) (hxf : x.val.f < 2 ^ 64 ∧ x.new.f < 2 ^ 64) {e : Int} (hp : putTop Q x = .error e) :
    e = 4 ∧ 28 ≤ g.1.length ∧ 20 ≤ g.2.length ∧ Longer x g.2 := by
  rcases h.put hx hxf with ⟨Q2, g', h1, _⟩ | ⟨h1, h2, h3⟩
  · rw [hp] at h1; cases h1
  · rw [hp] at h1; injection h1 with h1
    refine ⟨h1, h2, h3, fun c hc hk => ?_⟩
    refine Nat.lt_of_not_le fun hl => ?_
    obtain ⟨Q2, g', h4, _⟩ := h.place hx hxf hc hk hl
    rw [hp] at h4; cases h4
theorem RightT.delR {Q Q' : Pages} {g : Gone} (h : RightT Q g) {k : ByteArray} {has : Bool} (hp : delTop Q k = .ok (has, Q')) : ∃ g', RightT Q' g' ∧ g'.2 = cutC g.2 k ∧ has = (getC g.2 k).isSome ∧ g'.1.length ≤ g.1.length := by
  rcases h.del k with ⟨h1, h2⟩ | ⟨Q2, g', h1, h2, h3, h4, h5⟩
  · rw [hp] at h1; injection h1 with h1; injection h1 with h1 h3; subst h1 h3
    exact ⟨g, h, (cutC_none h2).symm, by rw [getC_not h2]; rfl, Nat.le_refl _⟩
  · rw [hp] at h1; injection h1 with h1; injection h1 with h1 h6; subst h1 h6
    exact ⟨g', h2, cut_is h.rising h2.rising h3, (getC_some.2 h4).symm, h5⟩
theorem RightT.delE {Q : Pages} {g : Gone} (h : RightT Q g) {k : ByteArray} {e : Int} : delTop Q k ≠ .error e := by
  rcases h.del k with ⟨h1, _⟩ | ⟨Q2, g', h1, _⟩ <;> rw [h1] <;> intro h <;> cases h
theorem RightT.getR {Q : Pages} {g : Gone} (h : RightT Q g) {k : ByteArray} {o : Option Cell} (hp : getTop (pgOf Q) k = .ok o) : o = getC g.2 k := by
  obtain ⟨o2, h1, h2⟩ := h.get k
  rw [hp] at h1; injection h1 with h1; subst h1
  exact getC_is h.rising h2
theorem RightT.getE {Q : Pages} {g : Gone} (h : RightT Q g) {k : ByteArray} {e : Int} : getTop (pgOf Q) k ≠ .error e := by
  obtain ⟨o2, h1, h2⟩ := h.get k
  rw [h1]; intro h; cases h
theorem eqCell_self (c : Cell) : eqCell c c = true := by unfold eqCell eqVl; simp
theorem insC_mem {l : List Cell} (h : rising (keysOf l)) {x c : Cell} : c ∈ insC l x ↔ c = x ∨ (c ∈ l ∧ c.key ≠ x.key) := (insC_put h x).2 c
theorem insC_rising {l : List Cell} (h : rising (keysOf l)) (x : Cell) : rising (keysOf (insC l x)) := (insC_put h x).1
theorem all_in (l : List Cell) : (l.filter fun c => keyIn c.key ⟨#[]⟩ ⟨#[]⟩) = l := List.filter_eq_self.2 fun _ _ => in_all
theorem RightT.small {Q : Pages} {g : Gone} (h : RightT Q g) : g.2.length ≤ 8192 := by
  have := (allT_len h.all).2
  exact this
theorem TrIn.small {sT b : Nat} {P : Value} {I : Chunk → Prop} {Qb : Pages} {g : Gone} {H : Chunk} (h : TrIn sT b P I Qb g H) : g.1.length ≤ 30 ∧ g.2.length ≤ 8192 ∧ rising (keysOf g.2) ∧ g.1.Nodup ∧ (∀ m ∈ g.1, mayUse m) := by
  obtain ⟨Q, _, h⟩ := h
  exact ⟨h.few, h.small, h.rising, h.nodup, h.may⟩
theorem TrIn.any {sT b : Nat} {P : Value} {I : Chunk → Prop} {Qb : Pages} {g : Gone} {H : Chunk} (h : TrIn sT b P I Qb g H) (h0 : 0 < g.2.length) : 0 < g.1.length := by
  obtain ⟨Q, _, h⟩ := h
  rcases Nat.eq_zero_or_pos g.1.length with h1 | h1
  · have := h.some (List.length_eq_zero_iff.1 h1); rw [this] at h0; exact absurd h0 (Nat.lt_irrefl 0)
  · exact h1
theorem TrIn.nil {sT b : Nat} {P : Value} {I : Chunk → Prop} {Qb : Pages} {g : Gone} {H : Chunk} (h : TrIn sT b P I Qb g H) (h0 : g.2 = []) : g = ([], []) := by
  obtain ⟨Q, _, h⟩ := h
  exact h.none h0
def noP : Pages := fun _ => noughts 256
theorem noP_long : Long noP := fun _ _ => noughts_length 256
end Go.Pl
end

section
namespace Go.Sx
open Go
section
variable [Outer] {X : Cx} {k : Kont} {R : Reg} {hs : List Chunk} {ops : Array Oper} {l : List Oper} {T : Tab} {d ty' : Nat} {pos : String} {after : Array Edge} {gd : Option (Nat × Bool)}
/-- x == x, of a float that is a number -/
theorem OT.feq {x y : Operand} {t t2 : Nat} {u : Nat} (hu : nanN u = false) (hg : grd ops R gd = some true) (hx : ev R x = some (.float .f64 u)) (hy : ev R y = some (.float .f64 u)) (hdn : Nat.ble (d + 1) X.n = true)
    (h : OT X ops l k ((d, .bool true) :: R) hs) : OT X ops (⟨some d, .binOp .eql t x y t2, ty', pos, after, gd⟩ :: l) k R hs := by
  refine OT.value hg rfl hdn fun a w ha hm => ⟨_, hs, w, ?_, hm, h⟩
  have h1 := order_self u
  rw [hu] at h1
  have h2 : (FloatKind.f64.format.order u u == some .eq) = true := by
    unfold bne at h1; simpa using h1
  simp only [execOp, ha.ev hx, ha.ev hy]
  simp [eqGuard, binOp, Op.floatCmp, h2]
end
end Go.Sx
namespace Go.Pl
open Go Go.Sx
def kA : ByteArray := ⟨#[97]⟩
def kB : ByteArray := ⟨#[98]⟩
def cA : Cell := ⟨kA, ⟨2, 0, ⟨#[120]⟩⟩, 0, noVl⟩
def cB : Cell := ⟨kB, ⟨1, 4611686018427387904, ⟨#[]⟩⟩, 0, noVl⟩
theorem two_num : nanN 4611686018427387904 = false := by unfold nanN; decide
theorem begun1 {g : Gone} {e : Int} (h : PutR cB ([], []) g e) : e = 0 ∧ g.2 = [cB] := by
  have hm : mayCell cB = true := by decide
  rcases h with ⟨h, _⟩ | ⟨_, h1, h2, _⟩ | ⟨_, _, _, h, _⟩
  · rw [hm] at h; cases h
  · exact ⟨h1, h2⟩
  · exact absurd h (by decide)
theorem begun2 {g g' : Gone} {e : Int} (hg : g.2 = [cB]) (h : PutR cA g g' e) : e = 0 ∧ g'.2 = [cA, cB] := by
  have hm : mayCell cA = true := by decide
  rcases h with ⟨h, _⟩ | ⟨_, h1, h2, _⟩ | ⟨_, _, _, _, h, _⟩
  · rw [hm] at h; cases h
  · refine ⟨h1, ?_⟩
    rw [h2, hg, ← lawPut_is (l := [cB]) (c := cA) (show rising [kB] from List.pairwise_singleton _ _)]; decide
  · rw [hg] at h; exact absurd h (by decide)
theorem begun3 {g g' : Gone} {e : Int} (h : PutR noCell g g' e) : e = 1 := by
  have hm : mayCell noCell = false := by decide
  rcases h with ⟨_, h, _⟩ | ⟨h, _⟩ | ⟨h, _⟩
  · exact h
  · rw [hm] at h; cases h
  · rw [hm] at h; cases h
theorem begun_get : getC [cA, cB] kB = some cB := by decide
theorem begun_has : getC [cA, cB] kA = some cA := by decide
end Go.Pl
end

section
namespace Go.Pl
open Go Go.Sx
def fillL (f : Nat → Cell) : Nat → List Cell
  | 0 => []
  | i + 1 => insC (fillL f i) (f i)
theorem fillL_rising (f : Nat → Cell) : ∀ i, rising (keysOf (fillL f i))
  | 0 => List.Pairwise.nil
  | i + 1 => insC_rising (fillL_rising f i) _
theorem fillL_mem {f : Nat → Cell} : ∀ {i : Nat} {c : Cell}, c ∈ fillL f i → ∃ j, j < i ∧ c = f j
  | 0, c, h => by cases h
  | i + 1, c, h => by
    rcases (insC_mem (fillL_rising f i)).1 h with h | ⟨h, _⟩
    · exact ⟨i, by omega, h⟩
    · obtain ⟨j, h1, h2⟩ := fillL_mem h; exact ⟨j, by omega, h2⟩
theorem fillL_has {f : Nat → Cell} : ∀ {i j : Nat}, j < i → (∀ k, j < k → k < i → (f k).key ≠ (f j).key) → f j ∈ fillL f i
  | 0, j, h, _ => by omega
  | i + 1, j, h, hk => by
    refine (insC_mem (fillL_rising f i)).2 ?_
    by_cases e : j = i
    · exact .inl (by rw [e])
    · exact .inr ⟨fillL_has (by omega) fun k h1 h2 => hk k h1 (by omega), fun h2 => hk i (by omega) (by omega) h2.symm⟩
theorem put_may {x : Cell} {g g' : Gone} {e : Int} (hm : mayCell x = true) (h : PutR x g g' e) : (e = 0 ∧ g'.2 = insC g.2 x) ∨ (e = 4 ∧ g' = g ∧ 28 ≤ g.1.length ∧ 20 ≤ g.2.length) := by
  rcases h with ⟨h, _⟩ | ⟨_, h1, h2, _⟩ | ⟨_, h1, h2, h3, h4, _⟩
  · rw [hm] at h; cases h
  · exact .inl ⟨h1, h2⟩
  · exact .inr ⟨h1, h2, h3, h4⟩
/-- a cell of one version -/
def oneC' (k v : Nat) : Cell := ⟨keyN k, valN v, 0, noVl⟩
end Go.Pl
end

section
namespace Go.Pl
open Go Go.Sx
/-- the cells from the i-th one on are left -/
def LeftC (f : Nat → Cell) (i n : Nat) (l : List Cell) : Prop := ∀ c, c ∈ l ↔ ∃ j, i ≤ j ∧ j < n ∧ c = f j
def KeysApart (f : Nat → Cell) (n : Nat) : Prop := ∀ i j, i < n → j < n → (f i).key = (f j).key → i = j
theorem LeftC.fill {f : Nat → Cell} {n : Nat} (h : KeysApart f n) : LeftC f 0 n (fillL f n) := fun c => by
  constructor
  · intro hc; obtain ⟨j, h1, h2⟩ := fillL_mem hc; exact ⟨j, by omega, h1, h2⟩
  · rintro ⟨j, _, h1, rfl⟩
    exact fillL_has h1 fun k h2 h3 e => by have := h k j h3 h1 e; omega
theorem LeftC.has {f : Nat → Cell} {i n : Nat} {l : List Cell} (h : LeftC f i n l) (hi : i < n) : (getC l (f i).key).isSome = true :=
  getC_some.2 ⟨f i, (h _).2 ⟨i, Nat.le_refl _, hi, rfl⟩, rfl⟩
theorem LeftC.cut {f : Nat → Cell} {i n : Nat} {l : List Cell} (h : LeftC f i n l) (hk : KeysApart f n) (hi : i < n) : LeftC f (i + 1) n (cutC l (f i).key) := fun c => by
  rw [cutC_is l (f i).key c, h c]
  constructor
  · rintro ⟨⟨j, h1, h2, rfl⟩, h3⟩
    exact ⟨j, by have : j ≠ i := fun e => h3 (by rw [e]); omega, h2, rfl⟩
  · rintro ⟨j, h1, h2, rfl⟩
    exact ⟨⟨j, by omega, h2, rfl⟩, fun e => by have := hk j i h2 hi e; omega⟩
theorem LeftC.none {f : Nat → Cell} {n : Nat} {l : List Cell} (h : LeftC f n n l) : l = [] := by
  refine List.eq_nil_iff_forall_not_mem.2 fun c hc => ?_
  obtain ⟨j, h1, h2, _⟩ := (h c).1 hc
  omega
/-! ### an array of numbers -/
/-! ### numbers by a prime -/
end Go.Pl
end

section
namespace Go.Sx
open Go
section
variable [Outer] {α : Type} {enc : α → List Value} {sz : Nat} {hs : List Chunk} {T : Tab} {t : Nat}
end
end Go.Sx
namespace Go.Pl
open Go Go.Sx
/-! ### a cell in place of another one -/
/-- cells of one length -/
def OfLen (l v : Nat) (L : List Cell) : Prop := ∀ c ∈ L, ∃ j, j < l ∧ c = oneC' j v
theorem OfLen.put {l v : Nat} {L : List Cell} (h : OfLen l v L) (hr : rising (keysOf L)) : OfLen (l + 1) v (insC L (oneC' l v)) := fun c hc => by
  rcases (insC_mem hr).1 hc with rfl | ⟨hc, _⟩
  · exact ⟨l, by omega, rfl⟩
  · obtain ⟨j, hj, e⟩ := h c hc; exact ⟨j, by omega, e⟩
/-- the first of them are shorter now -/
def Shorter (n s v i : Nat) (L : List Cell) : Prop := ∀ (q : Nat) (c : Cell), L[q]? = some c → ∃ j, j < n ∧ c = oneC' j (if q < i then s else v)
theorem Shorter.zero {n s v : Nat} {L : List Cell} (h : OfLen n v L) : Shorter n s v 0 L := fun q c hc => by
  obtain ⟨j, hj, e⟩ := h c (List.mem_of_getElem? hc)
  exact ⟨j, hj, by rw [if_neg (by omega)]; exact e⟩
theorem Shorter.step {n s v i k : Nat} {L : List Cell} (h : Shorter n s v i L) (hi : L[i]? = some (oneC' k v)) (hk : k < n) : Shorter n s v (i + 1) (L.set i (oneC' k s)) := fun q c hc => by
  rw [List.getElem?_set] at hc
  by_cases e : i = q
  · subst e
    rw [if_pos rfl, if_pos (List.getElem?_eq_some_iff.1 hi).1] at hc
    injection hc with hc
    exact ⟨k, hk, by rw [if_pos (by omega)]; exact hc.symm⟩
  · rw [if_neg e] at hc
    obtain ⟨j, hj, e2⟩ := h q c hc
    refine ⟨j, hj, e2.trans ?_⟩
    congr 1
    by_cases h1 : q < i
    · rw [if_pos h1, if_pos (by omega)]
    · rw [if_neg h1, if_neg (by omega)]
def FlL (L : List Cell) : Prop := ∀ x ∈ L, x.val.f < 2 ^ 64 ∧ x.new.f < 2 ^ 64
theorem FlL.put {L : List Cell} (h : FlL L) (hr : rising (keysOf L)) {x : Cell} (hx : x.val.f < 2 ^ 64 ∧ x.new.f < 2 ^ 64) : FlL (insC L x) := fun c hc => by
  rcases (insC_mem hr).1 hc with rfl | ⟨hc, _⟩
  · exact hx
  · exact h c hc
theorem FlL.cut {L : List Cell} (h : FlL L) (k : ByteArray) : FlL (cutC L k) := fun c hc => h c ((cutC_is L k c).1 hc).1
/-! ### by sevens -/
/-- what is left behind i turns by sevens -/
def Sevens (L : List Cell) (i : Nat) (l : List Cell) : Prop := ∀ c, c ∈ l ↔ ∃ q, L[q]? = some c ∧ ¬ ∃ k, k < i ∧ (k * 7 + 3) % L.length = q
theorem at_inj {L : List Cell} (h : rising (keysOf L)) {p q : Nat} {a b : Cell} (ha : L[p]? = some a) (hb : L[q]? = some b) (hk : a.key = b.key) : p = q := by
  rcases Nat.lt_trichotomy p q with h1 | h1 | h1
  · have := lt_at h h1 (keys_at ha) (keys_at hb); rw [hk, kLt_irrefl] at this; cases this
  · exact h1
  · have := lt_at h h1 (keys_at hb) (keys_at ha); rw [hk, kLt_irrefl] at this; cases this
theorem Sevens.has {L l : List Cell} {i : Nat} (hs : Sevens L i l) (h : rising (keysOf L)) {c : Cell} (hc : L[(i * 7 + 3) % L.length]? = some c) : (getC l c.key).isSome = !goneN i L.length := by
  rw [Bool.eq_iff_iff, getC_some, Bool.not_eq_true', goneN, decide_eq_false_iff_not]
  constructor
  · rintro ⟨z, hz, hk⟩
    obtain ⟨q, hq, hn⟩ := (hs z).1 hz
    have := at_inj h hq hc hk
    subst this; exact hn
  · intro hn; exact ⟨c, (hs c).2 ⟨_, hc, hn⟩, rfl⟩
theorem Sevens.cut {L l : List Cell} {i : Nat} (hs : Sevens L i l) (h : rising (keysOf L)) {c : Cell} (hc : L[(i * 7 + 3) % L.length]? = some c) : Sevens L (i + 1) (cutC l c.key) := fun z => by
  rw [cutC_is l c.key z, hs z]
  constructor
  · rintro ⟨⟨q, hq, hn⟩, hk⟩
    refine ⟨q, hq, ?_⟩
    rintro ⟨k, h1, h2⟩
    by_cases e : k = i
    · subst e
      subst h2; rw [hc] at hq; injection hq with hq; exact hk (by rw [hq])
    · exact hn ⟨k, by omega, h2⟩
  · rintro ⟨q, hq, hn⟩
    refine ⟨⟨q, hq, fun ⟨k, h1, h2⟩ => hn ⟨k, by omega, h2⟩⟩, fun hk => ?_⟩
    exact hn ⟨i, by omega, (at_inj h hc hq hk.symm)⟩
/-- what is left is from the i-th cell on -/
def FromOn (L : List Cell) (i : Nat) (l : List Cell) : Prop := ∀ c ∈ l, ∃ q, i ≤ q ∧ L[q]? = some c
theorem Sevens.from {L l : List Cell} {i : Nat} (hs : Sevens L i l) : FromOn L 0 l := fun c hc => by
  obtain ⟨q, hq, _⟩ := (hs c).1 hc; exact ⟨q, Nat.zero_le _, hq⟩
theorem FromOn.cut {L l : List Cell} {i : Nat} (h : FromOn L i l) {c : Cell} (hc : L[i]? = some c) : FromOn L (i + 1) (cutC l c.key) := fun z hz => by
  obtain ⟨h1, h2⟩ := (cutC_is l c.key z).1 hz
  obtain ⟨q, hq, hqz⟩ := h z h1
  refine ⟨q, ?_, hqz⟩
  rcases Nat.eq_or_lt_of_le hq with e | e
  · subst e; rw [hc] at hqz; injection hqz with hqz; exact absurd (by rw [hqz]) h2
  · exact e
theorem FromOn.none {L l : List Cell} (h : FromOn L L.length l) : l = [] := by
  refine List.eq_nil_iff_forall_not_mem.2 fun c hc => ?_
  obtain ⟨q, hq, hqc⟩ := h c hc
  have := (List.getElem?_eq_some_iff.1 hqc).1
  omega
end Go.Pl
end

section
namespace Go.Pl
open Go Go.Sx
structure TOp where
  kind : Int
  c : Cell
  key : ByteArray
  to : ByteArray
def encTOp (x : TOp) : List Value := .int .i64 x.kind :: (encCell x.c ++ [.string x.key, .string x.to])
def cutTOp (x : TOp) : TOp := { x with c := cutCell x.c, key := cutS x.key 20, to := cutS x.to 20 }
def FlOps (l : List TOp) : Prop := ∀ x ∈ l, x.c.val.f < 2 ^ 64 ∧ x.c.new.f < 2 ^ 64
theorem filter_at {l : List Cell} {p : Cell → Bool} {j : Nat} {y : Cell} (h : l[j]? = some y) (hp : p y = true) : (l.filter p)[((l.take j).filter p).length]? = some y ∧ ((l.take (j + 1)).filter p).length = ((l.take j).filter p).length + 1 := by
  obtain ⟨hlt, rfl⟩ := List.getElem?_eq_some_iff.1 h
  constructor
  · conv => lhs; arg 1; rw [← List.take_append_drop j l, List.filter_append, List.drop_eq_getElem_cons hlt, List.filter_cons, if_pos hp]
    rw [List.getElem?_append_right (Nat.le_refl _), Nat.sub_self]; rfl
  · rw [List.take_add_one, h, Option.toList_some, List.filter_append, List.length_append, List.filter_cons, if_pos hp]; rfl
theorem filter_no {l : List Cell} {p : Cell → Bool} {j : Nat} {y : Cell} (h : l[j]? = some y) (hp : p y = false) : ((l.take (j + 1)).filter p).length = ((l.take j).filter p).length := by
  rw [List.take_add_one, h, Option.toList_some, List.filter_append, List.length_append, List.filter_cons, if_neg (by rw [hp]; simp)]; rfl
theorem filter_few (l : List Cell) (p : Cell → Bool) (j : Nat) : ((l.take j).filter p).length ≤ l.length := Nat.le_trans (List.length_filter_le _ _) (by rw [List.length_take]; omega)
theorem getC_fl {l : List Cell} (h : FlL l) (k : ByteArray) : ((getC l k).getD noCell).val.f < 2 ^ 64 ∧ ((getC l k).getD noCell).new.f < 2 ^ 64 := by
  cases hg : getC l k with
  | none => constructor <;> (show (0 : Nat) < 2 ^ 64; decide)
  | some c => exact h c (List.mem_of_find?_eq_some (show l.find? (fun c => decide (c.key = k)) = some c from hg))
/-- what Put comes to, by May -/
theorem put_bad {x : Cell} {g g' : Gone} {e : Int} (hm : mayCell x = false) (h : PutR x g g' e) : e = 1 ∧ g' = g := by
  rcases h with ⟨_, h1, h2⟩ | ⟨h, _⟩ | ⟨h, _⟩
  · exact ⟨h1, h2⟩
  · rw [hm] at h; cases h
  · rw [hm] at h; cases h
end Go.Pl
end

section
namespace Go.Pl
open Go Go.Sx
abbrev BytesV := Value × List UInt8
def encBV (x : BytesV) : List Value := [x.1]
theorem there_pg (Q : Pages) : There (pgOf Q) := fun no h => by unfold pgOf; rw [if_pos h]
theorem pg1 (Q : Pages) : pgOf Q 1 = (0, Q 1) := by unfold pgOf; rw [if_pos (by decide)]
theorem bad_err {Q : Pages} (hl : Long Q) {e : Int} (h : checkTop (pgOf Q) = .error e) : e = 8 :=
  checkTop8 (there_pg Q) (by rw [pg1]; exact hl 1 (by decide)) h
theorem bad_cells {Q : Pages} {g : Gone} (h : checkTop (pgOf Q) = .ok ()) (ha : allT (pgOf Q) = .ok g) : rising (keysOf (g.2.filter fun c => keyIn c.key ⟨#[]⟩ ⟨#[]⟩)) := by
  obtain ⟨g2, h1, h2⟩ := checkTop_rising h
  rw [ha] at h1; injection h1 with h1; subst h1
  rw [all_in]; exact h2
theorem bad_all {Q : Pages} {e : Int} (ha : allT (pgOf Q) = .error e) : checkTop (pgOf Q) ≠ .ok () := fun h => by
  obtain ⟨g2, h1, _⟩ := checkTop_rising h
  rw [ha] at h1; cases h1
def cX : Cell := ⟨⟨#[120]⟩, ⟨1, 4607182418800017408, ⟨#[]⟩⟩, 0, noVl⟩
def byteI (n : Int) : UInt8 := UInt8.ofNat (n % 256).toNat
theorem byteI_is (n : Int) : IntKind.u8.wrap n = ((byteI n).toNat : Int) := by
  unfold byteI
  rw [IntKind.wrap_u8, UInt8.toNat_ofNat']
  have h1 := Int.emod_nonneg n (show (256 : Int) ≠ 0 by decide)
  have h2 := Int.emod_lt_of_pos n (show (0 : Int) < 256 by decide)
  omega
theorem over_len {α : Type} {xs ys : List α} {j : Nat} (h : j + ys.length ≤ xs.length) : (over xs j ys).length = xs.length := by
  unfold over; simp only [List.length_append, List.length_take, List.length_drop]; omega
end Go.Pl
end
