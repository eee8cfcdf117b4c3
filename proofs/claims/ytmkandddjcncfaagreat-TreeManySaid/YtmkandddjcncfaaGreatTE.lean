/- Several texts in one. Cells taken away one by one; keys that are found. No program in sight. Spans; cells in place of others; taken away by sevens. No program in sight. The steps of TreeAll. No program in sight. Pages of any bytes. No program in sight. Sheets above sheets. No program in sight. -/
import Derived.Test.YtmkandddjcncfaaGreatTD
set_option linter.unusedVariables false
set_option linter.unusedSimpArgs false
set_option linter.unusedSectionVars false

section
namespace Go.Pl
open Go Go.Sx
/-- the cells from the i-th one on are left -/
def LeftC (f : Nat → Cell) (i n : Nat) (l : List Cell) : Prop := ∀ c, c ∈ l ↔ ∃ j, i ≤ j ∧ j < n ∧ c = f j
def KeysApart (f : Nat → Cell) (n : Nat) : Prop := ∀ i j, i < n → j < n → (f i).key = (f j).key → i = j
theorem LeftC.fill {f : Nat → Cell} {n : Nat} (h : KeysApart f n) : LeftC f 0 n (fillL f n) := fun c => by
  constructor
  · intro hc; obtain ⟨j, h1, h2⟩ := fillL_mem hc; exact ⟨j, by omega, h1, h2⟩
  · rintro ⟨j, _, h1, rfl⟩
    exact fillL_has h1 fun k h2 h3 e => by have := h k j h3 h1 e; omega
theorem LeftC.has {f : Nat → Cell} {i n : Nat} {l : List Cell} (h : LeftC f i n l) (hi : i < n) : (getC l (f i).key).isSome = true :=
  getC_some.2 ⟨f i, (h _).2 ⟨i, Nat.le_refl _, hi, rfl⟩, rfl⟩
theorem LeftC.cut {f : Nat → Cell} {i n : Nat} {l : List Cell} (h : LeftC f i n l) (hk : KeysApart f n) (hi : i < n) : LeftC f (i + 1) n (cutC l (f i).key) := fun c => by
  rw [cutC_is l (f i).key c, h c]
  constructor
  · rintro ⟨⟨j, h1, h2, rfl⟩, h3⟩
    exact ⟨j, by have : j ≠ i := fun e => h3 (by rw [e]); omega, h2, rfl⟩
  · rintro ⟨j, h1, h2, rfl⟩
    exact ⟨⟨j, by omega, h2, rfl⟩, fun e => by have := hk j i h2 hi e; omega⟩
theorem LeftC.none {f : Nat → Cell} {n : Nat} {l : List Cell} (h : LeftC f n n l) : l = [] := by
  refine List.eq_nil_iff_forall_not_mem.2 fun c hc => ?_
  obtain ⟨j, h1, h2, _⟩ := (h c).1 hc
  omega
def turnC (r : Nat) (j : Nat) : Cell := oneC' (j * 7 % 19 + r) 20
theorem turn_apart {r n : Nat} (hr : r ≤ 20) (hn : n ≤ 19) : KeysApart (turnC r) n := fun i j hi hj h => by
  have := keyN_inj (by omega) (by omega) h
  omega
/-! ### an array of numbers -/
def arrOf (n : Nat) (f : Nat → Int) : List Value := (List.range n).map fun k => .int .i64 (f k)
theorem arr_len (n : Nat) (f : Nat → Int) : (arrOf n f).length = n := by unfold arrOf; simp
theorem arr_at {n : Nat} {f : Nat → Int} {k o : Nat} (hk : k < n) (ho : o = k) : (arrOf n f)[o]? = some (.int .i64 (f k)) := by
  subst ho; unfold arrOf; rw [List.getElem?_map, List.getElem?_range hk]; rfl
theorem arr_set {n : Nat} {f : Nat → Int} {k o : Nat} {v : Int} (hk : k < n) (ho : o = k) : splice (arrOf n f) o [.int .i64 v] = arrOf n (fun j => if j = k then v else f j) := by
  subst ho
  rw [splice_one _ (by rw [arr_len]; exact hk)]
  apply List.ext_getElem?
  intro j
  rw [List.getElem?_set]
  unfold arrOf
  by_cases e : o = j
  · subst e
    rw [if_pos rfl, if_pos (by simpa using hk), List.getElem?_map, List.getElem?_range hk]; simp
  · rw [if_neg e, List.getElem?_map, List.getElem?_map]
    by_cases hj : j < n
    · rw [List.getElem?_range hj]; simp [Ne.symm e]
    · rw [List.getElem?_eq_none (by simp; omega)]; rfl
theorem arr_low (k : Nat) : arrOf 50 (fun j => if j = k then (-1 : Int) else if j < k then -1 else 0) = arrOf 50 (fun j => if j < k + 1 then (-1 : Int) else 0) := by
  congr 1; funext j
  by_cases h1 : j = k
  · rw [if_pos h1, if_pos (by omega)]
  · rw [if_neg h1]
    by_cases h2 : j < k
    · rw [if_pos h2, if_pos (by omega)]
    · rw [if_neg h2, if_neg (by omega)]
theorem arr_all : arrOf 50 (fun j => if j < 50 then (-1 : Int) else 0) = arrOf 50 (fun _ => (-1 : Int)) := by
  unfold arrOf
  apply List.map_congr_left
  intro j hj
  rw [List.mem_range] at hj
  dsimp only
  rw [if_pos hj]
/-! ### numbers by a prime -/
theorem prime_inj {p s i j : Nat} (hg : Nat.gcd p s = 1) (hi : i < p) (hj : j < p) (h : i * s % p = j * s % p) : i = j := by
  have key : ∀ a b : Nat, a ≤ b → b < p → a * s % p = b * s % p → a = b := fun a b hab hb h => by
    have h1 : p ∣ b * s - a * s := Nat.dvd_of_mod_eq_zero (Nat.sub_mod_eq_zero_of_mod_eq h.symm)
    rw [← Nat.mul_sub_right_distrib] at h1
    have h2 : p ∣ b - a := Nat.Coprime.dvd_of_dvd_mul_right hg h1
    rcases Nat.eq_zero_or_pos (b - a) with h3 | h3
    · omega
    · have := Nat.le_of_dvd h3 h2; omega
  rcases Nat.le_total i j with h1 | h1
  · exact key i j h1 hj h
  · exact (key j i h1 hi h.symm).symm
def findsC (step : Nat) (j : Nat) : Cell := oneC' (j * step % 23 * 2) j
theorem finds_apart {step n : Nat} (h1 : 1 ≤ step) (h2 : step ≤ 22) (hn : n ≤ 19) : KeysApart (findsC step) n := fun i j hi hj h => by
  have hm1 := Nat.mod_lt (i * step) (show 0 < 23 by decide)
  have hm2 := Nat.mod_lt (j * step) (show 0 < 23 by decide)
  have h3 := keyN_inj (by omega) (by omega) h
  have hg : ∀ s : Fin 23, 0 < s.val → Nat.gcd 23 s.val = 1 := by decide
  have hg : Nat.gcd 23 step = 1 := hg ⟨step, by omega⟩ h1
  exact prime_inj hg (by omega) (by omega) (by omega)
/-- which of the cells has that key, as TreeFinds looks -/
def lastN (step i k : Nat) : Int := match (List.range i).reverse.find? (fun j => decide (j * step % 23 * 2 = k)) with | some j => (j : Int) | none => -1
theorem last_zero (step : Nat) : lastN step 0 = fun _ => -1 := rfl
theorem last_succ (step i : Nat) : (fun k => if k = i * step % 23 * 2 then (i : Int) else lastN step i k) = lastN step (i + 1) := by
  funext k
  unfold lastN
  rw [List.range_succ, List.reverse_append, List.reverse_singleton, List.singleton_append, List.find?_cons]
  by_cases h : i * step % 23 * 2 = k
  · rw [if_pos h.symm, decide_eq_true h]
  · rw [if_neg (Ne.symm h), decide_eq_false h]
theorem last_is {step i k : Nat} (hk : k < 50) (h1 : 1 ≤ step) (h2 : step ≤ 22) (hn : i ≤ 19) {l : List Cell} (hl : LeftC (findsC step) 0 i l) :
    match getC l (keyN k) with | some c => ∃ j : Nat, lastN step i k = j ∧ c = findsC step j | none => lastN step i k = -1 := by
  have hmod : ∀ j, j * step % 23 * 2 < 1000 := fun j => by have := Nat.mod_lt (j * step) (show 0 < 23 by decide); omega
  cases hg : getC l (keyN k) with
  | some c =>
    dsimp only
    have hg' : l.find? (fun c => decide (c.key = keyN k)) = some c := hg
    have hc := List.mem_of_find?_eq_some hg'
    have hck : c.key = keyN k := by simpa using List.find?_some hg'
    obtain ⟨j, _, hj, rfl⟩ := (hl c).1 hc
    have hjk : j * step % 23 * 2 = k := keyN_inj (hmod j) (by omega) hck
    refine ⟨j, ?_, rfl⟩
    unfold lastN
    cases hf : (List.range i).reverse.find? (fun j => decide (j * step % 23 * 2 = k)) with
    | none => have := List.find?_eq_none.1 hf j (by simp; exact hj); simp [hjk] at this
    | some q =>
      have hq : q * step % 23 * 2 = k := by simpa using List.find?_some hf
      have hqi : q < i := by have := List.mem_of_find?_eq_some hf; simpa using this
      have := finds_apart h1 h2 hn q j hqi hj (by show keyN _ = keyN _; rw [hq, hjk])
      rw [this]
  | none =>
    dsimp only
    unfold lastN
    rw [List.find?_eq_none.2 fun j hj => ?_]
    have hji : j < i := by simpa using hj
    have hne : (findsC step j).key ≠ keyN k := fun e => by
      have := List.find?_eq_none.1 hg _ ((hl _).2 ⟨j, Nat.zero_le _, hji, rfl⟩)
      simp [e] at this
    simp only [decide_eq_true_eq]
    intro e; exact hne (by show keyN _ = _; rw [e])
end Go.Pl
end

section
namespace Go.Sx
open Go
section
variable [Outer] {α : Type} {enc : α → List Value} {sz : Nat} {hs : List Chunk} {T : Tab} {t : Nat}
/-- a struct in what lies at ad, loaded -/
theorem El.ld_sub {P : Program} (hT : T.ok P) {x : α} {b o : Nat} (h : El enc sz hs x ⟨b, o, none⟩) {offs : List (Nat × Nat)} {m : Nat} (ht : ty T t = some (.struct offs m)) (j : Nat) {vs : List Value} (hv : ((enc x).drop j).take m = vs) (hj : j + m ≤ sz) :
    Ld P hs t ⟨b, o + j, none⟩ (.agg ⟨vs⟩) := by
  obtain ⟨h1, b', o', cs, t', fr, ha, hb, hr⟩ := h
  injection ha with e1 e2
  subst e1; subst e2
  refine Ld.struct hT ht hb ?_ (by rw [← hv, List.length_take, List.length_drop]; omega)
  rw [← hv, ← hr, List.drop_take, List.drop_drop, List.take_take, Nat.min_eq_left (by omega)]
end
end Go.Sx
namespace Go.Pl
open Go Go.Sx
theorem keyN_le {i j : Nat} (h : i ≤ j) (hj : j < 1000) : kLt (keyN j) (keyN i) = false := by
  rcases Nat.eq_or_lt_of_le h with h | h
  · rw [h]; exact kLt_irrefl _
  · exact kLt_asymm (keyN_lt h hj)
theorem keyN_ne (i : Nat) : keyN i ≠ ⟨#[]⟩ := fun h => by have := congrArg ByteArray.size h; rw [keyN_size] at this; cases this
def spanOf (l : List Cell) (a b : Nat) : List Cell := l.filter fun c => keyIn c.key (keyN a) (keyN b)
theorem keyIn_N {k : ByteArray} {a b : Nat} : keyIn k (keyN a) (keyN b) = true ↔ kLt k (keyN a) = false ∧ kLt k (keyN b) = true := by
  rw [in_spec]; simp [keyN_ne b]
theorem span_split {a b c : Nat} (hab : a ≤ b) (hbc : b ≤ c) (hc : c < 1000) : ∀ {l : List Cell}, rising (keysOf l) → spanOf l a c = spanOf l a b ++ spanOf l b c
  | [], _ => rfl
  | x :: l, h => by
    have h' := List.pairwise_cons.1 h
    have hgt : ∀ y ∈ l, kLt x.key y.key = true := fun y hy => h'.1 _ (List.mem_map.2 ⟨y, hy, rfl⟩)
    have ih := span_split hab hbc hc h'.2
    unfold spanOf at ih ⊢
    rw [List.filter_cons, List.filter_cons, List.filter_cons]
    cases hb : kLt x.key (keyN b) with
    | true =>
      have e3 : keyIn x.key (keyN b) (keyN c) = false := Bool.eq_false_iff.2 fun h => by
        have := (keyIn_N.1 h).1; rw [hb] at this; cases this
      have e1 : keyIn x.key (keyN a) (keyN c) = keyIn x.key (keyN a) (keyN b) := by
        rw [Bool.eq_iff_iff, keyIn_N, keyIn_N]
        exact ⟨fun h => ⟨h.1, hb⟩, fun h => ⟨h.1, kLt_le hb (keyN_le hbc hc)⟩⟩
      rw [e1, e3, ih]
      cases keyIn x.key (keyN a) (keyN b) <;> simp
    | false =>
      have hall : ∀ y ∈ x :: l, keyIn y.key (keyN a) (keyN b) = false := fun y hy => Bool.eq_false_iff.2 fun h => by
        have h2 := (keyIn_N.1 h).2
        rcases List.mem_cons.1 hy with rfl | hy
        · rw [hb] at h2; cases h2
        · have := kLt_trans (hgt y hy) h2; rw [hb] at this; cases this
      have e0 : (l.filter fun c => keyIn c.key (keyN a) (keyN b)) = [] := List.filter_eq_nil_iff.2 fun y hy => by rw [hall y (by simp [hy])]; simp
      have e1 : keyIn x.key (keyN a) (keyN c) = keyIn x.key (keyN b) (keyN c) := by
        rw [Bool.eq_iff_iff, keyIn_N, keyIn_N]
        refine ⟨fun h => ⟨hb, h.2⟩, fun h => ⟨Bool.eq_false_iff.2 fun h3 => ?_, h.2⟩⟩
        have := kLt_le h3 (keyN_le hab (by omega)); rw [hb] at this; cases this
      rw [hall x (by simp), e1, ih, e0]
      simp
/-! ### a cell in place of another one -/
theorem insC_set {l : List Cell} (h : rising (keysOf l)) {i : Nat} {c x : Cell} (hi : l[i]? = some c) (hk : x.key = c.key) : insC l x = l.set i x := by
  have hks : keysOf (l.set i x) = keysOf l := by
    unfold keysOf
    rw [List.map_set, hk]
    obtain ⟨hlt, rfl⟩ := List.getElem?_eq_some_iff.1 hi
    apply List.ext_getElem?
    intro j
    rw [List.getElem?_set]
    by_cases e : i = j
    · subst e; rw [if_pos rfl, if_pos (by simpa using hlt), List.getElem?_map, List.getElem?_eq_getElem hlt]; rfl
    · rw [if_neg e]
  refine (put_is h (by rw [hks]; exact h) fun z => ?_).symm
  obtain ⟨hlt, hc⟩ := List.getElem?_eq_some_iff.1 hi
  constructor
  · intro hz
    obtain ⟨j, hj⟩ := List.getElem?_of_mem hz
    rw [List.getElem?_set] at hj
    by_cases e : i = j
    · rw [if_pos e, if_pos hlt] at hj; injection hj with hj; exact .inl hj.symm
    · rw [if_neg e] at hj
      refine .inr ⟨List.mem_of_getElem? hj, fun ek => ?_⟩
      rw [hk] at ek
      rcases Nat.lt_or_gt_of_ne e with h1 | h1
      · have := lt_at h h1 (keys_at hi) (keys_at hj); rw [ek, kLt_irrefl] at this; cases this
      · have := lt_at h h1 (keys_at hj) (keys_at hi); rw [ek, kLt_irrefl] at this; cases this
  · rintro (rfl | ⟨hz, hne⟩)
    · exact List.mem_of_getElem? (i := i) (by rw [List.getElem?_set, if_pos rfl, if_pos hlt])
    · obtain ⟨j, hj⟩ := List.getElem?_of_mem hz
      have e : i ≠ j := fun e => by subst e; rw [hi] at hj; injection hj with hj; exact hne (by rw [← hj, hk])
      exact List.mem_of_getElem? (i := j) (by rw [List.getElem?_set_ne e]; exact hj)
theorem one_shorter {k s l : Nat} (h : s ≤ l) (hl : l ≤ 20) : (cellBytes (oneC' k s)).length ≤ (cellBytes (oneC' k l)).length := by
  unfold cellBytes oneC' vlBytes valN
  dsimp only
  simp only [List.length_append, if_neg (show ¬ (2 : Int) = 1 by decide), if_pos (show (2 : Int) = 2 from rfl), if_true]
  rw [putText_len (s := textN s) (by rw [textN_size]; omega), putText_len (s := textN l) (by rw [textN_size]; omega), textN_size, textN_size]
  omega
/-- cells of one length -/
def OfLen (l v : Nat) (L : List Cell) : Prop := ∀ c ∈ L, ∃ j, j < l ∧ c = oneC' j v
theorem OfLen.put {l v : Nat} {L : List Cell} (h : OfLen l v L) (hr : rising (keysOf L)) : OfLen (l + 1) v (insC L (oneC' l v)) := fun c hc => by
  rcases (insC_mem hr).1 hc with rfl | ⟨hc, _⟩
  · exact ⟨l, by omega, rfl⟩
  · obtain ⟨j, hj, e⟩ := h c hc; exact ⟨j, by omega, e⟩
/-- the first of them are shorter now -/
def Shorter (n s v i : Nat) (L : List Cell) : Prop := ∀ (q : Nat) (c : Cell), L[q]? = some c → ∃ j, j < n ∧ c = oneC' j (if q < i then s else v)
theorem Shorter.zero {n s v : Nat} {L : List Cell} (h : OfLen n v L) : Shorter n s v 0 L := fun q c hc => by
  obtain ⟨j, hj, e⟩ := h c (List.mem_of_getElem? hc)
  exact ⟨j, hj, by rw [if_neg (by omega)]; exact e⟩
theorem Shorter.step {n s v i k : Nat} {L : List Cell} (h : Shorter n s v i L) (hi : L[i]? = some (oneC' k v)) (hk : k < n) : Shorter n s v (i + 1) (L.set i (oneC' k s)) := fun q c hc => by
  rw [List.getElem?_set] at hc
  by_cases e : i = q
  · subst e
    rw [if_pos rfl, if_pos (List.getElem?_eq_some_iff.1 hi).1] at hc
    injection hc with hc
    exact ⟨k, hk, by rw [if_pos (by omega)]; exact hc.symm⟩
  · rw [if_neg e] at hc
    obtain ⟨j, hj, e2⟩ := h q c hc
    refine ⟨j, hj, e2.trans ?_⟩
    congr 1
    by_cases h1 : q < i
    · rw [if_pos h1, if_pos (by omega)]
    · rw [if_neg h1, if_neg (by omega)]
/-- a shorter one has room -/
theorem put_place {k s v : Nat} {g g' : Gone} {e : Int} (hs : s ≤ v) (hv : v ≤ 20) {i : Nat} (hr : rising (keysOf g.2)) (hi : g.2[i]? = some (oneC' k v)) (h : PutR (oneC' k s) g g' e) : e = 0 ∧ g'.2 = g.2.set i (oneC' k s) ∧ g'.1 = g.1 := by
  have hm : mayCell (oneC' k s) = true := one_may (by omega)
  have hc : ∃ c ∈ g.2, c.key = (oneC' k s).key ∧ (cellBytes (oneC' k s)).length ≤ (cellBytes c).length := ⟨_, List.mem_of_getElem? hi, rfl, one_shorter hs hv⟩
  rcases h with ⟨h, _⟩ | ⟨_, h1, h2, h3⟩ | ⟨_, _, _, _, _, h4⟩
  · rw [hm] at h; cases h
  · exact ⟨h1, h2.trans (insC_set hr hi rfl), h3 hc⟩
  · obtain ⟨c, hc1, hc2, hc3⟩ := hc
    have := h4 c hc1 hc2
    omega
/-- cells of one text -/
def textC (k : Nat) (s : ByteArray) : Cell := ⟨keyN k, ⟨2, 0, s⟩, 0, noVl⟩
theorem textC_may {k : Nat} {s : ByteArray} (h : s.size ≤ 20) : mayCell (textC k s) = true := by
  unfold mayCell textC; dsimp only
  rw [keyN_may]
  have : mayVl noVl = true := by decide
  rw [this]
  unfold mayVl
  simp [noVl, h]
theorem textC_fl (k : Nat) (s : ByteArray) : (textC k s).val.f < 2 ^ 64 ∧ (textC k s).new.f < 2 ^ 64 := by constructor <;> (show 0 < 2 ^ 64; decide)
def FlL (L : List Cell) : Prop := ∀ x ∈ L, x.val.f < 2 ^ 64 ∧ x.new.f < 2 ^ 64
theorem FlL.put {L : List Cell} (h : FlL L) (hr : rising (keysOf L)) {x : Cell} (hx : x.val.f < 2 ^ 64 ∧ x.new.f < 2 ^ 64) : FlL (insC L x) := fun c hc => by
  rcases (insC_mem hr).1 hc with rfl | ⟨hc, _⟩
  · exact hx
  · exact h c hc
theorem FlL.cut {L : List Cell} (h : FlL L) (k : ByteArray) : FlL (cutC L k) := fun c hc => h c ((cutC_is L k c).1 hc).1
theorem cutS_small (s : ByteArray) (n : Nat) : (cutS s n).size ≤ n := by
  unfold cutS
  split
  · rename_i h
    rw [ByteArray.size_extract]; omega
  · omega
/-! ### by sevens -/
/-- what is left behind i turns by sevens -/
def Sevens (L : List Cell) (i : Nat) (l : List Cell) : Prop := ∀ c, c ∈ l ↔ ∃ q, L[q]? = some c ∧ ¬ ∃ k, k < i ∧ (k * 7 + 3) % L.length = q
theorem sevens_zero (L : List Cell) : Sevens L 0 L := fun c => by
  constructor
  · intro h; obtain ⟨q, hq⟩ := List.getElem?_of_mem h; exact ⟨q, hq, fun ⟨k, h, _⟩ => by omega⟩
  · rintro ⟨q, hq, _⟩; exact List.mem_of_getElem? hq
theorem at_inj {L : List Cell} (h : rising (keysOf L)) {p q : Nat} {a b : Cell} (ha : L[p]? = some a) (hb : L[q]? = some b) (hk : a.key = b.key) : p = q := by
  rcases Nat.lt_trichotomy p q with h1 | h1 | h1
  · have := lt_at h h1 (keys_at ha) (keys_at hb); rw [hk, kLt_irrefl] at this; cases this
  · exact h1
  · have := lt_at h h1 (keys_at hb) (keys_at ha); rw [hk, kLt_irrefl] at this; cases this
theorem Sevens.has {L l : List Cell} {i : Nat} (hs : Sevens L i l) (h : rising (keysOf L)) {c : Cell} (hc : L[(i * 7 + 3) % L.length]? = some c) : (getC l c.key).isSome = !goneN i L.length := by
  rw [Bool.eq_iff_iff, getC_some, Bool.not_eq_true', goneN, decide_eq_false_iff_not]
  constructor
  · rintro ⟨z, hz, hk⟩
    obtain ⟨q, hq, hn⟩ := (hs z).1 hz
    have := at_inj h hq hc hk
    subst this; exact hn
  · intro hn; exact ⟨c, (hs c).2 ⟨_, hc, hn⟩, rfl⟩
theorem Sevens.cut {L l : List Cell} {i : Nat} (hs : Sevens L i l) (h : rising (keysOf L)) {c : Cell} (hc : L[(i * 7 + 3) % L.length]? = some c) : Sevens L (i + 1) (cutC l c.key) := fun z => by
  rw [cutC_is l c.key z, hs z]
  constructor
  · rintro ⟨⟨q, hq, hn⟩, hk⟩
    refine ⟨q, hq, ?_⟩
    rintro ⟨k, h1, h2⟩
    by_cases e : k = i
    · subst e
      subst h2; rw [hc] at hq; injection hq with hq; exact hk (by rw [hq])
    · exact hn ⟨k, by omega, h2⟩
  · rintro ⟨q, hq, hn⟩
    refine ⟨⟨q, hq, fun ⟨k, h1, h2⟩ => hn ⟨k, by omega, h2⟩⟩, fun hk => ?_⟩
    exact hn ⟨i, by omega, (at_inj h hc hq hk.symm)⟩
/-- what is left is from the i-th cell on -/
def FromOn (L : List Cell) (i : Nat) (l : List Cell) : Prop := ∀ c ∈ l, ∃ q, i ≤ q ∧ L[q]? = some c
theorem Sevens.from {L l : List Cell} {i : Nat} (hs : Sevens L i l) : FromOn L 0 l := fun c hc => by
  obtain ⟨q, hq, _⟩ := (hs c).1 hc; exact ⟨q, Nat.zero_le _, hq⟩
theorem FromOn.cut {L l : List Cell} {i : Nat} (h : FromOn L i l) {c : Cell} (hc : L[i]? = some c) : FromOn L (i + 1) (cutC l c.key) := fun z hz => by
  obtain ⟨h1, h2⟩ := (cutC_is l c.key z).1 hz
  obtain ⟨q, hq, hqz⟩ := h z h1
  refine ⟨q, ?_, hqz⟩
  rcases Nat.eq_or_lt_of_le hq with e | e
  · subst e; rw [hc] at hqz; injection hqz with hqz; exact absurd (by rw [hqz]) h2
  · exact e
theorem FromOn.none {L l : List Cell} (h : FromOn L L.length l) : l = [] := by
  refine List.eq_nil_iff_forall_not_mem.2 fun c hc => ?_
  obtain ⟨q, hq, hqc⟩ := h c hc
  have := (List.getElem?_eq_some_iff.1 hqc).1
  omega
end Go.Pl
end

section
namespace Go.Pl
open Go Go.Sx
structure TOp where
  kind : Int
  c : Cell
  key : ByteArray
  to : ByteArray
end Go.Pl
end

section
namespace Go.Pl
open Go Go.Sx
end Go.Pl
end

section
namespace Go.Pl
open Go Go.Sx
theorem chgs_self (Q : Pages) (n : Nat) : chgs Q Q n = [] := by
  unfold chgs
  refine List.filterMap_eq_nil_iff.2 fun x _ => ?_
  rw [if_pos rfl]
end Go.Pl
end
