/- Several texts in one. Pages by some bytes, as a law is handed them; all pages as strings. No program in sight. Histories of all pages. No program in sight. -/
import Derived.Test.YtoalhcodigpgkaaGreatDoorMD

section
namespace Go.Pl
open Go Go.Sx

structure Raw where
  no : Int
  v : Value
  b : List UInt8
  odd : Bool
def encRaw (x : Raw) : List Value := [.int .i64 x.no, x.v, .bool x.odd]
structure RawsAt (hs : List Chunk) (v : Value) (ts : List Raw) : Prop where
  row : Row encRaw 3 hs v ts
  each : ∀ t ∈ ts, Row encB 1 hs t.v t.b
  few : ts.length ≤ 9223372036854775807
theorem RawsAt.mono {hs hs' : List Chunk} {v : Value} {ts : List Raw} (h : RawsAt hs v ts) (hh : ∀ b o, Has hs b o → Has hs' b o) : RawsAt hs' v ts := ⟨h.row.mono hh, fun t ht => (h.each t ht).mono hh, h.few⟩
theorem RawsAt.there {A : Chunk} {hs : List Chunk} {v : Value} {ts : List Raw} (h : RawsAt hs v ts) : RawsAt (A :: hs) v ts := h.mono fun _ _ => .there
/-- an operation on a core, as a law is handed it -/
structure COp where
  kind : Int
  no : Int
  v : Value
  l : List Raw
  k : Value
  keep : List Bool
def encCOp (o : COp) : List Value := [.int .i64 o.kind, .int .i64 o.no, o.v, o.k]
structure COpAt (hs : List Chunk) (o : COp) : Prop where
  kind : -9223372036854775808 ≤ o.kind ∧ o.kind ≤ 9223372036854775807
  no : -9223372036854775808 ≤ o.no ∧ o.no ≤ 9223372036854775807
  raws : RawsAt hs o.v o.l
  keep : Row encBool 1 hs o.k o.keep
def rawBytes (x : Raw) : List UInt8 := if x.odd = false ∧ (x.b.take 260).length ≤ 256 then pageOf (x.b.take 260) else x.b.take 260
def rawImgs (ts : List Raw) (n : Nat) : List Img := (ts.take n).map fun x => (x.no, rawBytes x)
theorem rawImgs_succ {ts : List Raw} {i : Nat} {x : Raw} (h : ts[i]? = some x) : rawImgs ts (i + 1) = rawImgs ts i ++ [(x.no, rawBytes x)] := by unfold rawImgs; rw [take_succ h, List.map_append]; rfl
theorem rawImgs_end {ts : List Raw} {i n : Nat} (h1 : i ≤ ts.length) (h2 : i ≤ n) (h3 : i = ts.length ∨ i = n) : rawImgs ts i = rawImgs ts n := by
  rcases h3 with h3 | h3
  · unfold rawImgs; rw [List.take_of_length_le (by omega), List.take_of_length_le (by omega)]
  · rw [h3]
theorem rawBytes_short (x : Raw) : (rawBytes x).length ≤ 260 := by
  have : (x.b.take 260).length ≤ 260 := by rw [List.length_take]; omega
  unfold rawBytes
  split
  · rename_i h; rw [pageOf_length h.2]; omega
  · exact this
/-- images: a slice of one's own, the bytes in a chunk beside it or ahead of the call -/
structure MixAt (tI : Nat) (hs : List Chunk) (v : Value) (l : List Img) (K E : Chunk) : Prop where
  is : ∃ ts, imgs ts = l ∧ Own encIm 2 tI v ts K ∧ ∀ t ∈ ts, Row encB 1 (E :: hs) t.v t.b
theorem MixAt.ims {tI : Nat} {hs : List Chunk} {v : Value} {l : List Img} {K E : Chunk} (h : MixAt tI hs v l K E) (hf : l.length ≤ 1000) (hl : ∀ x ∈ l, x.2.length ≤ 1000) : ∃ ts, imgs ts = l ∧ ImsAt (K :: E :: hs) v ts := by
  obtain ⟨ts, rfl, h1, h2⟩ := h.is
  rw [imgs_length] at hf
  refine ⟨ts, rfl, h1.row, fun t ht => (h2 t ht).there, by omega, fun t ht => ?_⟩
  have := hl t.img (List.mem_map.2 ⟨t, ht, rfl⟩)
  have : t.b.length ≤ 1000 := this
  omega
theorem rawImgs_few (ts : List Raw) {n : Nat} (h : n ≤ 1000) : (rawImgs ts n).length ≤ 1000 := by unfold rawImgs; rw [List.length_map, List.length_take]; omega
theorem rawImgs_short (ts : List Raw) (n : Nat) : ∀ x ∈ rawImgs ts n, x.2.length ≤ 1000 := fun x hx => by
  obtain ⟨t, _, rfl⟩ := List.mem_map.1 hx
  have := rawBytes_short t
  dsimp only; omega
theorem Row.more {α : Type} {enc : α → List Value} {sz : Nat} {A B : Chunk} {hs : List Chunk} {v : Value} {xs : List α} (h : Row enc sz (A :: hs) v xs) : Row enc sz ((A ++ B) :: hs) v xs :=
  h.mono fun b o hb => Has.of_mem (by have := hb.mem; simp only [List.flatten_cons, List.mem_append] at this ⊢; rcases this with h | h; exact .inl (.inl h); exact .inr h)
theorem Row.last {α : Type} {enc : α → List Value} {sz : Nat} {A B : Chunk} {hs : List Chunk} {v : Value} {xs : List α} (h : Row enc sz (B :: hs) v xs) : Row enc sz ((A ++ B) :: hs) v xs :=
  h.mono fun b o hb => Has.of_mem (by have := hb.mem; simp only [List.flatten_cons, List.mem_append] at this ⊢; rcases this with h | h; exact .inl (.inr h); exact .inr h)

theorem Has.sel {hs hs' : List Chunk} (h : Sel hs' hs) {b : Nat} {o : Obj} (hb : Has hs b o) : Has hs' b o := by
  obtain ⟨rest, hp⟩ := h.perm
  exact Has.of_mem (hp.mem_iff.2 (List.mem_append_left _ hb.mem))

/-! ### all pages as strings -/
def strsOf (P : Pages) : List Value := (List.range 96).map fun k : Nat => .string (txt (P (k : Nat)))
theorem strsOf_length (P : Pages) : (strsOf P).length = 96 := by unfold strsOf; simp
theorem strsOf_at (P : Pages) {k : Nat} (h : k < 96) : (strsOf P)[k]? = some (.string (txt (P (k : Nat)))) := by
  unfold strsOf; rw [List.getElem?_map, List.getElem?_range h]; rfl
theorem strsOf_eq {P Q : Pages} (h : EqP P Q) : strsOf P = strsOf Q := by
  unfold strsOf
  refine List.map_congr_left fun k hk => ?_
  rw [List.mem_range] at hk
  rw [h (k : Nat) ⟨by omega, by omega⟩]
theorem strsOf_ones (P : Pages) : ones (strsOf P) = true := by
  unfold ones strsOf
  rw [List.all_eq_true]
  intro x hx
  obtain ⟨k, _, rfl⟩ := List.mem_map.1 hx
  rfl
theorem strsOf_set (P : Pages) {k : Nat} (h : k < 96) (b : List UInt8) : splice (strsOf P) k [.string (txt b)] = strsOf (upd P (k : Nat) b) := by
  have e : splice (strsOf P) k [.string (txt b)] = (strsOf P).set k (.string (txt b)) := by
    unfold splice
    rw [List.set_eq_take_append_cons_drop, if_pos (by rw [strsOf_length]; exact h), List.append_assoc]
    rfl
  rw [e]
  apply List.ext_getElem?
  intro j
  by_cases hj : j < 96
  · rw [strsOf_at _ hj]
    unfold upd
    by_cases he : j = k
    · subst he; rw [List.getElem?_set_self (by rw [strsOf_length]; exact h), if_pos rfl]
    · rw [List.getElem?_set_ne (fun e => he e.symm), strsOf_at _ hj, if_neg (by omega)]
  · rw [List.getElem?_eq_none (by rw [List.length_set, strsOf_length]; omega), List.getElem?_eq_none (by rw [strsOf_length]; omega)]
theorem txt_eq {a b : List UInt8} (h : txt a = txt b) : a = b := by
  have := congrArg (fun x : ByteArray => x.data.toList) h
  exact this
/-- a field of what lies at ad, a slice or a single cell -/
theorem El.at2 [Outer] {α : Type} {enc : α → List Value} {sz : Nat} {hs : List Chunk} {P : Program} {x : α} {ad : Addr} (h : El enc sz hs x ad) : ∃ b o, ad = ⟨b, o, none⟩ ∧
    (∀ {T : Tab}, T.ok P → ∀ {t : Nat} {d : TypeDesc}, ty T t = some (.one d) → ∀ {j : Nat} {v : Value}, (enc x)[j]? = some v → Ld P hs t ⟨b, o + j, none⟩ v) ∧
    (∀ {T : Tab}, T.ok P → ∀ {t e' s' : Nat}, ty T t = some (.slice e' s') → ∀ {j : Nat} {v : Value}, (enc x)[j]? = some v → Ld P hs t ⟨b, o + j, none⟩ v) := by
  obtain ⟨h1, b, o, cs, t', fr, rfl, hb, hr⟩ := h
  have key : ∀ {j : Nat} {v : Value}, (enc x)[j]? = some v → cs[o + j]? = some v := by
    intro j v hj
    rw [← hr, List.getElem?_take] at hj
    split at hj
    · rw [List.getElem?_drop] at hj; exact hj
    · cases hj
  exact ⟨b, o, rfl, fun hT t d ht j v hj => Ld.one hT ht hb (key hj), fun hT t e' s' ht j v hj => Ld.slc hT ht hb (key hj)⟩
theorem splice_at {vs : List Value} {k : Nat} (h : k < vs.length) (v : Value) {o : Nat} (ho : o = k) : splice vs o [v] = vs.set k v := by
  subst ho
  unfold splice
  rw [List.set_eq_take_append_cons_drop, if_pos h, List.append_assoc]
  rfl
theorem raws3 {hs : List Chunk} {v0 v1 : Value} {l0 l1 : List Raw} (h0 : RawsAt hs v0 l0) (h1 : RawsAt hs v1 l1) {i : Nat} (hi : i < 3) : ∃ x ts, ([v0, v1, v0] : List Value)[i]? = some x ∧ RawsAt hs x ts :=
  match i, hi with
  | 0, _ => ⟨_, _, rfl, h0⟩
  | 1, _ => ⟨_, _, rfl, h1⟩
  | 2, _ => ⟨_, _, rfl, h0⟩
theorem strsOf_all {cs : List Value} (hl : cs.length = 96) {P : Pages} (h : ∀ k : Nat, k < 96 → cs[k]? = some (.string (txt (P (k : Nat))))) : cs = strsOf P := by
  apply List.ext_getElem?
  intro j
  by_cases hj : j < 96
  · rw [h j hj, strsOf_at _ hj]
  · rw [List.getElem?_eq_none (by omega), List.getElem?_eq_none (by rw [strsOf_length]; omega)]
end Go.Pl
end

section
namespace Go.Pl
open Go Go.Sx

def canOf (A : List Pages) : Pages → Prop := fun P => ∃ X ∈ A, EqP P X
theorem canOf_snoc {A : List Pages} {X P : Pages} : (canOf A P ∨ EqP P X) ↔ canOf (A ++ [X]) P := by
  unfold canOf
  constructor
  · rintro (⟨Y, h1, h2⟩ | h)
    · exact ⟨Y, by simp [h1], h2⟩
    · exact ⟨X, by simp, h⟩
  · rintro ⟨Y, h1, h2⟩
    rcases List.mem_append.1 h1 with h1 | h1
    · exact .inl ⟨Y, h1, h2⟩
    · rw [List.mem_singleton] at h1; subst h1; exact .inr h2
theorem canOf_one {X P : Pages} : canOf [X] P ↔ EqP P X := by
  unfold canOf
  constructor
  · rintro ⟨Y, h1, h2⟩; rw [List.mem_singleton] at h1; subst h1; exact h2
  · exact fun h => ⟨X, by simp, h⟩
theorem last_at {A : List Pages} {now : Pages} (h : A.getLast? = some now) : A[A.length - 1]? = some now ∧ 0 < A.length := by
  rw [List.getLast?_eq_getElem?] at h
  exact ⟨h, by have := (List.getElem?_eq_some_iff.1 h).1; omega⟩
theorem last_drop {A : List Pages} {now : Pages} (h : A.getLast? = some now) : A.drop (A.length - 1) = [now] := by
  obtain ⟨h1, h2⟩ := last_at h
  obtain ⟨h3, h4⟩ := List.getElem?_eq_some_iff.1 h1
  rw [List.drop_eq_getElem_cons h3, h4, List.drop_eq_nil_of_le (by omega)]
theorem last_snocP (A : List Pages) (X : Pages) : (A ++ [X]).getLast? = some X := by simp
theorem one_cut {A : List Pages} {k : Nat} {X : Pages} (h : A[k]? = some X) : (A.take (k + 1)).drop k = [X] := by
  have hl := (List.getElem?_eq_some_iff.1 h).1
  rw [take_succ h, List.drop_append, List.drop_eq_nil_of_le (by rw [List.length_take]; omega), List.length_take, Nat.min_eq_left (by omega), Nat.sub_self]
  rfl
theorem not_all {A : List Pages} {P : Pages} (h : canOf A P) (hn : ∀ j X, j < A.length → A[j]? = some X → ¬ EqP X P) : False := by
  obtain ⟨X, h1, h2⟩ := h
  obtain ⟨j, hj⟩ := List.getElem?_of_mem h1
  exact hn j X (List.getElem?_eq_some_iff.1 hj).1 hj h2.symm
theorem not_step {A : List Pages} {P X : Pages} {k : Nat} (hX : A[k]? = some X) (h : ¬ EqP X P) (hn : ∀ j Y, j < k → A[j]? = some Y → ¬ EqP Y P) : ∀ j Y, j < k + 1 → A[j]? = some Y → ¬ EqP Y P := fun j Y hj hY => by
  by_cases he : j = k
  · subst he; rw [hX] at hY; obtain rfl := Option.some.inj hY; exact h
  · exact hn j Y (by omega) hY
end Go.Pl
end
