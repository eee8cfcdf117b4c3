/- Snapshots that come and go by turns: each has a number that was never given. No program in sight. -/
import Derived.Test.YtpijialhhdpobaaPlJ
namespace Go.Pl
open Go Go.Sx
def nmAt (i : Nat) : ByteArray := txt [b8 (97 + ((i % 26 : Nat) : Int)), b8 (97 + ((i / 26 : Nat) : Int))]
theorem nm_apart : ∀ i j : Fin 30, nmAt i.val = nmAt j.val → i = j := by decide +kernel
theorem nm_ok : ∀ i : Fin 30, nameB (nmAt i.val) = true := by decide +kernel
structure IdsUp (i : Nat) (L : List Snap) : Prop where
  pw : L.Pairwise fun a b => a.id < b.id
  each : ∀ s ∈ L, 1 ≤ s.id ∧ s.id ≤ i ∧ s.name = nmAt (s.id - 1).toNat ∧ (encSnap s).length = 35
theorem good_nil : IdsUp 0 [] := ⟨List.Pairwise.nil, by simp⟩
theorem good_drop {i : Nat} {L : List Snap} (h : IdsUp i L) (j : Nat) : IdsUp i (L.take j ++ L.drop (j + 1)) := by
  rw [← List.eraseIdx_eq_take_drop_succ]
  have hs := List.eraseIdx_sublist L j
  exact ⟨h.pw.sublist hs, fun s hm => h.each s (hs.subset hm)⟩
theorem drop_length {L : List Snap} {j : Nat} (h : j < L.length) : (L.take j ++ L.drop (j + 1)).length + 1 = L.length := by
  rw [List.length_append, List.length_take, List.length_drop]; omega
theorem drop_some {n : Int} {L : List Snap} {s : Snap} (h : s ∈ L) : ∃ j, j < L.length ∧ dropC n L s.name = ((n, L.take j ++ L.drop (j + 1)), 0) := by
  have h1 : 0 ≤ findAt (named s.name) 0 L := (findAt_nonneg _ _ _).2 ⟨s, h, by unfold named; simp⟩
  have h2 := (findAt_lt (named s.name) L 0).1
  refine ⟨(findAt (named s.name) 0 L).toNat, by omega, ?_⟩
  unfold dropC
  rw [if_neg (by omega)]
theorem add_good {i : Nat} {L : List Snap} (h : IdsUp i L) (hi : i < 30) (hl : L.length < 4) :
    addC i L (nmAt i) = ((((i + 1 : Nat) : Int), L ++ [newSnap (nmAt i) ((i + 1 : Nat) : Int)]), 0) ∧ IdsUp (i + 1) (L ++ [newSnap (nmAt i) ((i + 1 : Nat) : Int)]) := by
  have hn := nm_ok ⟨i, hi⟩
  constructor
  · unfold addC
    rw [if_neg (by rw [hn]; decide), if_neg, if_neg (by omega)]
    · rfl
    · rw [findAt_nonneg]
      rintro ⟨s, hs, hs2⟩
      obtain ⟨h1, h2, h3, _⟩ := h.each s hs
      unfold named at hs2
      rw [decide_eq_true_eq, h3] at hs2
      have := nm_apart ⟨(s.id - 1).toNat, by omega⟩ ⟨i, hi⟩ hs2
      rw [Fin.mk.injEq] at this
      omega
  · refine ⟨?_, ?_⟩
    · rw [List.pairwise_append]
      refine ⟨h.pw, by simp, ?_⟩
      intro a ha b hb
      rw [List.mem_singleton] at hb
      subst hb
      have := (h.each a ha).2.1
      show a.id < ((i + 1 : Nat) : Int)
      omega
    · intro s hs
      rcases List.mem_append.1 hs with hs | hs
      · have := h.each s hs
        exact ⟨this.1, by omega, this.2.2⟩
      · rw [List.mem_singleton] at hs
        subst hs
        refine ⟨?_, ?_, ?_, rfl⟩
        · show (1 : Int) ≤ ((i + 1 : Nat) : Int); omega
        · show ((i + 1 : Nat) : Int) ≤ ((i + 1 : Nat) : Int); omega
        · show nmAt i = nmAt (((i + 1 : Nat) : Int) - 1).toNat
          congr 1
          omega
theorem good_asc {i : Nat} {L : List Snap} (h : IdsUp i L) {q : Nat} {a b : Snap} (ha : L[q]? = some a) (hb : L[q + 1]? = some b) : ¬ b.id ≤ a.id := by
  have h1 := (List.getElem?_eq_some_iff.1 hb).1
  have := List.pairwise_iff_getElem.1 h.pw q (q + 1) (by omega) h1 (by omega)
  rw [List.getElem?_eq_getElem (by omega)] at ha hb
  rw [Option.some.inj ha, Option.some.inj hb] at this
  omega
theorem last_at {L : List Snap} {s : Snap} : (L ++ [s])[L.length]? = some s := by simp
theorem mod4_range (x : Int) : 0 ≤ (IntKind.i64.wrap (x.tmod 4 + 4)).tmod 4 ∧ (IntKind.i64.wrap (x.tmod 4 + 4)).tmod 4 < 4 := by
  have h1 : -4 < x.tmod 4 ∧ x.tmod 4 < 4 := by
    rcases Int.lt_or_le x 0 with h | h
    · have : x.tmod 4 = -((-x).tmod 4) := by rw [Int.neg_tmod, Int.neg_neg]
      rw [this, Int.tmod_eq_emod_of_nonneg (by omega)]
      omega
    · rw [Int.tmod_eq_emod_of_nonneg h]
      omega
  rw [wrap_i64 (by omega) (by omega), Int.tmod_eq_emod_of_nonneg (by omega)]
  omega
end Go.Pl
