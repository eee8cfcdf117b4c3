/- What may be, as the program goes through it and as the document does, is the same. No program in sight. -/
import Derived.Test.YtpijialhhdpobaaPlE
namespace Go.Pl
open Go Go.Sx
def Same (a : List Int) (b : List Bool) : Prop := b.length = 96 ∧ ∀ n : Int, 32 ≤ n → n ≤ 95 → (n ∈ a ↔ b[n.toNat]? = some true)
theorem same_nil : Same [] (List.replicate 96 false) := by
  refine ⟨by simp, fun n h1 h2 => ?_⟩
  constructor
  · intro h; cases h
  · intro h; rw [List.getElem?_replicate] at h; split at h <;> cases h
theorem same_add {a : List Int} {b : List Bool} {n : Int} (h : Same a b) (h1 : 32 ≤ n) (h2 : n ≤ 95) : Same (a ++ [n]) (b.set n.toNat true) := by
  refine ⟨by rw [List.length_set]; exact h.1, fun k k1 k2 => ?_⟩
  rw [List.mem_append, List.mem_singleton, List.getElem?_set]
  have := h.2 k k1 k2
  have hl := h.1
  by_cases e : n.toNat = k.toNat
  · rw [if_pos e, if_pos (by omega)]
    constructor
    · intro _; rfl
    · intro _; right; omega
  · rw [if_neg e, ← this]
    constructor
    · rintro (h | h)
      · exact h
      · exact (e (by omega)).elim
    · exact .inl
theorem in_same {inv : Bool} : ∀ (m : List Int) (no : Nat) (a : List Int) (b : List Bool), 0 < no → Same a b →
    (mayIn inv no m a = none ∧ refIn inv m b = none) ∨ ∃ a' b', mayIn inv no m a = some a' ∧ refIn inv m b = some b' ∧ Same a' b' := by
  intro m
  induction m with
  | nil => intro no a b _ h; exact .inr ⟨a, b, rfl, rfl, h⟩
  | cons x m ih =>
    intro no a b hno h
    rw [mayIn, refIn]
    by_cases h0 : x = 0
    · rw [if_pos h0, if_pos h0]; exact ih _ _ _ (by omega) h
    · rw [if_neg h0, if_neg h0]
      by_cases hc : x < 32 ∨ 96 ≤ x ∨ no = 0 ∨ inv = true ∨ x ∈ a
      · rw [if_pos hc, if_pos]
        · exact .inl ⟨rfl, rfl⟩
        · by_cases hx : x < 32 ∨ 95 < x
          · rcases hx with hx | hx
            · exact .inl hx
            · exact .inr (.inl hx)
          · rcases hc with hc | hc | hc | hc | hc
            · exact (hx (.inl hc)).elim
            · omega
            · omega
            · exact .inr (.inr (.inr hc))
            · exact .inr (.inr (.inl ((h.2 x (by omega) (by omega)).1 hc)))
      · have hx : 32 ≤ x ∧ x ≤ 95 := ⟨Int.not_lt.1 fun hh => hc (.inl hh), Int.not_lt.1 fun hh => hc (.inr (.inl (by omega)))⟩
        rw [if_neg hc, if_neg]
        · exact ih _ _ _ (by omega) (same_add h hx.1 hx.2)
        · rintro (hh | hh | hh | hh)
          · omega
          · omega
          · exact hc (.inr (.inr (.inr (.inr ((h.2 x hx.1 hx.2).2 hh)))))
          · exact hc (.inr (.inr (.inr (.inl hh))))
theorem out_same (next : Int) (all : List Snap) (hm : ∀ s ∈ all, s.map ≠ []) : ∀ (l : List Snap) (i : Nat) (last : Int) (a : List Int) (b : List Bool), all.drop i = l → 0 ≤ last →
    (i = 0 → last = 0) → (∀ p, 0 < i → all[i - 1]? = some p → p.id = last) → Same a b → mayOut next all i last a l = refOut next all i b l := by
  intro l
  induction l with
  | nil => intro i last a b _ _ _ _ _; rfl
  | cons s l ih =>
    intro i last a b hd h0 hi hp hs
    have hat : all[i]? = some s := by
      have := congrArg (·[0]?) hd
      simpa using this
    rw [mayOut, refOut]
    have hsm := hm s (List.mem_of_getElem? hat)
    cases hmm : s.map with
    | nil => exact (hsm hmm).elim
    | cons m0 m =>
    by_cases hn : nameB s.name = false
    · rw [if_pos (.inl hn), if_pos (.inl hn)]
    · by_cases hid : s.id ≤ last
      · rw [if_pos (.inr (.inr (.inl hid)))]
        by_cases h1 : s.id < 1
        · rw [if_pos (.inr (.inl h1))]
        · have hi0 : 0 < i := Nat.pos_of_ne_zero fun e => by have := hi e; omega
          have hlt : i < all.length := (List.getElem?_eq_some_iff.1 hat).1
          obtain ⟨p, hpp⟩ := nth (l := all) (i := i - 1) (by omega)
          rw [if_pos (.inr (.inr (.inr (.inl ⟨hi0, p, hpp, by rw [hp p hi0 hpp]; exact hid⟩))))]
      · by_cases hnx : next < s.id
        · rw [if_pos (.inr (.inr (.inr hnx))), if_pos (.inr (.inr (.inl hnx)))]
        · by_cases hf : 0 ≤ findAt (named s.name) 0 (all.take i)
          · rw [if_pos (.inr (.inl hf))]
            have hany : (all.take i).any (named s.name) = true := by
              obtain ⟨q, hq, hq2⟩ := (findAt_nonneg _ _ _).1 hf
              exact List.any_eq_true.2 ⟨q, hq, hq2⟩
            by_cases hbig : nameB s.name = false ∨ s.id < 1 ∨ next < s.id ∨ (0 < i ∧ ∃ p, all[i - 1]? = some p ∧ s.id ≤ p.id) ∨ (m0 :: m).head? ≠ some 0
            · rw [if_pos hbig]
            · rw [if_neg hbig, if_pos hany]
          · have hany : ¬ (all.take i).any (named s.name) = true := by
              intro h
              obtain ⟨q, hq, hq2⟩ := List.any_eq_true.1 h
              exact hf ((findAt_nonneg _ _ _).2 ⟨q, hq, hq2⟩)
            rw [if_neg (by
              rintro (h | h | h | h)
              · exact hn h
              · exact hf h
              · exact hid h
              · exact hnx h)]
            rw [mayIn]
            by_cases hm0 : m0 = 0
            · rw [if_pos hm0, if_neg, if_neg hany]
              · show _ = match refIn s.inv m b with | none => false | some seen' => refOut next all (i + 1) seen' l
                have hd1 : all.drop (i + 1) = l := by
                  have := congrArg (List.drop 1) hd
                  simpa using this
                rcases in_same (inv := s.inv) m (0 + 1) a b (by omega) hs with ⟨e1, e2⟩ | ⟨a', b', e1, e2, hs'⟩
                · rw [e1, e2]
                · rw [e1, e2]
                  exact ih (i + 1) s.id a' b' hd1 (by omega) (by omega) (fun p _ hpp => by rw [Nat.add_sub_cancel, hat] at hpp; rw [← Option.some.inj hpp]) hs'
              · rintro (h | h | h | ⟨h, q, hq, hq2⟩ | h)
                · exact hn h
                · omega
                · exact hnx h
                · rw [hp q h hq] at hq2; exact hid hq2
                · rw [hm0] at h; exact h rfl
            · rw [if_neg hm0, if_pos (.inr (.inr (.inl rfl))), if_pos]
              exact .inr (.inr (.inr (.inr (by intro h; exact hm0 (Option.some.inj h)))))
theorem may_eq {next : Int} {l : List Snap} (hm : ∀ s ∈ l, (encSnap s).length = 35) : mayB next l = refMay next l := by
  unfold mayB refMay
  split
  · rfl
  · exact out_same next l (fun s hs e => by have := map32 (hm s hs); rw [e] at this; cases this) l 0 0 [] _ rfl (Int.le_refl _) (fun _ => rfl) (fun p h => absurd h (by omega)) same_nil
theorem bytes_eq {next : Int} {l : List Snap} (hm : ∀ s ∈ l, (encSnap s).length = 35) : catBytesR next l = (encode next l).1 := by
  unfold catBytesR encode
  rw [← may_eq hm]
  by_cases h : mayB next l = true
  · rw [if_pos h, if_pos h]
    have := catBytes_length h hm
    unfold whole
    rw [if_neg (by omega)]
  · rw [if_neg h, if_neg h]
end Go.Pl
