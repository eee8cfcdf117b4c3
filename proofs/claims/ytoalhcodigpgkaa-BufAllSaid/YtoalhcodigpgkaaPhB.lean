/- A pool of clean pages alone, plainly; bytes by their places. No program in sight. -/
import Derived.Test.YtoalhcodigpgkaaPhA
namespace Go.Pl
open Go Go.Sx

theorem firstAt_clean {fs : List Fr} (h : ∀ f ∈ fs, f.dirty = false) (hn : 0 < fs.length) : firstAt isClean 0 fs = 0 := by
  cases fs with
  | nil => cases hn
  | cons f l => rw [firstAt, if_pos (by unfold isClean; rw [h f (by simp)]; rfl)]; rfl
theorem firstAt_cleanT {ts : List Tr} (h : ∀ t ∈ ts, t.2.1.dirty = false) (hn : 0 < ts.length) : firstAt (fun t : Tr => isClean t.2.1) 0 ts = 0 := by
  cases ts with
  | nil => cases hn
  | cons t l => rw [firstAt, if_pos (by unfold isClean; rw [h t (by simp)]; rfl)]; rfl
theorem cut_zero {α : Type} (l : List α) : cut l 0 = l.drop 1 := by unfold cut; simp
def keep6 (l : List Fr) : List Fr := l.drop (l.length - 6)
def pageC (fs : List Fr) (d : Dev) (no : Int) : List UInt8 × List Fr :=
  if found fs no < 0 then ((readPage d no).1, keep6 (fs ++ [⟨no, (readPage d no).1, false, 0⟩])) else ((lastFr (asked fs no)).b, asked fs no)
structure CInv (now : Int → List UInt8) (fs : List Fr) (d : Dev) : Prop where
  free : Free d
  fr : ∀ f ∈ fs, mayPage f.no ∧ f.b.length = 256 ∧ f.b = now f.no ∧ f.dirty = false
  on : ∀ no, mayPage no → pageNow d no = now no
  few : fs.length ≤ 6
theorem CInv.page {now : Int → List UInt8} {fs : List Fr} {d : Dev} (h : CInv now fs d) {no : Int} (hn : mayPage no) : (readPage d no).2 = 0 ∧ (pageC fs d no).1 = now no ∧ CInv now (pageC fs d no).2 d := by
  have hrd := readPage_free h.free hn
  have hlen : (now no).length = 256 := by
    have := readPage_length h.free.ok (no := no) (by rw [hrd])
    rw [hrd, h.on no hn] at this; exact this
  refine ⟨by rw [hrd], ?_⟩
  unfold pageC
  split
  · rw [hrd, h.on no hn]
    refine ⟨rfl, h.free, fun f hf => ?_, h.on, ?_⟩
    · unfold keep6 at hf
      rcases List.mem_append.1 (List.mem_of_mem_drop hf) with hf | hf
      · exact h.fr f hf
      · rw [List.mem_singleton] at hf; subst hf; exact ⟨hn, hlen, rfl, rfl⟩
    · unfold keep6; rw [List.length_drop]; omega
  · rename_i h0
    obtain ⟨us, t, e, ht, hp⟩ := asked_some h0
    rw [e]
    have ha := h.fr t (hp.symm.subset (by simp))
    simp only [lastFr, List.getLast?_concat, Option.getD_some]
    refine ⟨by rw [ha.2.2.1, ht], h.free, fun f hf => h.fr f (hp.symm.subset hf), h.on, ?_⟩
    rw [← hp.length_eq]; exact h.few

/-! ### bytes by their places -/
theorem mod96 (x : Int) (h0 : -9223372036854775808 ≤ x) (h1 : x ≤ 9223372036854775807) : ∃ k : Nat, k < 96 ∧ (IntKind.i64.wrap (x.tmod 96 + 96)).tmod 96 = (k : Int) := by
  have h2 : -96 < x.tmod 96 ∧ x.tmod 96 < 96 := by
    constructor
    · have := Int.lt_tmod_of_pos x (show (0 : Int) < 96 by decide); omega
    · exact Int.tmod_lt_of_pos x (by decide)
  rw [wrap_i64 (by omega) (by omega), Int.tmod_eq_emod_of_nonneg (by omega)]
  exact ⟨((x.tmod 96 + 96) % 96).toNat, by omega, by omega⟩
theorem bytes_at {nb : List UInt8} {k : Nat} {c : UInt8} (h : nb[k]? = some c) {o : Nat} (ho : o = k) : (nb.flatMap encB)[o]? = some (.int .u8 c.toNat) := by
  subst ho
  have e : ∀ l : List UInt8, l.flatMap encB = l.map fun c => Value.int .u8 c.toNat := by
    intro l
    induction l with
    | nil => rfl
    | cons x l ih => rw [List.flatMap_cons, ih]; rfl
  rw [e, List.getElem?_map, h]; rfl
theorem bytes_set {nb : List UInt8} {k : Nat} (h : k < nb.length) (c : UInt8) {o : Nat} (ho : o = k) : splice (nb.flatMap encB) o [.int .u8 c.toNat] = (nb.set k c).flatMap encB := by
  subst ho
  rw [set_over h]
  have := over_flat (enc := encB) (sz := 1) (xs := nb) (fun _ _ => rfl) (j := o) (ys := [c]) (fun _ _ => rfl)
  rw [Nat.mul_one] at this
  exact this.symm
theorem byte_sum (x : UInt8) (i : Nat) : IntKind.u8.wrap ((x.toNat : Int) + IntKind.u8.wrap (i : Int)) = ((UInt8.ofNat (x.toNat + i)).toNat : Int) := by
  rw [IntKind.wrap_u8, IntKind.wrap_u8, UInt8.toNat_ofNat']
  omega
/-- each page's first byte -/
def Firsts (now : Int → List UInt8) (nb : List UInt8) : Prop := ∀ k : Nat, k < 96 → (now k)[0]? = nb[k]?
theorem Firsts.zero : Firsts (fun _ => noughts 256) (noughts 96) := fun k hk => by unfold noughts; rw [List.getElem?_replicate, List.getElem?_replicate, if_pos (by omega), if_pos hk]
theorem Firsts.set {now : Int → List UInt8} {nb : List UInt8} (h : Firsts now nb) (hl : nb.length = 96) {k : Nat} (hk : k < 96) {c : UInt8} {b : List UInt8} (hb : b[0]? = some c) : Firsts (upd now k b) (nb.set k c) := fun j hj => by
  unfold upd
  by_cases he : j = k
  · subst he
    rw [if_pos rfl, List.getElem?_set_self (by omega), hb]
  · rw [if_neg (by omega), List.getElem?_set_ne (by omega)]; exact h j hj
end Go.Pl
