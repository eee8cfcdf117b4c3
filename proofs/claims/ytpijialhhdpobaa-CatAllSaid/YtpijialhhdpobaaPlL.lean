/- Small facts on catalogs that were cut, changed, compared. No program in sight. -/
import Derived.Test.YtpijialhhdpobaaPlJ
namespace Go.Pl
open Go Go.Sx
theorem whole_le (l : List UInt8) : (whole l).length ≤ 256 := by
  unfold whole
  split
  · simp
  · rw [page_length (by omega)]; omega
theorem bytesR_len {next : Int} {l : List Snap} (h35 : ∀ s ∈ l, (encSnap s).length = 35) (h : ¬ ((catBytesR next l).length : Int) = 0) : (catBytesR next l).length = 256 := by
  rw [bytes_eq h35] at h ⊢
  unfold encode at h ⊢
  by_cases hm : mayB next l = true
  · rw [if_pos hm]
    exact page_length (by have := catBytes_length hm h35; omega)
  · rw [if_neg hm] at h
    exact (h rfl).elim
theorem cutS_size (s : ByteArray) (n : Nat) : (cutS s n).size ≤ n := by
  unfold cutS
  split
  · rw [ByteArray.size_extract]; omega
  · omega
theorem cut_names {l xs : List Snap} (h : (xs.take 6).map cutSnap = l) : ∀ s ∈ l, s.name.size ≤ 10 := by
  subst h
  intro s hs
  obtain ⟨t, _, rfl⟩ := List.mem_map.1 hs
  exact cutS_size _ _
theorem cut_len {l xs : List Snap} (h : (xs.take 6).map cutSnap = l) : l.length ≤ 6 := by
  subst h
  rw [List.length_map]
  exact List.length_take_le _ _
theorem put_name (s : Snap) (t : ByteArray) : splice (encSnap s) 0 [.string t] = encSnap { s with name := t } := rfl
theorem put_id (s : Snap) (n : Int) : splice (encSnap s) 1 [.int .i64 n] = encSnap { s with id := n } := rfl
theorem put_inv (s : Snap) (b : Bool) : splice (encSnap s) 2 [.bool b] = encSnap { s with inv := b } := rfl
theorem txt_eq (a b : List UInt8) : txt a = txt b ↔ a = b := by
  constructor
  · intro h; injection h with h; injection h
  · intro h; rw [h]
theorem tw {n m : Int} {a b : List Snap} (ha : (encode n a).2 = 0) (hb : (encode m b).2 = 0) (h35a : ∀ s ∈ a, (encSnap s).length = 35) (h35b : ∀ s ∈ b, (encSnap s).length = 35) :
    (decide (txt (encode n a).1 = txt (encode m b).1) == eqCat n a m b) = true := by
  have h1 := enc_may ha
  have h2 := enc_may hb
  have e1 : (encode n a).1 = page (catBytes n a) := by unfold encode; rw [if_pos h1]
  have e2 : (encode m b).1 = page (catBytes m b) := by unfold encode; rw [if_pos h2]
  rw [e1, e2, beq_iff_eq, Bool.eq_iff_iff, decide_eq_true_iff, txt_eq, eqCat_iff]
  exact twins h1 h2 h35a h35b
end Go.Pl
