/- There and back: a catalog that may be is its page's catalog; any bytes are a catalog's page, just its, or none's. No program in sight. -/
import Derived.Test.YtpijialhhdpobaaPlG
namespace Go.Pl
open Go Go.Sx
theorem unzig_zig (n : Int) : unzig (zig n) = n := by
  unfold unzig zig
  split <;> split <;> omega
theorem getL_putU : ∀ (k i u base : Nat) (rest : List UInt8), i + k = 9 → u < 2 * 128 ^ k → (i = 0 ∨ 0 < u) →
    getL i base (putU u ++ rest) = (unzig (base + u * 128 ^ i), ((i + (putU u).length : Nat) : Int), 0) := by
  intro k
  induction k with
  | zero =>
    intro i u base rest hi hu h0
    have hu2 : u < 2 := by simpa using hu
    rw [putU_small (by omega)]
    have hc : (UInt8.ofNat u).toNat = u := by rw [UInt8.toNat_ofNat']; omega
    show getL i base (UInt8.ofNat u :: rest) = _
    rw [getL, hc, if_neg (by omega), if_neg (by omega), if_neg (by omega), show u % 128 = u by omega]
    rfl
  | succ k ih =>
    intro i u base rest hi hu h0
    by_cases hb : u < 128
    · rw [putU_small hb]
      have hc : (UInt8.ofNat u).toNat = u := by rw [UInt8.toNat_ofNat']; omega
      show getL i base (UInt8.ofNat u :: rest) = _
      rw [getL, hc, if_neg (by omega), if_neg (by omega), if_neg (by omega), show u % 128 = u by omega]
      rfl
    · rw [putU_big hb]
      have hc : (UInt8.ofNat (u % 128 + 128)).toNat = u % 128 + 128 := by rw [UInt8.toNat_ofNat']; omega
      show getL i base (UInt8.ofNat (u % 128 + 128) :: (putU (u / 128) ++ rest)) = _
      rw [getL, hc, if_neg (by omega), if_pos (by omega)]
      rw [ih (i + 1) (u / 128) _ rest (by omega) (by rw [Nat.pow_succ] at hu; omega) (by omega)]
      have e1 : (u % 128 + 128) % 128 = u % 128 := by omega
      rw [e1, Nat.pow_succ]
      have e2 : base + u % 128 * 128 ^ i + u / 128 * (128 ^ i * 128) = base + u * 128 ^ i := by
        have : u * 128 ^ i = u % 128 * 128 ^ i + u / 128 * (128 ^ i * 128) := by
          conv => lhs; rw [← Nat.mod_add_div u 128]
          rw [Nat.add_mul, Nat.mul_comm 128 (u / 128), Nat.mul_assoc, Nat.mul_comm 128 (128 ^ i)]
        omega
      rw [e2]
      simp only [List.length_cons]
      congr 2
      omega
theorem get_put {n : Int} (h1 : -9223372036854775808 ≤ n) (h2 : n ≤ 9223372036854775807) (rest : List UInt8) : get (put n ++ rest) = (n, ((put n).length : Int), 0) := by
  unfold get put
  rw [getL_putU 9 0 (zig n) 0 rest rfl (Nat.lt_of_lt_of_le (zig_lt h1 h2) (by decide)) (.inl rfl)]
  simp [unzig_zig]
theorem putText_length (s : ByteArray) : (putText s).length = (put s.size).length + s.size := by
  unfold putText; rw [List.length_append]; congr 1
theorem getText_put {s : ByteArray} (h : s.size ≤ 65536) (rest : List UInt8) : getText (putText s ++ rest) = (s, ((putText s).length : Int), 0) := by
  have hsz : s.data.toList.length = s.size := Array.length_toList
  have hlen := putText_length s
  unfold getText
  have e : putText s ++ rest = put s.size ++ (s.data.toList ++ rest) := by unfold putText; rw [List.append_assoc]
  rw [e, get_put (by omega) (by omega)]
  dsimp only
  rw [if_neg (by omega), if_neg (by omega), if_neg (by simp only [List.length_append]; omega)]
  have e2 : ((put s.size).length + (s.size : Int)).toNat = (put s.size).length + s.size := by omega
  have e3 : (((put s.size).length : Int)).toNat = (put s.size).length := by omega
  rw [e2, e3]
  have e4 : ((put s.size ++ (s.data.toList ++ rest)).take ((put s.size).length + s.size)).drop (put s.size).length = s.data.toList := by
    rw [List.take_length_add_append, List.drop_left, ← hsz, List.take_left]
  rw [e4, hlen]
  congr 2
theorem b8_nat {x : Int} (h : x = 0 ∨ (1 ≤ x ∧ x ≤ 255)) : ((b8 x).toNat : Int) = x := by
  unfold b8; rw [UInt8.toNat_ofNat']; omega
theorem map_b8 : ∀ (m : List Int), (∀ x ∈ m, x = 0 ∨ (1 ≤ x ∧ x ≤ 255)) → (m.map b8).map (fun c => (c.toNat : Int)) = m := by
  intro m
  induction m with
  | nil => intro _; rfl
  | cons x m ih =>
    intro h
    rw [List.map_cons, List.map_cons, b8_nat (h x (by simp)), ih fun y hy => h y (by simp [hy])]
theorem snapBytes_len (s : Snap) : (snapBytes s).length = (putText s.name).length + (put s.id).length + 1 + (s.map.length - 1) := by
  unfold snapBytes
  simp only [List.length_append, List.length_map, List.length_drop, List.length_cons, List.length_nil]
theorem oneS_bytes {s : Snap} (h35 : (encSnap s).length = 35) (hn : s.name.size ≤ 65536) (h1 : -9223372036854775808 ≤ s.id) (h2 : s.id ≤ 9223372036854775807)
    (hr : ∀ x ∈ s.map, x = 0 ∨ (1 ≤ x ∧ x ≤ 255)) (hh : s.map.head? = some 0) (rest : List UInt8) : oneS (snapBytes s ++ rest) = (s, ((snapBytes s).length : Int)) := by
  have h32 := map32 h35
  have hlen := snapBytes_len s
  have e : snapBytes s ++ rest = putText s.name ++ (put s.id ++ ([if s.inv then 1 else 0] ++ ((s.map.drop 1).map b8 ++ rest))) := by
    unfold snapBytes; simp only [List.append_assoc]
  unfold oneS
  rw [show getText (snapBytes s ++ rest) = (s.name, ((putText s.name).length : Int), 0) from by rw [e]; exact getText_put hn _]
  dsimp only
  rw [if_neg (by omega)]
  have e1 : (((putText s.name).length : Int)).toNat = (putText s.name).length := by omega
  have e2 : (snapBytes s ++ rest).drop (putText s.name).length = put s.id ++ ([if s.inv then 1 else 0] ++ ((s.map.drop 1).map b8 ++ rest)) := by rw [e, List.drop_left]
  rw [e1, e2, get_put h1 h2]
  dsimp only
  rw [if_neg (by rw [List.length_append]; omega)]
  have e3 : ((putText s.name).length + ((put s.id).length : Int)).toNat = (putText s.name ++ put s.id).length := by rw [List.length_append]; omega
  have e4 : snapBytes s ++ rest = (putText s.name ++ put s.id) ++ ((if s.inv then 1 else 0) :: ((s.map.drop 1).map b8 ++ rest)) := by rw [e]; simp only [List.append_assoc, List.singleton_append]
  have e5 : (snapBytes s ++ rest)[(putText s.name ++ put s.id).length]? = some (if s.inv then (1 : UInt8) else 0) := by
    rw [e4, List.getElem?_append_right (Nat.le_refl _), Nat.sub_self]; rfl
  have e6 : (snapBytes s ++ rest).drop ((putText s.name ++ put s.id).length + 1) = (s.map.drop 1).map b8 ++ rest := by
    rw [e4, List.drop_length_add_append]; rfl
  rw [e3, e5, e6]
  have e7 : mapOf ((s.map.drop 1).map b8 ++ rest) = s.map := by
    unfold mapOf
    have hl : ((s.map.drop 1).map b8).length = 31 := by simp [h32]
    rw [← hl, List.take_left, map_b8 _ fun x hx => hr x (List.mem_of_mem_drop hx)]
    cases hm : s.map with
    | nil => rw [hm] at h32; cases h32
    | cons x m => rw [hm] at hh; rw [← Option.some.inj hh]; rfl
  rw [e7]
  refine Prod.ext ?_ ?_
  · cases s with
    | mk name id inv map =>
      dsimp only
      cases inv <;> rfl
  · dsimp only
    omega
theorem readSnaps_bytes : ∀ (xs : List Snap) (A R : List UInt8), (∀ s ∈ xs, ∀ rest, oneS (snapBytes s ++ rest) = (s, ((snapBytes s).length : Int)) ∧ 0 < (snapBytes s).length) →
    readSnaps (A ++ xs.flatMap snapBytes ++ R) xs.length A.length = some xs := by
  intro xs
  induction xs with
  | nil => intro A R _; rfl
  | cons s xs ih =>
    intro A R h
    rw [List.length_cons, readSnaps]
    have e : A ++ (s :: xs).flatMap snapBytes ++ R = A ++ (snapBytes s ++ (xs.flatMap snapBytes ++ R)) := by simp only [List.flatMap_cons, List.append_assoc]
    rw [e, List.drop_left, (h s (by simp) _).1]
    have := (h s (by simp) []).2
    rw [if_neg (by dsimp only; omega)]
    have e2 : A ++ (snapBytes s ++ (xs.flatMap snapBytes ++ R)) = (A ++ snapBytes s) ++ xs.flatMap snapBytes ++ R := by simp only [List.append_assoc]
    have e3 : A.length + (((snapBytes s).length : Int)).toNat = (A ++ snapBytes s).length := by rw [List.length_append]; omega
    rw [e3, e2, ih _ _ fun t ht => h t (by simp [ht])]
theorem mayOut_head {next : Int} {all : List Snap} : ∀ (l : List Snap) (i : Nat) (last : Int) (a : List Int), (∀ s ∈ l, (encSnap s).length = 35) → mayOut next all i last a l = true → ∀ s ∈ l, s.map.head? = some 0 := by
  intro l
  induction l with
  | nil => intro i last a _ _ s hs; cases hs
  | cons t l ih =>
    intro i last a h35 h s hs
    rw [mayOut] at h
    split at h
    · cases h
    · split at h
      · cases h
      · rename_i a' ha'
        rcases List.mem_cons.1 hs with rfl | hs
        · have h32 := map32 (h35 s (by simp))
          cases hm : s.map with
          | nil => rw [hm] at h32; cases h32
          | cons x m =>
            rw [hm, mayIn] at ha'
            split at ha'
            · rename_i h0; rw [h0]; rfl
            · rw [if_pos (.inr (.inr (.inl rfl)))] at ha'; cases ha'
        · exact ih _ _ _ (fun s hs => h35 s (by simp [hs])) h s hs
theorem may_head {next : Int} {l : List Snap} (h35 : ∀ s ∈ l, (encSnap s).length = 35) (h : mayB next l = true) : ∀ s ∈ l, s.map.head? = some 0 := by
  unfold mayB at h
  split at h
  · cases h
  · exact mayOut_head _ _ _ _ h35 h
/-- there and back -/
theorem decode_encode {next : Int} {xs : List Snap} (h35 : ∀ s ∈ xs, (encSnap s).length = 35) (h : mayB next xs = true) : decodeS (page (catBytes next xs)) = ((next, xs), 0) := by
  obtain ⟨h0, h1, h2, h3⟩ := may_ok h
  have hl := catBytes_length h h35
  have hpl := page_length (l := catBytes next xs) (by omega)
  unfold decodeS
  rw [if_neg (by omega)]
  have e : page (catBytes next xs) = put next ++ (put xs.length ++ (xs.flatMap snapBytes ++ List.replicate (256 - (catBytes next xs).length) 0)) := by
    unfold page
    conv => lhs; arg 1; unfold catBytes
    simp only [List.append_assoc]
  rw [show get (page (catBytes next xs)) = (next, ((put next).length : Int), 0) from by rw [e]; exact get_put (by omega) (by omega) _]
  dsimp only
  rw [if_neg (by omega)]
  have e1 : (((put next).length : Int)).toNat = (put next).length := by omega
  have e2 : (page (catBytes next xs)).drop (put next).length = put xs.length ++ (xs.flatMap snapBytes ++ List.replicate (256 - (catBytes next xs).length) 0) := by rw [e, List.drop_left]
  rw [e1, e2, get_put (by omega) (by omega)]
  dsimp only
  rw [if_neg (by omega)]
  have e3 : (((put next).length : Int) + ((put xs.length).length : Int)).toNat = (put next ++ put xs.length).length := by rw [List.length_append]; omega
  have e4 : ((xs.length : Int)).toNat = xs.length := by omega
  have e5 : page (catBytes next xs) = (put next ++ put xs.length) ++ xs.flatMap snapBytes ++ List.replicate (256 - (catBytes next xs).length) 0 := by rw [e]; simp only [List.append_assoc]
  have hone : ∀ s ∈ xs, ∀ rest, oneS (snapBytes s ++ rest) = (s, ((snapBytes s).length : Int)) ∧ 0 < (snapBytes s).length := by
    intro s hs rest
    obtain ⟨hn, hi, hi2⟩ := h3 s hs
    have hn := (nameB_iff _).1 hn
    refine ⟨oneS_bytes (h35 s hs) (by omega) (by omega) (by omega) (may_range h s hs) (may_head h35 h s hs) rest, ?_⟩
    rw [snapBytes_len]; omega
  rw [e3, e4]
  rw [show readSnaps (page (catBytes next xs)) xs.length (put next ++ put xs.length).length = some xs from by rw [e5]; exact readSnaps_bytes xs _ _ hone]
  dsimp only
  unfold sealed encode
  rw [if_pos h]
  rw [if_neg (by simp)]
/-- any bytes -/
theorem decode_any (l : List UInt8) : decodeS l = ((0, []), 8) ∨ ∃ next s, decodeS l = ((next, s), 0) ∧ (encode next s).1 = l ∧ (encode next s).2 = 0 ∧ (∀ x ∈ s, (encSnap x).length = 35) := by
  unfold decodeS
  split
  · exact .inl rfl
  · generalize get l = p
    obtain ⟨next, at_, e⟩ := p
    dsimp only
    split
    · exact .inl rfl
    · generalize get (l.drop at_.toNat) = q
      obtain ⟨k, n, e2⟩ := q
      dsimp only
      split
      · exact .inl rfl
      · cases hr : readSnaps l k.toNat (at_ + n).toNat with
        | none => exact .inl rfl
        | some s =>
          dsimp only
          unfold sealed
          by_cases hs : (encode next s).2 ≠ 0 ∨ (encode next s).1 ≠ l
          · rw [if_pos hs]; exact .inl rfl
          · rw [if_neg hs]
            refine .inr ⟨next, s, rfl, ?_, ?_, (readSnaps_len _ _ _ hr).2⟩
            · exact Decidable.byContradiction fun h => hs (.inr h)
            · exact Decidable.byContradiction fun h => hs (.inl h)
theorem eqSnap_refl (s : Snap) : eqSnap s s = true := by unfold eqSnap; simp
theorem eqSnaps_refl : ∀ l : List Snap, eqSnaps l l = true := by
  intro l
  induction l with
  | nil => rfl
  | cons s l ih => rw [eqSnaps, eqSnap_refl, ih]; rfl
theorem eqCat_refl (n : Int) (l : List Snap) : eqCat n l n l = true := by unfold eqCat; rw [eqSnaps_refl]; simp
theorem eqSnap_iff (a b : Snap) : eqSnap a b = true ↔ a = b := by
  unfold eqSnap
  cases a; cases b
  simp only [Bool.and_eq_true, decide_eq_true_eq, beq_iff_eq, Snap.mk.injEq, and_assoc]
theorem eqSnaps_iff : ∀ a b : List Snap, a.length = b.length → (eqSnaps a b = true ↔ a = b) := by
  intro a
  induction a with
  | nil => intro b h; cases b with
    | nil => simp [eqSnaps]
    | cons y b => cases h
  | cons x a ih => intro b h; cases b with
    | nil => cases h
    | cons y b =>
      rw [eqSnaps, Bool.and_eq_true, eqSnap_iff, ih b (by simpa using h)]
      simp
theorem eqCat_iff (n : Int) (a : List Snap) (m : Int) (b : List Snap) : eqCat n a m b = true ↔ n = m ∧ a = b := by
  unfold eqCat
  rw [Bool.and_eq_true, Bool.and_eq_true, decide_eq_true_eq, decide_eq_true_eq]
  constructor
  · rintro ⟨⟨h1, h2⟩, h3⟩; exact ⟨h1, (eqSnaps_iff a b h2).1 h3⟩
  · rintro ⟨rfl, rfl⟩; exact ⟨⟨rfl, rfl⟩, eqSnaps_refl _⟩
/-- two catalogs that may be have one page just if they are the same -/
theorem twins {n m : Int} {a b : List Snap} (ha : mayB n a = true) (hb : mayB m b = true) (h35a : ∀ s ∈ a, (encSnap s).length = 35) (h35b : ∀ s ∈ b, (encSnap s).length = 35) :
    page (catBytes n a) = page (catBytes m b) ↔ n = m ∧ a = b := by
  constructor
  · intro h
    have h1 := decode_encode h35a ha
    have h2 := decode_encode h35b hb
    rw [h, h2] at h1
    simp only [Prod.mk.injEq, and_true] at h1
    exact ⟨h1.1.symm, h1.2.symm⟩
  · rintro ⟨rfl, rfl⟩; rfl
end Go.Pl
