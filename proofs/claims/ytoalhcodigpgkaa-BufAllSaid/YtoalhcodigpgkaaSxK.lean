/- An element of an own slice, written in place. No program in sight. -/
import Derived.Test.YtoalhcodigpgkaaSxJ
namespace Go.Sx
open Go
section
variable {X : Cx} {k : Kont} {R : Reg} {hs : List Chunk} {ops : Array Oper} {l : List Oper} {T : Tab} {d ty' : Nat} {pos : String} {after : Array Edge} {gd : Option (Nat × Bool)}
  {α : Type} {enc : α → List Value} {sz e t : Nat}

theorem flatMap_set (xs : List α) (h : ∀ x ∈ xs, (enc x).length = sz) {i : Nat} {x x' : α} (hx : xs[i]? = some x) (h' : (enc x').length = sz) :
    (xs.set i x').flatMap enc = splice (xs.flatMap enc) (i * sz) (enc x') := by
  have hi : i < xs.length := (List.getElem?_eq_some_iff.1 hx).1
  unfold splice
  rw [h', flatMap_take h, show i * sz + sz = (i + 1) * sz by rw [Nat.succ_mul], flatMap_drop h, List.set_eq_take_append_cons_drop, if_pos hi]
  simp only [List.flatMap_append, List.flatMap_cons, List.append_assoc]
theorem splice_splice {cs A : List Value} {o j n : Nat} {vals : List Value} (hA : (cs.drop o).take n = A) (hl : o + n ≤ cs.length) (hj : j + vals.length ≤ n) : splice cs o (splice A j vals) = splice cs (o + j) vals := by
  have hAl : A.length = n := by rw [← hA, List.length_take, List.length_drop]; omega
  unfold splice
  have e1 : (A.take j ++ vals ++ A.drop (j + vals.length)).length = n := by simp only [List.length_append, List.length_take, List.length_drop]; omega
  rw [e1]
  have e2 : cs.take (o + j) = cs.take o ++ A.take j := by
    rw [List.take_add, ← hA, List.take_take, Nat.min_eq_left (by omega)]
  have e3 : cs.drop (o + j + vals.length) = A.drop (j + vals.length) ++ cs.drop (o + n) := by
    have h1 : cs.drop o = A ++ cs.drop (o + n) := by rw [← hA, ← List.drop_drop, List.take_append_drop]
    rw [show o + j + vals.length = o + (j + vals.length) by omega, ← List.drop_drop, h1, List.drop_append_of_le_length (by omega)]
  rw [e2, e3]
  simp only [List.append_assoc]
/-- where element i stands, what is read there, what a write there makes -/
theorem Own.spot {v : Value} {xs : List α} {H : Chunk} (h : Own enc sz e v xs H) {i : Nat} {x : α} (hx : xs[i]? = some x) :
    ∃ b o cap cs fr, v = .slice (some ⟨b, o, none⟩) xs.length cap ∧ H = [(b, blk cs e fr)] ∧ thawed cs fr ∧ o + i * sz + sz ≤ cs.length ∧ (cs.drop (o + i * sz)).take sz = enc x ∧
      (∀ {a j : Nat} {u : Value}, a = o + i * sz + j → (enc x)[j]? = some u → cs[a]? = some u) ∧
      (∀ {a j : Nat} {vals : List Value} {x' : α}, a = o + i * sz + j → j + vals.length ≤ sz → splice (enc x) j vals = enc x' → Own enc sz e v (xs.set i x') [(b, blk (splice cs a vals) e fr)]) := by
  have hi : i < xs.length := (List.getElem?_eq_some_iff.1 hx).1
  obtain ⟨hl, ⟨_, rfl, _⟩ | ⟨b, cap, pre, sp, fr, rfl, rfl, hc, hs, ht⟩⟩ := h
  · cases hx
  · have hfl := length_flatMap_enc hl
    have hxl := hl x (List.mem_of_getElem? hx)
    have hisz : i * sz + sz ≤ xs.length * sz := by rw [← Nat.succ_mul]; exact Nat.mul_le_mul_right _ hi
    have hat : ((pre ++ xs.flatMap enc ++ sp).drop (pre.length + i * sz)).take sz = enc x := by
      rw [List.append_assoc, ← List.drop_drop, List.drop_left, List.drop_append_of_le_length (by omega), List.take_append_of_le_length (by rw [List.length_drop]; omega), flatMap_drop hl]
      rw [List.drop_eq_getElem_cons hi, List.flatMap_cons]
      rw [List.getElem?_eq_getElem hi] at hx
      rw [Option.some.inj hx, ← hxl, List.take_left]
    have hle : pre.length + i * sz + sz ≤ (pre ++ xs.flatMap enc ++ sp).length := by simp only [List.length_append]; omega
    refine ⟨b, pre.length, cap, _, fr, rfl, rfl, ht, hle, hat, ?_, ?_⟩
    · intro a j u ha hj
      subst ha
      rw [← hat, List.getElem?_take] at hj
      split at hj
      · rw [List.getElem?_drop] at hj; exact hj
      · cases hj
    · intro a j vals x' ha hj he
      subst ha
      have hx'l : (enc x').length = sz := by rw [← he, length_splice (by omega)]; exact hxl
      have e1 : splice (pre ++ xs.flatMap enc ++ sp) (pre.length + i * sz + j) vals = pre ++ (xs.set i x').flatMap enc ++ sp := by
        rw [← splice_splice hat hle hj, he, flatMap_set xs hl hx hx'l]
        unfold splice
        rw [hx'l, List.append_assoc pre, List.take_length_add_append, List.take_append_of_le_length (by omega)]
        rw [show pre.length + i * sz + sz = pre.length + (i * sz + sz) by omega, List.drop_length_add_append, List.drop_append_of_le_length (by omega)]
        simp only [List.append_assoc]
      refine ⟨?_, .inr ⟨b, cap, pre, sp, fr, by rw [List.length_set], by rw [e1], by rw [List.length_set]; exact hc, by rw [List.length_set]; exact hs, ?_⟩⟩
      · intro y hy
        rcases List.mem_or_eq_of_mem_set hy with hy | rfl
        · exact hl y hy
        · exact hx'l
      · have e2 : (pre ++ (xs.set i x').flatMap enc ++ sp).length = (pre ++ xs.flatMap enc ++ sp).length := by
          rw [← e1, length_splice (by omega)]
        unfold thawed at ht ⊢
        rw [e2]
        exact ht
variable [Outer]
/-- the address of element i, told -/
theorem OT.index_raw {x ix : Operand} {b o n cap : Nat} {kk : IntKind} {i : Int} (hT : T.ok X.P) (ht : ty T t = some (.slice e sz)) (hg : grd ops R gd = some true) (hx : ev R x = some (.slice (some ⟨b, o, none⟩) n cap)) (hix : ev R ix = some (.int kk i))
    (h0 : 0 ≤ i) (hi : i < n) (hdn : Nat.ble (d + 1) X.n = true)
    (h : OT X ops l k ((d, .pointer (some ⟨b, o + i.toNat * sz, none⟩)) :: R) hs) : OT X ops (⟨some d, .indexAddr t x ix, ty', pos, after, gd⟩ :: l) k R hs := by
  refine OT.value hg rfl hdn fun a w ha hm => ⟨.pointer (some ⟨b, o + i.toNat * sz, none⟩), hs, w, ?_, hm, h⟩
  have hu := (hT.ty ht).1
  have hsz := (hT.ty ht).2.1 w
  simp only [execOp, ha.ev hx, ha.ev hix]
  have : (Instr.indexAt t (.slice (some ⟨b, o, none⟩) n cap) (.int kk i)).run X.P w = .ok (.pointer (some ⟨b, o + i.toNat * sz, none⟩)) w := by
    simp [Instr.indexAt, asIntOf, run_underlying hu, h0, hi, hsz, addr_add]
  simp [this]
end
end Go.Sx
