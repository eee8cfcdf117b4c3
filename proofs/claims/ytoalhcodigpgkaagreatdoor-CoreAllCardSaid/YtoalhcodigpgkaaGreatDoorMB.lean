/- Several texts in one. An element of an own slice, written in place. No program in sight. Short words for what is found by search: chunks, blocks, rows. No program in sight. Bytes of an own slice written over; copies; chunks put together and taken apart; nil pointers. No program in sight. make([]T, 0, n). No program in sight. copy from a string into bytes. No program in sight. -/
import Derived.Test.YtoalhcodigpgkaaGreatDoorMA

section
namespace Go.Sx
open Go
section
variable {X : Cx} {k : Kont} {R : Reg} {hs : List Chunk} {ops : Array Oper} {l : List Oper} {T : Tab} {d ty' : Nat} {pos : String} {after : Array Edge} {gd : Option (Nat × Bool)}
  {α : Type} {enc : α → List Value} {sz e t : Nat}

theorem flatMap_set (xs : List α) (h : ∀ x ∈ xs, (enc x).length = sz) {i : Nat} {x x' : α} (hx : xs[i]? = some x) (h' : (enc x').length = sz) :
    (xs.set i x').flatMap enc = splice (xs.flatMap enc) (i * sz) (enc x') := by
  have hi : i < xs.length := (List.getElem?_eq_some_iff.1 hx).1
  unfold splice
  rw [h', flatMap_take h, show i * sz + sz = (i + 1) * sz by rw [Nat.succ_mul], flatMap_drop h, List.set_eq_take_append_cons_drop, if_pos hi]
  simp only [List.flatMap_append, List.flatMap_cons, List.append_assoc]
theorem splice_splice {cs A : List Value} {o j n : Nat} {vals : List Value} (hA : (cs.drop o).take n = A) (hl : o + n ≤ cs.length) (hj : j + vals.length ≤ n) : splice cs o (splice A j vals) = splice cs (o + j) vals := by
  have hAl : A.length = n := by rw [← hA, List.length_take, List.length_drop]; omega
  unfold splice
  have e1 : (A.take j ++ vals ++ A.drop (j + vals.length)).length = n := by simp only [List.length_append, List.length_take, List.length_drop]; omega
  rw [e1]
  have e2 : cs.take (o + j) = cs.take o ++ A.take j := by
    rw [List.take_add, ← hA, List.take_take, Nat.min_eq_left (by omega)]
  have e3 : cs.drop (o + j + vals.length) = A.drop (j + vals.length) ++ cs.drop (o + n) := by
    have h1 : cs.drop o = A ++ cs.drop (o + n) := by rw [← hA, ← List.drop_drop, List.take_append_drop]
    rw [show o + j + vals.length = o + (j + vals.length) by omega, ← List.drop_drop, h1, List.drop_append_of_le_length (by omega)]
  rw [e2, e3]
  simp only [List.append_assoc]
/-- where element i stands, what is read there, what a write there makes -/
theorem Own.spot {v : Value} {xs : List α} {H : Chunk} (h : Own enc sz e v xs H) {i : Nat} {x : α} (hx : xs[i]? = some x) :
    ∃ b o cap cs fr, v = .slice (some ⟨b, o, none⟩) xs.length cap ∧ H = [(b, blk cs e fr)] ∧ thawed cs fr ∧ o + i * sz + sz ≤ cs.length ∧ (cs.drop (o + i * sz)).take sz = enc x ∧
      (∀ {a j : Nat} {u : Value}, a = o + i * sz + j → (enc x)[j]? = some u → cs[a]? = some u) ∧
      (∀ {a j : Nat} {vals : List Value} {x' : α}, a = o + i * sz + j → j + vals.length ≤ sz → splice (enc x) j vals = enc x' → Own enc sz e v (xs.set i x') [(b, blk (splice cs a vals) e fr)]) := by
  have hi : i < xs.length := (List.getElem?_eq_some_iff.1 hx).1
  obtain ⟨hl, ⟨_, rfl, _⟩ | ⟨b, cap, pre, sp, fr, rfl, rfl, hc, hs, ht⟩⟩ := h
  · cases hx
  · have hfl := length_flatMap_enc hl
    have hxl := hl x (List.mem_of_getElem? hx)
    have hisz : i * sz + sz ≤ xs.length * sz := by rw [← Nat.succ_mul]; exact Nat.mul_le_mul_right _ hi
    have hat : ((pre ++ xs.flatMap enc ++ sp).drop (pre.length + i * sz)).take sz = enc x := by
      rw [List.append_assoc, ← List.drop_drop, List.drop_left, List.drop_append_of_le_length (by omega), List.take_append_of_le_length (by rw [List.length_drop]; omega), flatMap_drop hl]
      rw [List.drop_eq_getElem_cons hi, List.flatMap_cons]
      rw [List.getElem?_eq_getElem hi] at hx
      rw [Option.some.inj hx, ← hxl, List.take_left]
    have hle : pre.length + i * sz + sz ≤ (pre ++ xs.flatMap enc ++ sp).length := by simp only [List.length_append]; omega
    refine ⟨b, pre.length, cap, _, fr, rfl, rfl, ht, hle, hat, ?_, ?_⟩
    · intro a j u ha hj
      subst ha
      rw [← hat, List.getElem?_take] at hj
      split at hj
      · rw [List.getElem?_drop] at hj; exact hj
      · cases hj
    · intro a j vals x' ha hj he
      subst ha
      have hx'l : (enc x').length = sz := by rw [← he, length_splice (by omega)]; exact hxl
      have e1 : splice (pre ++ xs.flatMap enc ++ sp) (pre.length + i * sz + j) vals = pre ++ (xs.set i x').flatMap enc ++ sp := by
        rw [← splice_splice hat hle hj, he, flatMap_set xs hl hx hx'l]
        unfold splice
        rw [hx'l, List.append_assoc pre, List.take_length_add_append, List.take_append_of_le_length (by omega)]
        rw [show pre.length + i * sz + sz = pre.length + (i * sz + sz) by omega, List.drop_length_add_append, List.drop_append_of_le_length (by omega)]
        simp only [List.append_assoc]
      refine ⟨?_, .inr ⟨b, cap, pre, sp, fr, by rw [List.length_set], by rw [e1], by rw [List.length_set]; exact hc, by rw [List.length_set]; exact hs, ?_⟩⟩
      · intro y hy
        rcases List.mem_or_eq_of_mem_set hy with hy | rfl
        · exact hl y hy
        · exact hx'l
      · have e2 : (pre ++ (xs.set i x').flatMap enc ++ sp).length = (pre ++ xs.flatMap enc ++ sp).length := by
          rw [← e1, length_splice (by omega)]
        unfold thawed at ht ⊢
        rw [e2]
        exact ht
variable [Outer]
/-- the address of element i, told -/
theorem OT.index_raw {x ix : Operand} {b o n cap : Nat} {kk : IntKind} {i : Int} (hT : T.ok X.P) (ht : ty T t = some (.slice e sz)) (hg : grd ops R gd = some true) (hx : ev R x = some (.slice (some ⟨b, o, none⟩) n cap)) (hix : ev R ix = some (.int kk i))
    (h0 : 0 ≤ i) (hi : i < n) (hdn : Nat.ble (d + 1) X.n = true)
    (h : OT X ops l k ((d, .pointer (some ⟨b, o + i.toNat * sz, none⟩)) :: R) hs) : OT X ops (⟨some d, .indexAddr t x ix, ty', pos, after, gd⟩ :: l) k R hs := by
  refine OT.value hg rfl hdn fun a w ha hm => ⟨.pointer (some ⟨b, o + i.toNat * sz, none⟩), hs, w, ?_, hm, h⟩
  have hu := (hT.ty ht).1
  have hsz := (hT.ty ht).2.1 w
  simp only [execOp, ha.ev hx, ha.ev hix]
  have : (Instr.indexAt t (.slice (some ⟨b, o, none⟩) n cap) (.int kk i)).run X.P w = .ok (.pointer (some ⟨b, o + i.toNat * sz, none⟩)) w := by
    simp [Instr.indexAt, asIntOf, run_underlying hu, h0, hi, hsz, addr_add]
  simp [this]
end
end Go.Sx
end

section
namespace Go.Sx
open Go
theorem pl {hs r : List Chunk} {A : Chunk} (h : Pull hs A r := by repeat (first | exact Pull.head | apply Pull.tail)) : Pull hs A r := h
theorem sl {hs hs' : List Chunk} (h : Sel hs hs' := by repeat (first | exact Sel.refl _ | refine Sel.empty ?_ | (apply Sel.pull; focus ((repeat (first | exact Pull.head | apply Pull.tail)); done)) | refine Sel.join ?_ | refine Sel.drop ?_)) : Sel hs hs' := h
theorem hz {hs : List Chunk} {b : Nat} {o : Obj} (h : Has hs b o := by repeat (first | exact Has.one | apply Has.there)) : Has hs b o := h
theorem kr {α : Type} {a b : α} (h : a = b := by kernel_rfl) : a = b := h
theorem ro {α : Type} {enc : α → List Value} {sz : Nat} {hs : List Chunk} {v : Value} {xs : List α}
    (h : Row enc sz hs v xs := by first
      | assumption | exact Own.row (by assumption)
      | exact Row.there (by assumption) | exact Row.there (Own.row (by assumption))
      | exact Row.there (Row.there (by assumption)) | exact Row.there (Row.there (Own.row (by assumption)))
      | exact Row.there (Row.there (Row.there (by assumption))) | exact Row.there (Row.there (Row.there (Own.row (by assumption))))
      | exact Row.there (Row.there (Row.there (Row.there (by assumption)))) | exact Row.there (Row.there (Row.there (Row.there (Own.row (by assumption)))))
      | exact Row.there (Row.there (Row.there (Row.there (Row.there (by assumption))))) | exact Row.there (Row.there (Row.there (Row.there (Row.there (Own.row (by assumption))))))
      | exact Row.there (Row.there (Row.there (Row.there (Row.there (Row.there (by assumption)))))) | exact Row.there (Row.there (Row.there (Row.there (Row.there (Row.there (Own.row (by assumption)))))))
      | exact Row.there (Row.there (Row.there (Row.there (Row.there (Row.there (Row.there (by assumption))))))) | exact Row.there (Row.there (Row.there (Row.there (Row.there (Row.there (Row.there (Own.row (by assumption)))))))))
    : Row enc sz hs v xs := h
/-- an own slice, found -/
theorem ow {α : Type} {enc : α → List Value} {sz e : Nat} {v : Value} {xs : List α} {H : Chunk} (h : Own enc sz e v xs H := by assumption) : Own enc sz e v xs H := h
end Go.Sx
end

section
namespace Go.Sx
open Go
def over {α : Type} (xs : List α) (j : Nat) (ys : List α) : List α := xs.take j ++ ys ++ xs.drop (j + ys.length)
section
variable {α : Type} {enc : α → List Value} {sz e : Nat}
theorem length_over {xs : List α} {j : Nat} {ys : List α} (h : j + ys.length ≤ xs.length) : (over xs j ys).length = xs.length := by
  simp [over]; omega
theorem over_flat {xs : List α} (h1 : ∀ x ∈ xs, (enc x).length = sz) {j : Nat} {ys : List α} (h2 : ∀ y ∈ ys, (enc y).length = sz) :
    (over xs j ys).flatMap enc = splice (xs.flatMap enc) (j * sz) (ys.flatMap enc) := by
  unfold over splice
  rw [List.flatMap_append, List.flatMap_append, flatMap_take h1, length_flatMap_enc h2, ← Nat.add_mul, flatMap_drop h1]
/-- a part of an own slice written over -/
theorem Own.over {v : Value} {xs : List α} {H : Chunk} (h : Own enc sz e v xs H) (hn : 0 < xs.length) :
    ∃ b o cap cs fr, v = .slice (some ⟨b, o, none⟩) xs.length cap ∧ H = [(b, blk cs e fr)] ∧ thawed cs fr ∧ o + xs.length * sz ≤ cs.length ∧ (cs.drop o).take (xs.length * sz) = xs.flatMap enc ∧ xs.length ≤ cap ∧
      ∀ (j : Nat) (ys : List α), j + ys.length ≤ xs.length → (∀ y ∈ ys, (enc y).length = sz) → Own enc sz e v (Go.Sx.over xs j ys) [(b, blk (splice cs (o + j * sz) (ys.flatMap enc)) e fr)] := by
  obtain ⟨hl, ⟨_, rfl, _⟩ | ⟨b, cap, pre, sp, fr, rfl, rfl, hc, hs, ht⟩⟩ := h
  · simp at hn
  · have hfl := length_flatMap_enc hl
    refine ⟨b, pre.length, cap, _, fr, rfl, rfl, ht, by simp only [List.length_append]; omega, ?_, hc, ?_⟩
    · rw [List.append_assoc, List.drop_left, List.take_append_of_le_length (by omega), ← hfl, List.take_length]
    · intro j ys hj hy
      have hyl := length_flatMap_enc hy
      have hjs : j * sz + ys.length * sz ≤ xs.length * sz := by rw [← Nat.add_mul]; exact Nat.mul_le_mul_right _ hj
      have e1 : splice (pre ++ xs.flatMap enc ++ sp) (pre.length + j * sz) (ys.flatMap enc) = pre ++ (Go.Sx.over xs j ys).flatMap enc ++ sp := by
        rw [over_flat hl hy]
        unfold splice
        rw [hyl, List.append_assoc pre, List.take_length_add_append, List.take_append_of_le_length (by omega)]
        rw [show pre.length + j * sz + ys.length * sz = pre.length + (j * sz + ys.length * sz) by omega, List.drop_length_add_append, List.drop_append_of_le_length (by omega)]
        simp only [List.append_assoc]
      have e3 : (Go.Sx.over xs j ys).length = xs.length := length_over hj
      refine ⟨?_, .inr ⟨b, cap, pre, sp, fr, by rw [e3], by rw [e1], by rw [e3]; exact hc, by rw [e3]; exact hs, ?_⟩⟩
      · intro y hy'
        simp only [Go.Sx.over, List.mem_append] at hy'
        rcases hy' with (h1 | h1) | h1
        · exact hl y (List.mem_of_mem_take h1)
        · exact hy y h1
        · exact hl y (List.mem_of_mem_drop h1)
      · have e2 : (pre ++ (Go.Sx.over xs j ys).flatMap enc ++ sp).length = (pre ++ xs.flatMap enc ++ sp).length := by
          rw [← e1, length_splice (by rw [hyl]; simp only [List.length_append]; omega)]
        unfold thawed at ht ⊢
        rw [e2]
        exact ht
/-- a piece of what lies at ad, read as a row -/
theorem El.piece {hs : List Chunk} {x : α} {b o : Nat} (h : El enc sz hs x ⟨b, o, none⟩) {β : Type} {enc' : β → List Value} {sz' : Nat} {ys : List β} (hy : ∀ y ∈ ys, (enc' y).length = sz') (j : Nat) {n cap : Nat} (hn : ys.length = n) (hc : n ≤ cap)
    (hr : ((enc x).drop j).take (n * sz') = ys.flatMap enc') (hj : j + n * sz' ≤ sz) : Row enc' sz' hs (.slice (some ⟨b, o + j, none⟩) n cap) ys := by
  obtain ⟨h1, b', o', cs, t, fr, ha, hb, hr'⟩ := h
  injection ha with e1 e2
  subst e1; subst e2
  refine Row.of_blk hb hy hn hc ?_
  rw [← hr, ← hr', List.drop_take, List.drop_drop, List.take_take, Nat.min_eq_left (by omega)]
end
variable [Outer]
/-- two chunks as one -/
theorem Mem.join {A B : Chunk} {r : List Chunk} {w : World} : Mem (A :: B :: r) w ↔ Mem ((A ++ B) :: r) w := by
  have e : (A :: B :: r).flatten.Perm ((A ++ B) :: r).flatten := by simp [List.append_assoc]
  exact ⟨fun h => h.perm e, fun h => h.perm e.symm⟩
section
variable {X : Cx} {k : Kont} {R : Reg} {hs hs' : List Chunk} {ops : Array Oper} {l : List Oper} {T : Tab} {d ty' : Nat} {pos : String} {after : Array Edge} {gd : Option (Nat × Bool)}
  {α : Type} {enc : α → List Value} {sz e t : Nat}
/-- the same blocks, in chunks otherwise -/
theorem TT.perm {c : Code} (hp : hs.flatten.Perm hs'.flatten) (h : TT X c k R hs') : TT X c k R hs := fun a w ha hm => h a w ha (hm.perm hp)
theorem KT.perm (hp : hs.flatten.Perm hs'.flatten) (h : KT X k R hs') : KT X k R hs := fun a w ha hm => h a w ha (hm.perm hp)
theorem OT.perm (hp : hs.flatten.Perm hs'.flatten) (h : OT X ops l k R hs') : OT X ops l k R hs := fun a w ha hm => h a w ha (hm.perm hp)
theorem Fun.perm {P : Program} {f : Nat} {vs : List Value} {N : Value → List Chunk → Prop} (hp : hs.flatten.Perm hs'.flatten) (h : Fun P f vs hs' N) : Fun P f vs hs N := fun w hm => h w (hm.perm hp)
theorem Fun.repost {P : Program} {f : Nat} {vs : List Value} {N N' : Value → List Chunk → Prop} (h : Fun P f vs hs N) (hn : ∀ v hs1, N v hs1 → ∃ hs2, N' v hs2 ∧ hs1.flatten.Perm hs2.flatten) : Fun P f vs hs N' := fun w hm =>
  (h w hm).mono fun _ _ ⟨v, hs1, he, hN, hM⟩ => by
    obtain ⟨hs2, h2, hp⟩ := hn _ _ hN
    exact ⟨v, hs2, he, h2, hM.perm hp⟩
theorem TT.split {c : Code} {A B : Chunk} (h : TT X c k R (A :: B :: hs)) : TT X c k R ((A ++ B) :: hs) := fun a w ha hm => h a w ha (Mem.join.2 hm)
theorem OT.split_chunk {A B : Chunk} (h : OT X ops l k R (A :: B :: hs)) : OT X ops l k R ((A ++ B) :: hs) := fun a w ha hm => h a w ha (Mem.join.2 hm)
theorem OT.join_chunk {A B : Chunk} (h : OT X ops l k R ((A ++ B) :: hs)) : OT X ops l k R (A :: B :: hs) := fun a w ha hm => h a w ha (Mem.join.1 hm)
theorem KT.split {A B : Chunk} (h : KT X k R (A :: B :: hs)) : KT X k R ((A ++ B) :: hs) := fun a w ha hm => h a w ha (Mem.join.2 hm)
theorem RT.split {A B : Chunk} (h : RT X R (A :: B :: hs)) : RT X R ((A ++ B) :: hs) := fun a w ha hm => h a w ha (Mem.join.2 hm)
theorem RT.join {A B : Chunk} (h : RT X R ((A ++ B) :: hs)) : RT X R (A :: B :: hs) := fun a w ha hm => h a w ha (Mem.join.1 hm)
theorem KT.join {A B : Chunk} (h : KT X k R ((A ++ B) :: hs)) : KT X k R (A :: B :: hs) := fun a w ha hm => h a w ha (Mem.join.1 hm)
theorem Fun.join {P : Program} {f : Nat} {vs : List Value} {N : Value → List Chunk → Prop} {A B : Chunk} (h : Fun P f vs ((A ++ B) :: hs) N) : Fun P f vs (A :: B :: hs) N := fun w hm => h w (Mem.join.1 hm)


theorem firstCells_row {P : Program} {v : Value} {ys : List α} (hr : Row enc sz hs v ys) {w : World} (hm : Mem hs w) {n : Nat} (hn : n ≤ ys.length) :
    (Builtin.firstCells sz n v).run P w = .ok ⟨(ys.take n).flatMap enc⟩ w := by
  rcases hr.2 with ⟨⟨a, rfl⟩, rfl⟩ | ⟨b, o, cap, cs, t, fr, rfl, hb, hc, h⟩
  · have hn0 : n = 0 := by simpa using hn
    subst hn0
    cases a <;> simp [Builtin.firstCells, loadCells, loadCellsFrom]
  · have h1 : (cs.drop o).take (n * sz) = (ys.take n).flatMap enc := by
      rw [← flatMap_take hr.1, ← h, List.take_take, Nat.min_eq_left (Nat.mul_le_mul_right _ hn)]
    have h2 : ((ys.take n).flatMap enc).length = n * sz := by
      rw [length_flatMap_enc (fun y hy => hr.1 y (List.mem_of_mem_take hy)), List.length_take, Nat.min_eq_left hn]
    exact hm.loadCells hb h1 h2
omit [Outer] in
theorem ones_sub {xs ys : List Value} (h : ones ys = true) (hs : ∀ x ∈ xs, x ∈ ys) : ones xs = true := by
  unfold ones at *
  rw [List.all_eq_true] at *
  exact fun x hx => h x (hs x hx)
omit [Outer] in
theorem ones_take {ys : List α} (h : ones (ys.flatMap enc) = true) (m : Nat) : ones ((ys.take m).flatMap enc) = true := by
  refine ones_sub h fun x hx => ?_
  obtain ⟨y, hy, hx⟩ := List.mem_flatMap.1 hx
  exact List.mem_flatMap.2 ⟨y, List.mem_of_mem_take hy, hx⟩
theorem copy_run {P : Program} {r : List Chunk} {t2 b o m cap e' : Nat} {cs : List Value} {fr : Nat × Nat} {u : Value} {ys : List α} (hu : P.underlying t = some (.slice e)) (hsz : ∀ w, (sizeOf e).run P w = .ok sz w)
    (hrow : Row enc sz ([(b, blk cs e' fr)] :: r) u ys) {w : World} (hm : Mem ([(b, blk cs e' fr)] :: r) w) (hl : o + min ys.length m * sz ≤ cs.length) (h1 : ones (ys.flatMap enc) = true) (hf : thawed cs fr) :
    ∃ w', (Builtin.copy_ #[t, t2] ty' #[.slice (some ⟨b, o, none⟩) m cap, u]).run P w = .ok (.int .i64 (min ys.length m : Nat)) w' ∧ Mem ([(b, blk (splice cs o ((ys.take m).flatMap enc)) e' fr)] :: r) w' := by
  have hfirst := firstCells_row (P := P) hrow hm (n := min ys.length m) (Nat.min_le_left _ _)
  have e1 : ys.take (min ys.length m) = ys.take m := by
    rcases Nat.le_total ys.length m with h | h
    · rw [Nat.min_eq_left h, List.take_length, List.take_of_length_le h]
    · rw [Nat.min_eq_right h]
  rw [e1] at hfirst
  have hlen : ((ys.take m).flatMap enc).length = min ys.length m * sz := by
    rw [length_flatMap_enc (fun y hy => hrow.1 y (List.mem_of_mem_take hy)), List.length_take, Nat.min_comm]
  obtain ⟨w', hr, hm'⟩ := hm.storeCells (P := P) (o := o) ((ys.take m).flatMap enc) 0 (by omega) (ones_take h1 m) hf
  refine ⟨w', ?_, by simpa using hm'⟩
  obtain ⟨a0, c0, hv⟩ := hrow.len
  subst hv
  unfold Builtin.copy_
  simp only [List.getElem?_toArray, List.getElem?_cons_zero, List.getElem?_cons_succ]
  rw [Sem.run_bind, run_underlying hu]
  simp only [Result.andThen_ok]
  rw [Sem.run_bind]
  show Result.andThen (Result.ok ys.length w) _ = _
  simp only [Result.andThen_ok]
  rw [Sem.run_bind, hsz]
  simp only [Result.andThen_ok]
  rw [Sem.run_bind, show Nat.min ys.length m = min ys.length m from rfl, hfirst]
  simp only [Result.andThen_ok]
  rw [Sem.run_bind, hr]
  rfl
omit [Outer] in
theorem exec_copy {a : Act} {x y : Operand} {v u : Value} (hx : a.eval x = v) (hy : a.eval y = u) (o : Option Nat) (t t2 : Nat) {P : Program} {w w' : World} {v' : Value} (h : (Builtin.copy_ #[t, t2] ty' #[v, u]).run P w = .ok v' w') :
    (execOp a.eval ⟨o, .call ⟨.builtin .copy, #[x, y], #[t, t2]⟩, ty', pos, after, gd⟩).run P w = .ok (.value v') w' := by
  simp [execOp, resolve, hx, hy, invoke, builtin, h]
/-- copy into a known block -/
theorem OT.copy_raw {x y : Operand} {t2 b o m cap e' : Nat} {cs : List Value} {fr : Nat × Nat} {u : Value} {ys : List α} {r : List Chunk} (hT : T.ok X.P) (ht : ty T t = some (.slice e sz)) (hg : grd ops R gd = some true)
    (hx : ev R x = some (.slice (some ⟨b, o, none⟩) m cap)) (hy : ev R y = some u) (hp : Pull hs [(b, blk cs e' fr)] r) (hrow : Row enc sz hs u ys) (hl : o + min ys.length m * sz ≤ cs.length) (h1 : ones (ys.flatMap enc) = true) (hf : thawed cs fr)
    (hdn : Nat.ble (d + 1) X.n = true)
    (h : OT X ops l k ((d, .int .i64 (min ys.length m : Nat)) :: R) ([(b, blk (splice cs o ((ys.take m).flatMap enc)) e' fr)] :: r)) : OT X ops (⟨some d, .call ⟨.builtin .copy, #[x, y], #[t, t2]⟩, ty', pos, after, gd⟩ :: l) k R hs := by
  refine OT.value hg rfl hdn fun a w ha hm => ?_
  obtain ⟨w', hr, hm'⟩ := copy_run (P := X.P) (t2 := t2) (ty' := ty') (cap := cap) (hT.ty ht).1 (hT.ty ht).2.1 (hrow.pull hp) (hm.pull hp) hl h1 hf
  exact ⟨_, _, w', exec_copy (ha.ev hx) (ha.ev hy) (some d) t t2 hr, hm', h⟩
/-- copy into an own slice, from its element j on -/
theorem OT.copy_own {x y : Operand} {t2 b o m cap n c : Nat} {u : Value} {xs ys : List α} {H : Chunk} {r : List Chunk} (j : Nat) (hT : T.ok X.P) (ht : ty T t = some (.slice e sz)) (hg : grd ops R gd = some true)
    (hx : ev R x = some (.slice (some ⟨b, o + j * sz, none⟩) m cap)) (hy : ev R y = some u) (hp : Pull hs H r) (hown : Own enc sz e (.slice (some ⟨b, o, none⟩) n c) xs H) (hrow : Row enc sz hs u ys) (hj : j + min ys.length m ≤ xs.length) (hn : 0 < xs.length)
    (h1 : ones (ys.flatMap enc) = true) (hdn : Nat.ble (d + 1) X.n = true)
    (h : ∀ H', Own enc sz e (.slice (some ⟨b, o, none⟩) n c) (over xs j (ys.take m)) H' → OT X ops l k ((d, .int .i64 (min ys.length m : Nat)) :: R) (H' :: r)) : OT X ops (⟨some d, .call ⟨.builtin .copy, #[x, y], #[t, t2]⟩, ty', pos, after, gd⟩ :: l) k R hs := by
  obtain ⟨b', o', cap', cs, fr, hv, rfl, hth, hle, hat, hc, hset⟩ := hown.over hn
  injection hv with e1 e2 e3
  injection e1 with e1
  injection e1 with e1 e4
  subst e1; subst e4
  have hb : o + j * sz + min ys.length m * sz ≤ cs.length := by
    have h2 : j * sz + min ys.length m * sz ≤ xs.length * sz := by rw [← Nat.add_mul]; exact Nat.mul_le_mul_right _ hj
    omega
  refine OT.copy_raw hT ht hg hx hy hp hrow hb h1 hth hdn ?_
  exact h _ (hset j (ys.take m) (by rw [List.length_take, Nat.min_comm]; exact hj) (fun y hy => hrow.1 y (List.mem_of_mem_take hy)))
omit [Outer] in
theorem flatMap_replicate_get {z0 : α} (hz : (enc z0).length = sz) : ∀ (n i : Nat), i < n * sz → ((List.replicate n z0).flatMap enc)[i]? = (enc z0)[i % sz]? := by
  intro n
  induction n with
  | zero => intro i h; simp at h
  | succ n ih =>
    intro i h
    rw [List.replicate_succ, List.flatMap_cons]
    by_cases hi : i < sz
    · rw [List.getElem?_append_left (by omega), Nat.mod_eq_of_lt hi]
    · rw [List.getElem?_append_right (by omega), hz]
      rw [Nat.succ_mul] at h
      rw [ih (i - sz) (by omega), ← Nat.mod_eq_sub_mod (by omega)]
omit [Outer] in
theorem zeros_flat {z0 : α} {zc : Array Value} (hz : enc z0 = zc.toList) (n : Nat) : ((Array.range (n * zc.size)).map (zc[· % zc.size]!)) = ⟨(List.replicate n z0).flatMap enc⟩ := by
  have hl : (enc z0).length = zc.size := by rw [hz]; simp
  apply Array.ext'
  simp only [Array.toList_map, Array.toList_range]
  have h1 : ((List.replicate n z0).flatMap enc).length = n * zc.size := by
    rw [length_flatMap_enc (sz := zc.size) (fun y hy => by rw [List.eq_of_mem_replicate hy]; exact hl), List.length_replicate]
  apply List.ext_getElem?
  intro i
  by_cases hi : i < n * zc.size
  · have hpos : 0 < zc.size := by
      rcases Nat.eq_zero_or_pos zc.size with h | h
      · rw [h] at hi; simp at hi
      · exact h
    rw [flatMap_replicate_get hl n i hi, List.getElem?_map, List.getElem?_range hi, Option.map_some, hz]
    have hm : i % zc.size < zc.size := Nat.mod_lt _ hpos
    rw [getElem!_pos zc _ hm, Array.getElem?_toList, Array.getElem?_eq_getElem hm]
  · rw [List.getElem?_eq_none (by simp; omega), List.getElem?_eq_none (by omega)]
/-- make([]T, n), T of some cells -/
theorem OT.makeN {z : Value} {z0 : α} {x y : Operand} {kx ky : IntKind} {n : Nat} (he : Elem X.P t e sz) (hz0 : ∀ w, (zeroValue e).run X.P w = .ok z w) (henc : enc z0 = z.cells.toList) (hzs : z.cells.size = sz)
    (hg : grd ops R gd = some true) (hx : ev R x = some (.int kx n)) (hy : ev R y = some (.int ky n)) (hn : n ≤ 4294967296) (hdn : Nat.ble (d + 1) X.n = true)
    (h : ∀ v' H', Own enc sz e v' (List.replicate n z0) H' → OT X ops l k ((d, v') :: R) (H' :: hs)) : OT X ops (⟨some d, .makeSlice t x y, ty', pos, after, gd⟩ :: l) k R hs := by
  obtain ⟨ti, hti, hb1, hb2⟩ := he.info
  refine OT.value hg rfl hdn fun a w ha hm => ?_
  have hwrap : IntKind.i64.wrap (n : Int) = (n : Int) := IntWalk.i64_in _ (by omega)
  have hbig : ¬ (ti.bytes * (n : Int) > 2 ^ 48) := by
    have h1 : ti.bytes * n ≤ 4096 * 4294967296 := Nat.mul_le_mul hb2 hn
    have : (2 : Int) ^ 48 = 281474976710656 := by decide
    rw [this]
    have h2 : ((ti.bytes * n : Nat) : Int) ≤ 17592186044416 := by omega
    rw [Int.natCast_mul] at h2
    omega
  have hel : (enc z0).length = sz := by rw [henc]; simpa using hzs
  have hroomrun : ∀ n (w : World), (askRoom n).run X.P w = .ok () w := by intro n w; unfold askRoom; split <;> rfl
  have hrun : (Instr.makeSlice t (.int kx n) (.int ky n)).run X.P w = .ok (.slice (some ⟨w.heap.size, 0, none⟩) n n) (w.alloc (.cells ⟨(List.replicate n z0).flatMap enc⟩ e)) := by
    unfold Instr.makeSlice
    rw [Sem.run_bind, run_underlying he.und]
    simp only [Result.andThen_ok, asInt, asIntOf, Sem.run_bind, Sem.run_pure, hti, hwrap]
    have h1 : ((decide ((n : Int) < 0) || decide (ti.bytes * (n : Int) > 2 ^ 48)) || decide ((n : Int) < 0) || decide ((n : Int) > n)) = false := by
      simp only [Bool.or_eq_false_iff, decide_eq_false_iff_not]
      exact ⟨⟨⟨by omega, hbig⟩, by omega⟩, by omega⟩
    rw [h1]
    simp only [Bool.false_eq_true, if_false, Sem.run_bind, hroomrun, Result.andThen_ok, he.size, Int.toNat_natCast]
    split
    · rename_i h0
      simp only [newRow, Sem.run_pure, Result.andThen_ok, Sem.run_bind, run_newObj_alloc]
      have e0 : (List.replicate n z0).flatMap enc = [] := by
        apply List.eq_nil_of_length_eq_zero
        rw [length_flatMap_enc (sz := sz) (fun y hy => by rw [List.eq_of_mem_replicate hy]; exact hel), List.length_replicate]
        exact h0
      have e1 : ∀ f : Nat → Value, Array.map f (Array.range 0) = ⟨[]⟩ := fun f => by apply Array.ext'; simp
      rw [e0, h0, e1]
    · have hzf := zeros_flat henc n
      rw [hzs] at hzf
      simp only [Sem.run_bind, hz0, Result.andThen_ok, Sem.run_pure, newRow, run_newObj_alloc, hzs, hzf]
  refine ⟨.slice (some ⟨w.heap.size, 0, none⟩) n n, [(w.heap.size, blk ((List.replicate n z0).flatMap enc) e (0, 0))] :: hs, w.alloc (.cells ⟨(List.replicate n z0).flatMap enc⟩ e), ?_, hm.alloc _, h _ _ ⟨fun y hy => by rw [List.eq_of_mem_replicate hy]; exact hel, .inr ⟨w.heap.size, n, [], [], (0, 0), by simp, ?_, by simp, by simp, .inl (Nat.le_refl _)⟩⟩⟩
  · simp only [execOp, ha.ev hx, ha.ev hy]
    rw [Sem.run_bind, hrun]
    rfl
  · simp
/-- x[L:H], x own: where it lies -/
theorem OT.slice_own {x : Operand} {lo hi : Option Operand} {b o n c : Nat} {vl vh : Option Value} (L H : Nat) (hT : T.ok X.P) (ht : ty T t = some (.slice e sz)) (hg : grd ops R gd = some true) (hx : ev R x = some (.slice (some ⟨b, o, none⟩) n c))
    (hlo : evo R lo = some vl) (hhi : evo R hi = some vh) (hL : bnd vl 0 L) (hH : bnd vh n H) (h1 : L ≤ H) (h2 : H ≤ c) (h3 : L < c) (hdn : Nat.ble (d + 1) X.n = true)
    (h : OT X ops l k ((d, .slice (some ⟨b, o + L * sz, none⟩) (H - L) (c - L)) :: R) hs) : OT X ops (⟨some d, .slice t x lo hi none, ty', pos, after, gd⟩ :: l) k R hs := by
  refine OT.slice_val L H hT ht hg hx hlo hhi hL hH h1 h2 hdn ?_
  rw [if_neg (by omega), Option.map_some, addr_add]
  exact h
/-- a part of an element of an own slice, stored -/
theorem OT.store_el {x y : Operand} {b o n c a : Nat} {v : Value} {D : TD} {xs : List α} {z z' : α} {H : Chunk} {r : List Chunk} (i j : Nat) (hT : T.ok X.P) (ht : ty T t = some D) (hg : grd ops R gd = some true)
    (hx : ev R x = some (.pointer (some ⟨b, a, none⟩))) (hy : ev R y = some v) (hp : Pull hs H r) (hown : Own enc sz e (.slice (some ⟨b, o, none⟩) n c) xs H) (hi : xs[i]? = some z) (ha : a = o + i * sz + j) (hn : v.cells.toList.length = D.size) (hj : j + D.size ≤ sz)
    (h1 : ones v.cells.toList = true) (hz : splice (enc z) j v.cells.toList = enc z')
    (h : ∀ H', Own enc sz e (.slice (some ⟨b, o, none⟩) n c) (xs.set i z') H' → OT X ops l k R (H' :: r)) : OT X ops (⟨none, .store t x y, ty', pos, after, gd⟩ :: l) k R hs := by
  obtain ⟨b', o', cap', cs, fr, hv, rfl, hth, hle, hat, hget, hset⟩ := hown.spot hi
  injection hv with e1 e2 e3
  injection e1 with e1
  injection e1 with e1 e4
  subst e1; subst e4; subst ha
  exact OT.store hT ht hg hx hy hp hn (by omega) h1 hth rfl (h _ (hset rfl (by omega) hz))
/-- a part of an element of an own slice, copied into -/
theorem OT.copy_el {x y : Operand} {t2 b o m cap n c a : Nat} {u : Value} {β : Type} {encY : β → List Value} {sy ey : Nat} {ys : List β} {xs : List α} {z z' : α} {H : Chunk} {r : List Chunk} (i j : Nat) (hT : T.ok X.P) (ht : ty T t = some (.slice ey sy)) (hg : grd ops R gd = some true)
    (hx : ev R x = some (.slice (some ⟨b, a, none⟩) m cap)) (hy : ev R y = some u) (hp : Pull hs H r) (hown : Own enc sz e (.slice (some ⟨b, o, none⟩) n c) xs H) (hi : xs[i]? = some z) (ha : a = o + i * sz + j) (hrow : Row encY sy hs u ys) (hj : j + min ys.length m * sy ≤ sz)
    (h1 : ones (ys.flatMap encY) = true) (hz : splice (enc z) j ((ys.take m).flatMap encY) = enc z') (hdn : Nat.ble (d + 1) X.n = true)
    (h : ∀ H', Own enc sz e (.slice (some ⟨b, o, none⟩) n c) (xs.set i z') H' → OT X ops l k ((d, .int .i64 (min ys.length m : Nat)) :: R) (H' :: r)) : OT X ops (⟨some d, .call ⟨.builtin .copy, #[x, y], #[t, t2]⟩, ty', pos, after, gd⟩ :: l) k R hs := by
  obtain ⟨b', o', cap', cs, fr, hv, rfl, hth, hle, hat, hget, hset⟩ := hown.spot hi
  injection hv with e1 e2 e3
  injection e1 with e1
  injection e1 with e1 e4
  subst e1; subst e4; subst ha
  have hl : ((ys.take m).flatMap encY).length = min ys.length m * sy := by
    rw [length_flatMap_enc (fun y hy => hrow.1 y (List.mem_of_mem_take hy)), List.length_take, Nat.min_comm]
  exact OT.copy_raw hT ht hg hx hy hp hrow (by omega) h1 hth hdn (h _ (hset rfl (by rw [hl]; omega) hz))
/-- an element of an own slice: its place told -/
theorem OT.index_own {x ix : Operand} {kk : IntKind} {i : Int} {v : Value} {xs : List α} {H : Chunk} (hT : T.ok X.P) (ht : ty T t = some (.slice e sz)) (hg : grd ops R gd = some true) (hx : ev R x = some v) (hix : ev R ix = some (.int kk i))
    (hown : Own enc sz e v xs H) (h0 : 0 ≤ i) (hi : i < xs.length) (hdn : Nat.ble (d + 1) X.n = true)
    (h : ∀ b o c, v = .slice (some ⟨b, o, none⟩) xs.length c → OT X ops l k ((d, .pointer (some ⟨b, o + i.toNat * sz, none⟩)) :: R) hs) : OT X ops (⟨some d, .indexAddr t x ix, ty', pos, after, gd⟩ :: l) k R hs := by
  obtain ⟨b, o, cap, cs, fr, hv, _⟩ := hown.over (by omega)
  exact OT.index_raw hT ht hg (hv ▸ hx) hix h0 hi hdn (h b o cap hv)
/-- an array in what lies at ad, loaded -/
theorem El.ld_part {P : Program} (hT : T.ok P) {x : α} {b o : Nat} (h : El enc sz hs x ⟨b, o, none⟩) {m e' s' : Nat} (ht : ty T t = some (.arr m e' s')) (j : Nat) {vs : List Value} (hv : ((enc x).drop j).take (m * s') = vs) (hj : j + m * s' ≤ sz) :
    Ld P hs t ⟨b, o + j, none⟩ (.agg ⟨vs⟩) := by
  obtain ⟨h1, b', o', cs, t', fr, ha, hb, hr⟩ := h
  injection ha with e1 e2
  subst e1; subst e2
  refine Ld.arr hT ht hb ?_ (by rw [← hv, List.length_take, List.length_drop]; omega)
  rw [← hv, ← hr, List.drop_take, List.drop_drop, List.take_take, Nat.min_eq_left (by omega)]
omit [Outer] in
theorem Row.of_none {n c : Nat} {xs : List α} (h : Row enc sz hs (.slice none n c) xs) : xs = [] := by
  rcases h.2 with ⟨_, h⟩ | ⟨_, _, _, _, _, _, hv, _⟩
  · exact h
  · cases hv
omit [Outer] in
/-- element i of an own slice, at its place -/
theorem Own.el_at {b o n c : Nat} {xs : List α} {H : Chunk} (h : Own enc sz e (.slice (some ⟨b, o, none⟩) n c) xs H) {i : Nat} {x : α} (hi : xs[i]? = some x) : El enc sz (H :: hs) x ⟨b, o + i * sz, none⟩ := by
  obtain ⟨b', o', cap', hv, hel⟩ := (h.row (hs := hs)).el hi
  injection hv with e1 e2 e3
  injection e1 with e1
  injection e1 with e1 e4
  subst e1; subst e4
  exact hel
omit [Outer] in
theorem Row.cap_le {a : Option Addr} {n c : Nat} {xs : List α} (h : Row enc sz hs (.slice a n c) xs) : xs.length ≤ c := by
  rcases h.2 with ⟨hv, rfl⟩ | ⟨b, o, cap, cs, t', fr, hv, hb, hc, hr⟩
  · simp
  · injection hv with e1 e2 e3; omega
omit [Outer] in
/-- a part of a row, its value told (OT.slice_val) -/
theorem Row.sub {a : Option Addr} {n c : Nat} {xs : List α} (h : Row enc sz hs (.slice a n c) xs) {L M : Nat} (h1 : L ≤ M) (h2 : M ≤ xs.length) :
    Row enc sz hs (.slice (if c = L then a else a.map (·.add (L * sz))) (M - L) (c - L)) ((xs.take M).drop L) := by
  have hlen : ((xs.take M).drop L).length = M - L := by simp; omega
  have hmem : ∀ y ∈ (xs.take M).drop L, (enc y).length = sz := fun y hy => h.1 y (List.mem_of_mem_take (List.mem_of_mem_drop hy))
  rcases h.2 with ⟨⟨_, hv⟩, rfl⟩ | ⟨b, o, cap, cs, t', fr, hv, hb, hc, hr⟩
  · injection hv with e1 e2 e3
    subst e1; subst e3
    simp at h2
    subst h2
    obtain rfl : L = 0 := by omega
    simpa using Row.none0 a
  · injection hv with e1 e2 e3
    subst e1; subst e3
    refine ⟨hmem, .inr ?_⟩
    by_cases hcl : c = L
    · have e1 : M - L = 0 := by omega
      have e0 : (xs.take M).drop L = [] := List.eq_nil_of_length_eq_zero (by rw [hlen, e1])
      exact ⟨b, o, c - L, cs, t', fr, by rw [if_pos hcl, e0, e1]; rfl, hb, by rw [e0]; simp, by rw [e0]; simp⟩
    · refine ⟨b, o + L * sz, c - L, cs, t', fr, by rw [if_neg hcl, hlen, Option.map_some, addr_add], hb, by rw [hlen]; omega, ?_⟩
      rw [hlen, ← flatMap_drop (fun y hy => h.1 y (List.mem_of_mem_take hy)), ← flatMap_take h.1, ← hr, List.take_take, Nat.min_eq_left (Nat.mul_le_mul_right _ h2), List.drop_take, List.drop_drop, Nat.sub_mul]
/-- x[L:H] of an own slice, in an open order -/
theorem Fl.slice {Cs : List Chunk} {x : Operand} {lo hi : Option Operand} {b o n c : Nat} {vl vh : Option Value} (L H : Nat) (hT : T.ok X.P) (ht : ty T t = some (.slice e sz)) (hx : ev R x = some (.slice (some ⟨b, o, none⟩) n c))
    (hlo : evo R lo = some vl) (hhi : evo R hi = some vh) (hL : bnd vl 0 L) (hH : bnd vh n H) (h1 : L ≤ H) (h2 : H ≤ c) (h3 : L < c) :
    Fl X T Cs R (.slice t x lo hi none) (.slice (some ⟨b, o + L * sz, none⟩) (H - L) (c - L)) := by
  refine .det fun op a w hop ha => ?_
  simp only [execOp, hop, ha.ev hx, ha.evo hlo, ha.evo hhi, Option.map_none]
  have := slice_run (hT.ty ht).1 (hT.ty ht).2.1 (some ⟨b, o, none⟩) n c vl vh L H hL hH h1 h2 w
  rw [if_neg (by omega), Option.map_some, addr_add] at this
  rw [Sem.run_bind, this]
  rfl
omit [Outer] in
theorem over_step {xs l : List α} {p : Nat} {c : α} (h : p + 1 + l.length ≤ xs.length) : (over xs (p + 1) l).set p c = over xs p (c :: l) := by
  unfold over
  rw [List.append_assoc, List.set_append_left _ _ (by rw [List.length_take]; omega), List.length_cons, show p + (l.length + 1) = p + 1 + l.length by omega]
  have : (xs.take (p + 1)).set p c = xs.take p ++ [c] := by
    rw [List.set_eq_take_append_cons_drop, if_pos (by rw [List.length_take]; omega), List.take_take, Nat.min_eq_left (by omega), List.drop_take]
    simp
  rw [this]
  simp
omit [Outer] in
theorem over_nil {xs : List α} {p : Nat} : over xs p [] = xs := by unfold over; simp
omit [Outer] in
theorem Own.sub_row {b o n c : Nat} {xs : List α} {H : Chunk} (h : Own enc sz e (.slice (some ⟨b, o, none⟩) n c) xs H) {L M : Nat} (h1 : L ≤ M) (h2 : M ≤ xs.length) (h3 : L < c) :
    Row enc sz (H :: hs) (.slice (some ⟨b, o + L * sz, none⟩) (M - L) (c - L)) ((xs.take M).drop L) := by
  have := (h.row (hs := hs)).sub h1 h2
  rw [if_neg (by omega), Option.map_some, addr_add] at this
  exact this
omit [Outer] in
theorem set_over {xs : List α} {p : Nat} {c : α} (h : p < xs.length) : xs.set p c = over xs p [c] := by
  have := over_step (xs := xs) (l := []) (p := p) (c := c) (by simp only [List.length_nil]; omega)
  rw [over_nil] at this
  exact this
omit [Outer] in
/-- an own slice, its front let go -/
theorem Own.drop {a : Option Addr} {n c : Nat} {xs : List α} {H : Chunk} (h : Own enc sz e (.slice a n c) xs H) {L : Nat} (hL : L ≤ xs.length) :
    Own enc sz e (.slice (if c = L then a else a.map (·.add (L * sz))) (n - L) (c - L)) (xs.drop L) H := by
  have hl' : ∀ x ∈ xs.drop L, (enc x).length = sz := fun x hx => h.1 x (List.mem_of_mem_drop hx)
  rcases h.2 with ⟨hv, hx, hH⟩ | ⟨b, cap, pre, sp, fr, hv, hH, hc, hsp, hth⟩
  · injection hv with e1 e2 e3
    subst e1; subst e2; subst e3; subst hx; subst hH
    have : L = 0 := by simpa using hL
    subst this
    exact ⟨by simp, .inl ⟨rfl, rfl, rfl⟩⟩
  · injection hv with e1 e2 e3
    subst e1; subst e2; subst e3; subst hH
    refine ⟨hl', .inr ?_⟩
    have hsplit : xs.flatMap enc = (xs.take L).flatMap enc ++ (xs.drop L).flatMap enc := by rw [← List.flatMap_append, List.take_append_drop]
    have htl : ((xs.take L).flatMap enc).length = L * sz := by rw [length_flatMap_enc (fun x hx => h.1 x (List.mem_of_mem_take hx)), List.length_take, Nat.min_eq_left hL]
    by_cases hcl : c = L
    · have hxl : xs.length = L := by omega
      have e0 : xs.drop L = [] := List.drop_eq_nil_of_le (by omega)
      refine ⟨b, c - L, pre, xs.flatMap enc ++ sp, fr, by rw [if_pos hcl, e0, hxl, Nat.sub_self]; rfl, by rw [e0]; simp, by rw [e0]; simp, by rw [e0, hcl]; simp, by rw [e0]; simpa using hth⟩
    · refine ⟨b, c - L, pre ++ (xs.take L).flatMap enc, sp, fr, ?_, ?_, by rw [List.length_drop]; omega, ?_, ?_⟩
      · rw [if_neg hcl, Option.map_some, addr_add, List.length_append, htl, List.length_drop]
      · rw [hsplit]; simp
      · rw [List.length_drop, show c - L - (xs.length - L) = c - xs.length by omega]; exact hsp
      · rw [hsplit] at hth; simpa using hth
/-- a chunk's blocks told otherwise -/
theorem Mem.swap {A B : Chunk} {r : List Chunk} {w : World} (hp : A.Perm B) (h : Pull hs A r) (hm : Mem hs w) : Mem (B :: r) w :=
  (hm.pull h).perm (by simp only [List.flatten_cons]; exact List.Perm.append_right _ hp)
theorem RT.swap {A B : Chunk} {r : List Chunk} (hp : A.Perm B) (h : Pull hs A r) (k : RT X R (B :: r)) : RT X R hs := fun a w ha hm => k a w ha (hm.swap hp h)
theorem TT.swap {A B : Chunk} {r : List Chunk} {c : Code} (hp : A.Perm B) (h : Pull hs A r) (hk : TT X c k R (B :: r)) : TT X c k R hs := fun a w ha hm => hk a w ha (hm.swap hp h)
theorem KT.swap {A B : Chunk} {r : List Chunk} (hp : A.Perm B) (h : Pull hs A r) (hk : KT X k R (B :: r)) : KT X k R hs := fun a w ha hm => hk a w ha (hm.swap hp h)
theorem OT.swap {A B : Chunk} {r : List Chunk} (hp : A.Perm B) (h : Pull hs A r) (hk : OT X ops l k R (B :: r)) : OT X ops l k R hs := fun a w ha hm => hk a w ha (hm.swap hp h)
theorem RT.perm (hp : hs.flatten.Perm hs'.flatten) (h : RT X R hs') : RT X R hs := fun a w ha hm => h a w ha (hm.perm hp)
/-- []T{x0, x1, ..}, its block told -/
theorem OT.buildSlice_raw {parts : Array (Nat × Operand)} {n : Nat} {xos : List Operand} {vs : List Value} {xs : List α} (he : Elem X.P t e sz) (hparts : parts.toList = (xos.zipIdx).map fun p => (p.2, p.1)) (hg : grd ops R gd = some true) (hxs : evs R xos = some vs)
    (hn : vs.length = n) (hcells : vs.flatMap (·.cells.toList) = xs.flatMap enc) (hsz : ∀ v ∈ vs, v.cells.size = sz) (_henc : ∀ x ∈ xs, (enc x).length = sz) (_hxn : xs.length = n) (hbig : n * sz ≤ 16777216) (hdn : Nat.ble (d + 1) X.n = true)
    (h : ∀ b, OT X ops l k ((d, .slice (some ⟨b, 0, none⟩) n n) :: R) ([(b, blk (xs.flatMap enc) e (0, 0))] :: hs)) : OT X ops (⟨some d, .buildSlice t n parts, ty', pos, after, gd⟩ :: l) k R hs := by
  obtain ⟨z, hz, hzs⟩ := he.zero
  refine OT.value hg rfl hdn fun a w ha hm => ⟨.slice (some ⟨w.heap.size, 0, none⟩) n n, [(w.heap.size, blk (vs.flatMap (·.cells.toList)) e (0, 0))] :: hs, w.alloc (.cells ⟨vs.flatMap (·.cells.toList)⟩ e), ?_, hm.alloc _, by have := h w.heap.size; rw [← hcells] at this; exact this⟩
  have hxe := ha.evs hxs
  have hlen : xos.length = n := by rw [← hn, ← hxe]; simp
  have hpl : (parts.map fun (p : Nat × Operand) => (p.1, a.eval p.2)).toList = (vs.zipIdx).map fun p => (p.2, p.1) := by
    rw [Array.toList_map, hparts, ← hxe, List.zipIdx_map]
    simp [Function.comp_def]
  have hrun : (Instr.buildSlice t n (parts.map fun (p : Nat × Operand) => (p.1, a.eval p.2))).run X.P w = .ok (.slice (some ⟨w.heap.size, 0, none⟩) n n) (w.alloc (.cells ⟨vs.flatMap (·.cells.toList)⟩ e)) := by
    unfold Instr.buildSlice
    rw [Sem.run_bind, run_underlying he.und]
    simp only [Result.andThen_ok]
    rw [Sem.run_bind, he.size]
    simp only [Result.andThen_ok]
    have hlim : ¬ (n * sz > 2 ^ 24) := by
      have : (2 : Nat) ^ 24 = 16777216 := by decide
      omega
    simp only [hlim, if_false]
    have hfill : ∀ zc : Array Value, Instr.fill (fun i => some (i * sz, sz)) ((Array.range (n * sz)).map (zc[· % zc.size]!)) (parts.map fun (p : Nat × Operand) => (p.1, a.eval p.2)).toList = some ⟨vs.flatMap (·.cells.toList)⟩ := by
      intro zc
      have hfill := fill_seq (fun i => some (i * sz, sz)) vs 0 sz ((Array.range (n * sz)).map (zc[· % zc.size]!)).toList (fun _ _ _ => rfl) hsz (by simp [hn])
      rw [← hpl] at hfill
      simp only [Nat.zero_mul, List.take_zero, List.nil_append] at hfill
      exact hfill
    by_cases h0 : n * sz = 0
    · rw [if_pos h0, Sem.run_bind, Sem.run_pure]
      simp only [Result.andThen_ok, hfill]
      simp only [newRow, Sem.run_bind, run_newObj_alloc, Result.andThen_ok, Sem.run_pure]
    · rw [if_neg h0, Sem.run_bind, hz]
      simp only [Result.andThen_ok]
      rw [Sem.run_bind, Sem.run_pure]
      simp only [Result.andThen_ok, hfill]
      simp only [newRow, Sem.run_bind, run_newObj_alloc, Result.andThen_ok, Sem.run_pure]
  simp only [execOp]
  have e2 : (parts.map fun x => match x with | (i, x) => (i, a.eval x)) = (parts.map fun (p : Nat × Operand) => (p.1, a.eval p.2)) := rfl
  rw [e2, Sem.run_bind, hrun]
  rfl
/-- a slice of bytes as one of the same type: its block is marked -/
theorem OT.conv_same {x : Operand} {b o n c : Nat} {cs : List Value} {r : List Chunk} (hT : T.ok X.P) (ht : ty T t = some (.slice e 1)) (he : ty T e = some (.one (.int .u8))) (hg : grd ops R gd = some true) (hx : ev R x = some (.slice (some ⟨b, o, none⟩) n c))
    (hp : Pull hs [(b, blk cs e (0, 0))] r) (hdn : Nat.ble (d + 1) X.n = true)
    (h : OT X ops l k ((d, .slice (some ⟨b, o, none⟩) n c) :: R) ([(b, blk cs e (cs.length, cs.length + 1))] :: r)) : OT X ops (⟨some d, .convert t t x, ty', pos, after, gd⟩ :: l) k R hs := by
  refine OT.value hg rfl hdn fun a w ha hm => ?_
  have hm := hm.pull hp
  have hb := hm.heap (b := b) (o := blk cs e (0, 0)) Has.one
  have hs' : w.shape? b = some (e, cs.length) := by unfold World.shape?; rw [hb]; simp
  refine ⟨_, _, w.freeze ⟨b, cs.length, none⟩ 1, ?_, ?_, h⟩
  · simp only [execOp, ha.ev hx]
    rw [Sem.run_bind]
    have : (convert t t (.slice (some ⟨b, o, none⟩) n c)).run X.P w = .ok (.slice (some ⟨b, o, none⟩) n c) (w.freeze ⟨b, cs.length, none⟩ 1) := by
      unfold convert
      rw [Sem.run_bind, run_underlying (hT.ty ht).1]
      simp only [Result.andThen_ok]
      rw [Sem.run_bind, run_underlying (hT.ty ht).1]
      simp only [Result.andThen_ok]
      rw [Sem.run_bind, run_underlying (hT.ty he).1]
      simp only [Result.andThen_ok, beq_self_eq_true]
      rw [Sem.run_bind]
      have hmk : (markStringish ⟨b, o, none⟩).run X.P w = .ok () (w.freeze ⟨b, cs.length, none⟩ 1) := by
        unfold markStringish shape
        simp only [Sem.run_bind]
        simp [Sem.run, hs', freeze]
      rw [hmk]
      rfl
    rw [this]
    rfl
  · refine hm.write ?_ ?_ ⟨rfl, rfl⟩
    · simp only [World.freeze]
      simp [Array.getElem?_modify, hb]
    · intro c' hc'
      simp only [World.freeze]
      rw [if_neg (by omega), Array.getElem?_modify, if_neg (fun e => hc' e.symm)]
omit [Outer] in
theorem Own.marked {b n : Nat} {xs : List α} (henc : ∀ x ∈ xs, (enc x).length = sz) (hn : xs.length = n) : Own enc sz e (.slice (some ⟨b, 0, none⟩) n n) xs [(b, blk (xs.flatMap enc) e ((xs.flatMap enc).length, (xs.flatMap enc).length + 1))] := by
  subst hn
  exact ⟨henc, .inr ⟨b, xs.length, [], [], ((xs.flatMap enc).length, (xs.flatMap enc).length + 1), rfl, by rw [List.nil_append, List.append_nil], Nat.le_refl _, by rw [Nat.sub_self]; simp, .inr (by rw [List.nil_append, List.append_nil]; exact Nat.le_refl _)⟩⟩
end
end Go.Sx
end

section
namespace Go.Sx
open Go
section
variable [Outer] {X : Cx} {k : Kont} {R : Reg} {hs : List Chunk} {ops : Array Oper} {l : List Oper} {T : Tab} {d ty' : Nat} {pos : String} {after : Array Edge} {gd : Option (Nat × Bool)}
  {α : Type} {enc : α → List Value} {e t : Nat}
/-- make([]T, 0, n), T of one cell: an own slice of none, with room -/
theorem OT.makeCap {zv : Value} {z0 : α} {x y : Operand} {kx ky : IntKind} {n : Nat} (he : Elem X.P t e 1) (hz0 : ∀ w, (zeroValue e).run X.P w = .ok zv w) (hzc : zv.cells = #[zv]) (henc : enc z0 = [zv])
    (hg : grd ops R gd = some true) (hx : ev R x = some (.int kx 0)) (hy : ev R y = some (.int ky n)) (hn : n ≤ 4294967296) (hdn : Nat.ble (d + 1) X.n = true)
    (h : ∀ a H', Own enc 1 e (.slice a 0 n) [] H' → OT X ops l k ((d, .slice a 0 n) :: R) (H' :: hs)) : OT X ops (⟨some d, .makeSlice t x y, ty', pos, after, gd⟩ :: l) k R hs := by
  obtain ⟨ti, hti, hb1, hb2⟩ := he.info
  refine OT.value hg rfl hdn fun a w ha hm => ?_
  have hwrap : IntKind.i64.wrap (n : Int) = (n : Int) := IntWalk.i64_in _ (by omega)
  have hwrap0 : IntKind.i64.wrap 0 = 0 := by decide
  have hbig : ¬ (ti.bytes * (n : Int) > 2 ^ 48) := by
    have h1 : ti.bytes * n ≤ 4096 * 4294967296 := Nat.mul_le_mul hb2 hn
    have : (2 : Int) ^ 48 = 281474976710656 := by decide
    rw [this]
    have h2 : ((ti.bytes * n : Nat) : Int) ≤ 17592186044416 := by omega
    rw [Int.natCast_mul] at h2
    omega
  have hroomrun : ∀ n (w : World), (askRoom n).run X.P w = .ok () w := by intro n w; unfold askRoom; split <;> rfl
  have hcells : ∀ m : Nat, ((Array.range m).map ((#[zv] : Array Value)[· % (#[zv] : Array Value).size]!)) = ⟨List.replicate m zv⟩ := by
    intro m
    apply Array.ext'
    simp only [Array.toList_map, Array.toList_range]
    apply List.ext_getElem
    · simp
    · intro i h1 h2
      simp [Nat.mod_one]
  have hrun : (Instr.makeSlice t (.int kx 0) (.int ky n)).run X.P w = .ok (.slice (some ⟨w.heap.size, 0, none⟩) 0 n) (w.alloc (.cells ⟨List.replicate n zv⟩ e)) := by
    unfold Instr.makeSlice
    rw [Sem.run_bind, run_underlying he.und]
    simp only [Result.andThen_ok, asInt, asIntOf, Sem.run_bind, Sem.run_pure, hti, hwrap, hwrap0]
    have h1 : (decide ((n : Int) < 0) || decide (ti.bytes * (n : Int) > 2 ^ 48) || decide ((0 : Int) < 0) || decide ((0 : Int) > n)) = false := by
      simp only [Bool.or_eq_false_iff, decide_eq_false_iff_not]
      exact ⟨⟨⟨by omega, hbig⟩, by omega⟩, by omega⟩
    rw [h1]
    simp only [Bool.false_eq_true, if_false, Sem.run_bind, hroomrun, Result.andThen_ok, he.size, Int.toNat_natCast, Nat.mul_one]
    split
    · rename_i h0
      subst h0
      simp only [newRow, Sem.run_pure, Result.andThen_ok, Sem.run_bind, run_newObj_alloc]
      congr 3
      apply Array.ext'
      simp
    · simp only [Sem.run_bind, hz0, Result.andThen_ok, Sem.run_pure, hzc, newRow, run_newObj_alloc, hcells]
      rfl
  refine ⟨.slice (some ⟨w.heap.size, 0, none⟩) 0 n, [(w.heap.size, blk (List.replicate n zv) e (0, 0))] :: hs, w.alloc (.cells ⟨List.replicate n zv⟩ e), ?_, hm.alloc _, h _ _ ⟨by simp, .inr ⟨w.heap.size, n, [], List.replicate n zv, (0, 0), rfl, by simp, by simp, by simp, .inl (Nat.le_refl _)⟩⟩⟩
  · simp only [execOp, ha.ev hx, ha.ev hy]
    rw [Sem.run_bind, hrun]
    rfl
end
end Go.Sx
end

section
namespace Go.Sx
open Go
section
variable [Outer] {X : Cx} {k : Kont} {R : Reg} {hs : List Chunk} {ops : Array Oper} {l : List Oper} {T : Tab} {d ty' : Nat} {pos : String} {after : Array Edge} {gd : Option (Nat × Bool)} {enc : UInt8 → List Value} {e t : Nat}
omit [Outer] in
theorem str_first {P : Program} (henc : ∀ c, enc c = [.int .u8 c.toNat]) (s : ByteArray) (w : World) : (Builtin.firstCells 1 s.data.toList.length (.string s)).run P w = .ok ⟨s.data.toList.flatMap enc⟩ w := by
  show Result.ok _ w = _
  congr 1
  apply Array.ext'
  have e1 : (s.extract 0 s.data.toList.length) = s := by
    have : s.data.toList.length = s.size := Array.length_toList
    rw [this, ByteArray.extract_zero_size]
  rw [e1]
  simp only [Array.toList_map]
  have : enc = fun c => [Value.int .u8 c.toNat] := funext henc
  rw [this]
  induction s.data.toList with
  | nil => rfl
  | cons c l ih => simp [ih]
/-- copy a string into an own slice of bytes, from its element j on -/
theorem OT.copy_str {x y : Operand} {t2 b o m cap n c : Nat} {s : ByteArray} {xs : List UInt8} {H : Chunk} {r : List Chunk} (henc : ∀ c, enc c = [.int .u8 c.toNat]) (j : Nat) (hT : T.ok X.P) (ht : ty T t = some (.slice e 1)) (hg : grd ops R gd = some true)
    (hx : ev R x = some (.slice (some ⟨b, o + j * 1, none⟩) m cap)) (hy : ev R y = some (.string s)) (hp : Pull hs H r) (hown : Own enc 1 e (.slice (some ⟨b, o, none⟩) n c) xs H) (hsm : s.data.toList.length ≤ m) (hj : j + s.data.toList.length ≤ xs.length) (hn : 0 < xs.length)
    (hdn : Nat.ble (d + 1) X.n = true)
    (h : ∀ H', Own enc 1 e (.slice (some ⟨b, o, none⟩) n c) (over xs j s.data.toList) H' → OT X ops l k ((d, .int .i64 (s.data.toList.length : Nat)) :: R) (H' :: r)) : OT X ops (⟨some d, .call ⟨.builtin .copy, #[x, y], #[t, t2]⟩, ty', pos, after, gd⟩ :: l) k R hs := by
  obtain ⟨b', o', cap', cs, fr, hv, rfl, hth, hle, hat, hc, hset⟩ := hown.over hn
  injection hv with e1 e2 e3
  injection e1 with e1
  injection e1 with e1 e4
  subst e1; subst e4
  have h1 : ones (s.data.toList.flatMap enc) = true := bytes_ones henc _
  have hlen : (s.data.toList.flatMap enc).length = s.data.toList.length := by
    have : enc = fun c => [Value.int .u8 c.toNat] := funext henc
    rw [this]
    induction s.data.toList with
    | nil => rfl
    | cons c l ih => simp [ih]
  have hsz : s.data.toList.length = s.size := Array.length_toList
  refine OT.value hg rfl hdn fun a w ha hm => ?_
  obtain ⟨w', hr, hm'⟩ := (hm.pull hp).storeCells (P := X.P) (o := o + j * 1) (s.data.toList.flatMap enc) 0 (by omega) h1 hth
  refine ⟨_, _, w', exec_copy (v' := .int .i64 (s.data.toList.length : Nat)) (ha.ev hx) (ha.ev hy) (some d) t t2 ?_, hm', ?_⟩
  · unfold Builtin.copy_
    simp only [List.getElem?_toArray, List.getElem?_cons_zero, List.getElem?_cons_succ]
    rw [Sem.run_bind, run_underlying (hT.ty ht).1]
    simp only [Result.andThen_ok]
    rw [Sem.run_bind]
    show Result.andThen (Result.ok s.size w) _ = _
    simp only [Result.andThen_ok]
    rw [Sem.run_bind, (hT.ty ht).2.1]
    simp only [Result.andThen_ok]
    rw [Sem.run_bind, show Nat.min s.size m = s.data.toList.length from by rw [← hsz]; exact Nat.min_eq_left hsm, str_first henc]
    simp only [Result.andThen_ok]
    rw [Sem.run_bind, hr]
    rfl
  · have := hset j s.data.toList hj (fun y _ => by rw [henc]; rfl)
    exact h _ this
/-- a register's value in other words, in a statement whose order is open -/
theorem AT.reg {Cs : List Chunk} {fuel : Nat} {listed : List Bool} (t : Nat) {u v : Value} (hu : look R t = some u) (e : u = v) (h : AT X ops Cs k fuel listed ((t, v) :: R) hs) : AT X ops Cs k fuel listed R hs :=
  fun a w ha hm => h a w ⟨ha.size, ha.defers, fun x y hl => by
    rw [look_cons] at hl
    by_cases e' : t = x
    · subst e'; rw [if_pos rfl] at hl; obtain rfl := Option.some.inj hl; rw [← e]; exact ha.regs _ _ hu
    · rw [if_neg e'] at hl; exact ha.regs x y hl⟩ hm
end
end Go.Sx
end
