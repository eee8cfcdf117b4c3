/- Slices that grow: append, make; slices written out. No program in sight. -/
import Derived.Test.YtoalhcodigpgkaaSxD
namespace Go.Sx
open Go
variable [Outer]

omit [Outer] in
theorem growBy_le (m : Nat) : ∀ r c : Nat, c < m → Builtin.growBy m r c ≤ 2 * m + 192 := by
  intro r
  induction r with
  | zero => intro c h; simp only [Builtin.growBy]; omega
  | succ r ih =>
    intro c h
    simp only [Builtin.growBy]
    split
    · omega
    · by_cases h2 : c + (c + 768) / 4 < m
      · exact ih _ h2
      · cases r with
        | zero => simp only [Builtin.growBy]; omega
        | succ r => simp only [Builtin.growBy]; rw [if_pos (by omega)]; omega
omit [Outer] in
theorem nextcap_le {m c : Nat} (h : c < m) : Builtin.nextslicecap m c ≤ 2 * m + 512 := by
  unfold Builtin.nextslicecap
  split
  · omega
  · split
    · omega
    · have := growBy_le m 4 c h; omega

section
variable {X : Cx} {k : Kont} {R : Reg} {hs : List Chunk} {ops : Array Oper} {l : List Oper} {T : Tab} {d ty' : Nat} {pos : String} {after : Array Edge} {gd : Option (Nat × Bool)}
  {α : Type} {enc : α → List Value} {sz e t : Nat}

theorem Row.first {P : Program} {v : Value} {ys : List α} (h : Row enc sz hs v ys) {w : World} (hm : Mem hs w) : (Builtin.firstCells sz ys.length v).run P w = .ok ⟨ys.flatMap enc⟩ w := by
  rcases h.2 with ⟨rfl, rfl⟩ | ⟨b, o, cap, cs, t', fr, rfl, hb, hc, hr⟩
  · simp [Builtin.firstCells]
  · exact hm.loadCells hb hr (length_flatMap_enc h.1)

/-- append's one half: there is room; its other half: a new array -/
theorem append_tail {P : Program} (he : Elem P t e sz) {v : Value} {xs : List α} {H : Chunk} {r : List Chunk} (hown : Own enc sz e v xs H) {w : World} (hm : Mem (H :: r) w) (ys : List α)
    (hys : ∀ y ∈ ys, (enc y).length = sz) (hones : ones (ys.flatMap enc) = true) (hb : xs.length + ys.length ≤ 4294967296) {src : Sem (Array Value)} {zeros : Bool}
    (hsrc : ∀ w', Mem (H :: r) w' → src.run P w' = .ok ⟨ys.flatMap enc⟩ w') {a : Option Addr} {n cap : Nat} (hv : v = .slice a n cap) (share : Sem Bool) :
    ∃ v' H' w', (if n + ys.length ≤ cap then (do
        let new ← src
        if let some a := a then storeCells (a.add (n * sz)) new.toList
        pure (Value.slice a (n + ys.length) cap) : Sem Value)
      else do
        if ((n + ys.length : Nat) : Int) > IntKind.i64.max ∧ (zeros ∨ (← typeInfo e).bytes = 0) then runtimePanic (.error "growslice: len out of range")
        if Builtin.nextslicecap (n + ys.length) cap * (← typeInfo e).bytes > 2 ^ 48 then (if zeros then runtimePanic (.error "growslice: len out of range") else do
          if !(← share) then mark .noRoom
          unsupported (.resourceLimit "append: a slice or a string whose bytes no memory bears"))
        let newCap ← choose (.appendCap (n + ys.length) cap e)
        askRoom (newCap * (← typeInfo e).bytes)
        let old ← Builtin.firstCells sz n v
        let new ← src
        let rest := Builtin.zeroCells (← zeroValue e).cells (newCap - (n + ys.length))
        pure (.slice (some (← newRow e (old ++ new ++ rest))) (n + ys.length) newCap)).run P w = .ok v' w' ∧ Own enc sz e v' (xs ++ ys) H' ∧ Mem (H' :: r) w' ∧ (n + ys.length ≤ cap → v' = .slice a (n + ys.length) cap) := by
  obtain ⟨ti, hti, hb1, hb2⟩ := he.info
  obtain ⟨z, hz, hzs⟩ := he.zero
  have hlen : v = .slice a n cap → n = xs.length := by
    intro h
    obtain ⟨a', c', h'⟩ := (hown.row (hs := r)).len
    rw [h'] at h
    injection h with _ h _
    exact h.symm
  obtain rfl := hlen hv
  have hall : ∀ y ∈ xs ++ ys, (enc y).length = sz := by
    intro y hy
    rcases List.mem_append.1 hy with hy | hy
    · exact hown.1 y hy
    · exact hys y hy
  by_cases hroom : xs.length + ys.length ≤ cap
  · rw [if_pos hroom]
    rcases hown.2 with ⟨hn, hx, hH⟩ | ⟨b, cap', pre, sp, fr, hv', hH, hc, hsp, hth⟩
    · rw [hn] at hv
      injection hv with e1 e2 e3
      subst e1; subst e3
      have hy0 : ys = [] := List.eq_nil_of_length_eq_zero (by omega)
      subst hy0; subst hx
      refine ⟨.slice none 0 0, [], w, ?_, by simpa using Own.nil, by rw [hH] at hm; exact hm, fun _ => rfl⟩
      rw [Sem.run_bind, hsrc w hm]
      rfl
    · rw [hv'] at hv
      injection hv with e1 e2 e3
      subst e1; subst e3
      subst hH
      have hl1 : (ys.flatMap enc).length = ys.length * sz := length_flatMap_enc hys
      have hl0 : (xs.flatMap enc).length = xs.length * sz := length_flatMap_enc hown.1
      have hfit : ys.length * sz ≤ sp.length := Nat.le_trans (Nat.mul_le_mul_right _ (by omega)) hsp
      obtain ⟨w', hr, hm'⟩ := hm.storeCells (P := P) (o := pre.length + xs.length * sz) (ys.flatMap enc) 0 (by simp [hl1, hl0]; omega) hones hth
      have hsplice : splice (pre ++ xs.flatMap enc ++ sp) (pre.length + xs.length * sz + 0) (ys.flatMap enc) = pre ++ (xs ++ ys).flatMap enc ++ sp.drop (ys.length * sz) := by
        simp only [splice, Nat.add_zero]
        rw [hl1, ← hl0, ← List.length_append, List.take_left, ← List.drop_drop, List.drop_left]
        simp
      rw [hsplice] at hm'
      refine ⟨.slice (some ⟨b, pre.length, none⟩) (xs.length + ys.length) cap', _, w', ?_, ⟨hall, .inr ⟨b, cap', pre, sp.drop (ys.length * sz), fr, by simp, rfl, by simpa using hroom, ?_, ?_⟩⟩, hm', fun _ => rfl⟩
      · rw [Sem.run_bind, hsrc w hm]
        simp only [Result.andThen_ok, addr_add]
        rw [Sem.run_bind, hr]
        rfl
      · simp only [List.length_append, List.length_drop]
        rw [show cap' - (xs.length + ys.length) = (cap' - xs.length) - ys.length from by omega, Nat.sub_mul]
        omega
      · refine hth.imp id (fun h => ?_)
        simp only [List.length_append, hl0, List.length_drop, List.flatMap_append, hl1] at h ⊢
        omega
  · rw [if_neg hroom]
    have hc : cap < xs.length + ys.length := by omega
    have hnx := nextcap_le hc
    have hbig : ¬ (((xs.length + ys.length : Nat) : Int) > IntKind.i64.max) := by
      have : IntKind.i64.max = 9223372036854775807 := by decide
      rw [this]; omega
    have h48 : ¬ (Builtin.nextslicecap (xs.length + ys.length) cap * ti.bytes > 2 ^ 48) := by
      have h1 : Builtin.nextslicecap (xs.length + ys.length) cap * ti.bytes ≤ 8589935104 * 4096 := Nat.mul_le_mul (by omega) hb2
      have : (2 : Nat) ^ 48 = 281474976710656 := by decide
      omega
    have hq : (Question.appendCap (xs.length + ys.length) cap e).forced = false := rfl
    generalize hnc : (Question.appendCap (xs.length + ys.length) cap e).cut (w.tape w.drawn (.appendCap (xs.length + ys.length) cap e)) = nc
    have hncge : xs.length + ys.length ≤ nc := by rw [← hnc]; simp only [Question.cut]; omega
    have hm1 : Mem (H :: r) { w with drawn := w.drawn + 1 } := hm.drewN
    have hfirst := hown.row (hs := r)
    have hf := hfirst.first (P := P) hm1
    have hs2 := hsrc _ hm1
    generalize hrest : Builtin.zeroCells z.cells (nc - (xs.length + ys.length)) = rest
    have hrs : rest.toList.length = (nc - (xs.length + ys.length)) * sz := by
      rw [← hrest]; simp [Builtin.zeroCells, hzs]
    refine ⟨.slice (some ⟨w.heap.size, 0, none⟩) (xs.length + ys.length) nc, [(w.heap.size, blk ([] ++ (xs ++ ys).flatMap enc ++ rest.toList) e (0, 0))],
      ({ w with drawn := w.drawn + 1 } : World).alloc (.cells (⟨xs.flatMap enc⟩ ++ ⟨ys.flatMap enc⟩ ++ rest) e), ?_, ⟨hall, .inr ⟨w.heap.size, nc, [], rest.toList, (0, 0), by simp, rfl, by simpa using hncge, ?_, .inl (Nat.le_refl _)⟩⟩, ?_, fun h => (hroom h).elim⟩
    · have hroomrun : ∀ n (w : World), (askRoom n).run P w = .ok () w := by intro n w; unfold askRoom; split <;> rfl
      simp only [Sem.run_bind, hti, Result.andThen_ok, hbig, h48, false_and, if_false]
      simp only [Sem.run_pure, run_choose_drew, hq, hnc]
      simp only [Bool.false_eq_true, if_false, Result.andThen_ok, hroomrun]
      have hwd : w.drew = { w with drawn := w.drawn + 1 } := rfl
      rw [hwd, hf]
      simp only [Result.andThen_ok, hs2, hz, hrest]
      simp only [newRow, Sem.run_bind, run_newObj_alloc, Result.andThen_ok, Sem.run_pure]
    · rw [hrs]; simp
    · have := (hm.drewN).drop.alloc (.cells (⟨xs.flatMap enc⟩ ++ ⟨ys.flatMap enc⟩ ++ rest) e)
      have e1 : (Obj.cells (⟨xs.flatMap enc⟩ ++ ⟨ys.flatMap enc⟩ ++ rest) e : Obj) = blk ([] ++ (xs ++ ys).flatMap enc ++ rest.toList) e (0, 0) := by
        simp only [blk]
        congr 1
        apply Array.ext'
        simp
      rw [e1] at this ⊢
      exact this

theorem append_row {P : Program} (he : Elem P t e sz) {t2 : Nat} {u2 : TypeDesc} (ht2 : P.underlying t2 = some u2) (hu2 : ∀ kk, u2 ≠ .int kk) {v u : Value} {xs ys : List α} {H : Chunk} {r : List Chunk}
    (hown : Own enc sz e v xs H) (hrow : Row enc sz (H :: r) u ys) (hones : ones (ys.flatMap enc) = true) (hb : xs.length + ys.length ≤ 4294967296) {w : World} (hm : Mem (H :: r) w) (ty : Nat) :
    ∃ v' H' w', (Builtin.append_ #[t, t2] ty #[v, u]).run P w = .ok v' w' ∧ Own enc sz e v' (xs ++ ys) H' ∧ Mem (H' :: r) w' ∧ (∀ a c, v = .slice a xs.length c → xs.length + ys.length ≤ c → v' = .slice a (xs.length + ys.length) c) := by
  obtain ⟨a, cap, hv⟩ := (hown.row (hs := r)).len
  obtain ⟨a2, c2, hu⟩ := hrow.len
  obtain ⟨v', H', w', hr, ho, hm', hrm⟩ := append_tail (P := P) he hown hm ys hrow.1 hones hb (src := Builtin.firstCells sz ys.length u) (zeros := false) (fun w' hw' => hrow.first hw') hv (Builtin.mayShare sz xs.length ys.length a u)
  refine ⟨v', H', w', ?_, ho, hm', fun a1 c1 h1 h2 => by rw [hv] at h1; injection h1 with e1 _ e3; subst e1; subst e3; exact hrm h2⟩
  rw [← hr]
  have h2 : Sem.run P (Builtin.lenOf u) w = .ok ys.length w := by rw [hu]; rfl
  have h3 : Sem.run P (Builtin.append_ #[t, t2] ty #[v, u]) w = Sem.run P (do
      let n ← Builtin.lenOf u
      let need := xs.length + n
      if need ≤ cap then do
        let new ← Builtin.firstCells sz n u
        if let some a := a then storeCells (a.add (xs.length * sz)) new.toList
        pure (Value.slice a need cap)
      else do
        if (need : Int) > IntKind.i64.max ∧ ((false : Bool) ∨ (← typeInfo e).bytes = 0) then runtimePanic (.error "growslice: len out of range")
        if Builtin.nextslicecap need cap * (← typeInfo e).bytes > 2 ^ 48 then (if (false : Bool) then runtimePanic (.error "growslice: len out of range") else do
          if !(← Builtin.mayShare sz xs.length n a u) then mark .noRoom
          unsupported (.resourceLimit "append: a slice or a string whose bytes no memory bears"))
        let newCap ← choose (.appendCap need cap e)
        askRoom (newCap * (← typeInfo e).bytes)
        let old ← Builtin.firstCells sz xs.length v
        let new ← Builtin.firstCells sz n u
        let rest := Builtin.zeroCells (← zeroValue e).cells (newCap - need)
        pure (.slice (some (← newRow e (old ++ new ++ rest))) need newCap) : Sem Value) w := by
    unfold Builtin.append_
    subst hv
    simp only [List.getElem?_toArray, List.getElem?_cons_zero, List.getElem?_cons_succ]
    rw [Sem.run_bind, run_underlying he.und]
    simp only [Result.andThen_ok]
    rw [Sem.run_bind, he.size]
    simp only [Result.andThen_ok]
    rw [Sem.run_bind, run_underlying ht2]
    cases u2
    case int kk => exact (hu2 kk rfl).elim
    all_goals rfl
  rw [h3, Sem.run_bind, h2]
  rfl

theorem append_str {P : Program} {enc : UInt8 → List Value} {sz : Nat} (henc : ∀ c, enc c = [.int .u8 c.toNat]) (he : Elem P t e sz) (hsz : sz = 1) {t2 : Nat} (ht2 : P.underlying t2 = some .string) {v : Value} {xs : List UInt8} {s : ByteArray} {H : Chunk} {r : List Chunk}
    (hown : Own enc sz e v xs H) (hb : xs.length + s.data.toList.length ≤ 4294967296) {w : World} (hm : Mem (H :: r) w) (ty : Nat) :
    ∃ v' H' w', (Builtin.append_ #[t, t2] ty #[v, .string s]).run P w = .ok v' w' ∧ Own enc sz e v' (xs ++ s.data.toList) H' ∧ Mem (H' :: r) w' := by
  subst hsz
  obtain ⟨a, cap, hv⟩ := (hown.row (hs := r)).len
  have hsrc : ∀ w', Mem (H :: r) w' → (Builtin.firstCells 1 s.data.toList.length (.string s)).run P w' = .ok ⟨s.data.toList.flatMap enc⟩ w' := by
    intro w' _
    show Result.ok _ w' = _
    congr 1
    apply Array.ext'
    have e1 : (s.extract 0 s.data.toList.length) = s := by
      have : s.data.toList.length = s.size := Array.length_toList
      rw [this, ByteArray.extract_zero_size]
    rw [e1]
    simp only [Array.toList_map]
    have : enc = fun c => [Value.int .u8 c.toNat] := funext henc
    rw [this]
    induction s.data.toList with
    | nil => rfl
    | cons c l ih => simp [ih]
  obtain ⟨v', H', w', hr, ho, hm', _⟩ := append_tail (P := P) he hown hm s.data.toList (fun c _ => by rw [henc]; rfl) (by
    have : enc = fun c => [Value.int .u8 c.toNat] := funext henc
    rw [this]
    unfold ones
    induction s.data.toList with
    | nil => rfl
    | cons c l ih => simp [oneC]) hb (src := Builtin.firstCells 1 s.data.toList.length (.string s)) (zeros := false) hsrc hv (Builtin.mayShare 1 xs.length s.data.toList.length a (.string s))
  refine ⟨v', H', w', ?_, ho, hm'⟩
  rw [← hr]
  have h2 : Sem.run P (Builtin.lenOf (.string s)) w = .ok s.data.toList.length w := by
    have : s.data.toList.length = s.size := Array.length_toList
    rw [this]; rfl
  have h3 : Sem.run P (Builtin.append_ #[t, t2] ty #[v, .string s]) w = Sem.run P (do
      let n ← Builtin.lenOf (.string s)
      let need := xs.length + n
      if need ≤ cap then do
        let new ← Builtin.firstCells 1 n (.string s)
        if let some a := a then storeCells (a.add (xs.length * 1)) new.toList
        pure (Value.slice a need cap)
      else do
        if (need : Int) > IntKind.i64.max ∧ ((false : Bool) ∨ (← typeInfo e).bytes = 0) then runtimePanic (.error "growslice: len out of range")
        if Builtin.nextslicecap need cap * (← typeInfo e).bytes > 2 ^ 48 then (if (false : Bool) then runtimePanic (.error "growslice: len out of range") else do
          if !(← Builtin.mayShare 1 xs.length n a (.string s)) then mark .noRoom
          unsupported (.resourceLimit "append: a slice or a string whose bytes no memory bears"))
        let newCap ← choose (.appendCap need cap e)
        askRoom (newCap * (← typeInfo e).bytes)
        let old ← Builtin.firstCells 1 xs.length v
        let new ← Builtin.firstCells 1 n (.string s)
        let rest := Builtin.zeroCells (← zeroValue e).cells (newCap - need)
        pure (.slice (some (← newRow e (old ++ new ++ rest))) need newCap) : Sem Value) w := by
    unfold Builtin.append_
    subst hv
    simp only [List.getElem?_toArray, List.getElem?_cons_zero, List.getElem?_cons_succ]
    rw [Sem.run_bind, run_underlying he.und]
    simp only [Result.andThen_ok]
    rw [Sem.run_bind, he.size]
    simp only [Result.andThen_ok]
    rw [Sem.run_bind, run_underlying ht2]
    rfl
  rw [h3, Sem.run_bind, h2]
  rfl

omit [Outer] in
theorem zeroCells_one (zv : Value) (m : Nat) : (Builtin.zeroCells #[zv] m).toList = List.replicate m zv := by
  apply List.ext_getElem
  · simp [Builtin.zeroCells]
  · intro i h1 h2
    simp [Builtin.zeroCells, Nat.mod_one]
omit [Outer] in
theorem flatMap_replicate_one {z0 : α} {zv : Value} (h : enc z0 = [zv]) (m : Nat) : (List.replicate m z0).flatMap enc = List.replicate m zv := by
  induction m with
  | zero => rfl
  | succ m ih => rw [List.replicate_succ, List.flatMap_cons, ih, h]; rfl
/-- append(v, make([]T, n)...), T of one cell -/
theorem append_zeros {P : Program} (he : Elem P t e 1) {z0 : α} {zv : Value} (hz0 : ∀ w, (zeroValue e).run P w = .ok zv w) (hzc : zv.cells = #[zv]) (henc : enc z0 = [zv]) (h1 : oneC zv = true) {t2 : Nat} {kk : IntKind} (ht2 : P.underlying t2 = some (.int kk)) {v : Value} {xs : List α} {m : Nat} {kv : IntKind} {H : Chunk} {r : List Chunk}
    (hown : Own enc 1 e v xs H) (hb : xs.length + m ≤ 4294967296) {w : World} (hm : Mem (H :: r) w) (ty : Nat) :
    ∃ v' H' w', (Builtin.append_ #[t, t2] ty #[v, .int kv m]).run P w = .ok v' w' ∧ Own enc 1 e v' (xs ++ List.replicate m z0) H' ∧ Mem (H' :: r) w' := by
  obtain ⟨a, cap, hv⟩ := (hown.row (hs := r)).len
  obtain ⟨ti, hti, hb1, hb2⟩ := he.info
  have hsrc : ∀ w', Mem (H :: r) w' → (if m * 1 = 0 then pure #[] else do pure (Builtin.zeroCells (← zeroValue e).cells m) : Sem (Array Value)).run P w' = .ok ⟨(List.replicate m z0).flatMap enc⟩ w' := by
    intro w' _
    rw [flatMap_replicate_one henc]
    split
    · rename_i h0
      have : m = 0 := by omega
      subst this
      rfl
    · rw [Sem.run_bind, hz0 w']
      show Result.ok _ w' = _
      congr 1
      apply Array.ext'
      rw [hzc, zeroCells_one]
  obtain ⟨v', H', w', hr, ho, hm', _⟩ := append_tail (P := P) he hown hm (List.replicate m z0) (fun y hy => by rw [List.eq_of_mem_replicate hy, henc]; rfl) (by
    rw [flatMap_replicate_one henc]
    unfold ones
    rw [List.all_eq_true]
    intro x hx
    rw [List.eq_of_mem_replicate hx]
    exact h1) (by simpa using hb) (zeros := true) hsrc hv (Builtin.mayShare 1 xs.length m a (.int kv m))
  refine ⟨v', H', w', ?_, ho, hm'⟩
  have hwrap : IntKind.i64.wrap (m : Int) = (m : Int) := IntWalk.i64_in _ (by omega)
  have hneg : ¬ ((m : Int) < 0) := by omega
  have hbig : ¬ ((m : Int) * ti.bytes > 2 ^ 48) := by
    have h1 : m * ti.bytes ≤ 4294967296 * 4096 := Nat.mul_le_mul (by omega) hb2
    have : (2 : Int) ^ 48 = 281474976710656 := by decide
    rw [this]
    have h2 : ((m * ti.bytes : Nat) : Int) ≤ 17592186044416 := by omega
    rw [Int.natCast_mul] at h2
    omega
  unfold Builtin.append_
  subst hv
  simp only [List.getElem?_toArray, List.getElem?_cons_zero, List.getElem?_cons_succ]
  rw [Sem.run_bind, run_underlying he.und]
  simp only [Result.andThen_ok]
  rw [Sem.run_bind, he.size]
  simp only [Result.andThen_ok]
  rw [Sem.run_bind, run_underlying ht2]
  simp only [Result.andThen_ok, Sem.run_bind, Sem.run_pure, if_true, asInt, asIntOf, hwrap, hneg, if_false, hti, hbig, Int.toNat_natCast, Bool.not_true, Bool.false_eq_true, List.length_replicate] at hr ⊢
  exact hr
end
end Go.Sx
