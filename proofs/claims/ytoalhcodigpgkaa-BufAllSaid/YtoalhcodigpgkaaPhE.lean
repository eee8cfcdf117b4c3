/- BufAll's steps, plainly; arrays of rows and numbers. No program in sight. -/
import Derived.Test.YtoalhcodigpgkaaPhD
namespace Go.Pl
open Go Go.Sx

structure AInv (m : Nat) (now : Int → List UInt8) (ls : Int → Int) (fs : List Fr) (l : Log) (d : Dev) : Prop where
  inv : PInv now fs l d
  log : LInv ls fs l
  few : fs.length ≤ 6
  turn : l.sup.turn ≤ 1 + m
  end_ : l.end_ ≤ 6 * m
  base : l.base = 0
def updN (now : Int → List UInt8) (no : Int) (b : List UInt8) : Int → List UInt8 := if mayPage no then upd now no b else now
def updL (ls : Int → Int) (no n : Int) : Int → Int := if mayPage no then updI ls no n else ls
theorem AInv.put {m : Nat} {now : Int → List UInt8} {ls : Int → Int} {fs : List Fr} {l : Log} {d : Dev} (h : AInv m now ls fs l d) (hm : m ≤ 100) (x y : UInt8) {no : Int} {b : List UInt8} (hb : b.length = 256) :
    ∃ (l' : Log) (e : Nat), l.append [x, y] = (l', (e : Int), 0) ∧ e ≤ 1000 ∧ l'.sup.turn ≤ 1 + m ∧ (poolPut fs l' d no b (e : Int)).1 = mayPool no ∧
      AInv (m + 1) (updN now no b) (updL ls no (e : Int)) (poolPut fs l' d no b (e : Int)).2.1 (poolPut fs l' d no b (e : Int)).2.2.1 (poolPut fs l' d no b (e : Int)).2.2.2 := by
  have hbase := h.base
  have hend := h.end_
  obtain ⟨l', ha, ha1, ha2, ha3, ha4, ha5, ha6⟩ := Log.append_fits (l := l) (b := [x, y]) h.inv.bad (by simp) (by simp) (by simp; omega) (by omega)
  have hok' : l'.ok := by
    have := Log.append_ok h.inv.lok (by omega) [x, y]
    rw [ha] at this; exact this
  have hP := h.inv.append hok' ha5 ha6
  have hL := h.log.append ha2 ha4
  simp only [List.length_cons, List.length_nil] at ha ha1 ha2
  have hturn := h.turn
  refine ⟨l', l.end_ + 4 + (0 + 1 + 1), ha, by omega, by rw [ha6]; exact hturn, ?_⟩
  by_cases hn : mayPage no
  · obtain ⟨p1, p2, p3, p4, p5, p6⟩ := hP.put h.few hn hb ((l.end_ + 4 + (0 + 1 + 1) : Nat) : Int)
    have q := LInv.put hP hL h.few hn hb (e := l.end_ + 4 + (0 + 1 + 1)) (by rw [ha2]; simp)
    unfold updN updL mayPool
    rw [if_pos hn, if_pos hn, if_pos hn]
    exact ⟨p1, p2, q, p3, by rw [ha6] at p6; omega, by rw [p4]; omega, by rw [p5, ha3]; exact hbase⟩
  · have e : poolPut fs l' d no b ((l.end_ + 4 + (0 + 1 + 1) : Nat) : Int) = (3, fs, l', d) := by unfold poolPut; rw [if_pos hn]
    rw [e]
    unfold updN updL mayPool
    rw [if_neg hn, if_neg hn, if_neg hn]
    exact ⟨rfl, hP, hL, h.few, by dsimp only; rw [ha6]; omega, by dsimp only; omega, by dsimp only; rw [ha3]; exact hbase⟩
theorem AInv.page {m : Nat} {now : Int → List UInt8} {ls : Int → Int} {fs : List Fr} {l : Log} {d : Dev} (h : AInv m now ls fs l d) (no : Int) :
    (poolPage fs l d no).2.1 = mayPool no ∧ (mayPage no → (poolPage fs l d no).1 = now no) ∧ AInv (m + 1) now ls (poolPage fs l d no).2.2.1 (poolPage fs l d no).2.2.2.1 (poolPage fs l d no).2.2.2.2 := by
  have hend := h.end_
  have hturn := h.turn
  by_cases hn : mayPage no
  · obtain ⟨fs', l', d', e, p1, p2, p3, p4, p5, p6⟩ := h.inv.page h.few hn
    have q := LInv.page h.inv h.log hn
    rw [e] at q ⊢
    unfold mayPool
    rw [if_pos hn]
    exact ⟨rfl, fun _ => rfl, p1, q, p2, by dsimp only; omega, by dsimp only; omega, by dsimp only; rw [p4]; exact h.base⟩
  · have e : poolPage fs l d no = ([], 3, fs, l, d) := by unfold poolPage; rw [if_pos hn]
    rw [e]
    unfold mayPool
    rw [if_neg hn]
    exact ⟨rfl, fun hh => absurd hh hn, h.inv, h.log, h.few, by dsimp only; omega, by dsimp only; omega, h.base⟩
theorem AInv.flush {m : Nat} {now : Int → List UInt8} {ls : Int → Int} {fs : List Fr} {l : Log} {d : Dev} (h : AInv m now ls fs l d) (no : Int) :
    (poolFlush fs l d no).1 = mayPool no ∧ AInv (m + 1) now ls (poolFlush fs l d no).2.1 (poolFlush fs l d no).2.2.1 (poolFlush fs l d no).2.2.2 := by
  have hend := h.end_
  have hturn := h.turn
  by_cases hn : mayPage no
  · obtain ⟨p1, p2, p3, p4, p5, p6⟩ := h.inv.flush hn
    have q := LInv.flush h.inv h.log hn
    unfold mayPool
    rw [if_pos hn]
    exact ⟨p1, p2, q, by rw [p3]; exact h.few, by omega, by omega, by rw [p5]; exact h.base⟩
  · have e : poolFlush fs l d no = (3, fs, l, d) := by unfold poolFlush; rw [if_pos hn]
    rw [e]
    unfold mayPool
    rw [if_neg hn]
    exact ⟨rfl, h.inv, h.log, h.few, by dsimp only; omega, by dsimp only; omega, h.base⟩
theorem AInv.all {m : Nat} {now : Int → List UInt8} {ls : Int → Int} {fs : List Fr} {l : Log} {d : Dev} (h : AInv m now ls fs l d) :
    (poolAll fs l d).1 = 0 ∧ poolDirty (poolAll fs l d).2.1 = [] ∧ AInv (m + 1) now ls (poolAll fs l d).2.1 (poolAll fs l d).2.2.1 (poolAll fs l d).2.2.2 := by
  have hend := h.end_
  have hturn := h.turn
  obtain ⟨p1, p2, p3, p4, p5, p6, p7, p8⟩ := h.inv.allClean
  have q := LInv.all h.inv h.log
  exact ⟨p1, poolDirty_nil p7, p2, q, by rw [p3]; exact h.few, by omega, by omega, by rw [p5]; exact h.base⟩

/-! ### arrays -/
structure Op where
  kind : Int
  no : Int
  x : UInt8
def encOp (o : Op) : List Value := [.int .i64 o.kind, .int .i64 o.no, .int .u8 o.x.toNat]
/-- a row for each of the first n pages, all in chunk K -/
structure Arr (now : Int → List UInt8) (K : Chunk) (vs : List Value) (n : Nat) : Prop where
  len : vs.length = 96
  ones : ones vs = true
  row : ∀ k : Nat, k < n → ∃ v, vs[k]? = some v ∧ ∀ hs, Row encB 1 (K :: hs) v (now k)
theorem Row.app {enc : UInt8 → List Value} {v : Value} {xs : List UInt8} {A K : Chunk} {hs : List Chunk} (h : Row enc 1 (K :: []) v xs) : Row enc 1 ((A ++ K) :: hs) v xs := by
  refine h.mono fun b o hb => ?_
  have hm := hb.mem
  simp only [List.flatten_cons, List.flatten_nil, List.append_nil] at hm
  exact .here (List.mem_append_right _ hm)
theorem Row.app' {enc : UInt8 → List Value} {v : Value} {xs : List UInt8} {A K : Chunk} {hs : List Chunk} (h : Row enc 1 (A :: []) v xs) : Row enc 1 ((A ++ K) :: hs) v xs := by
  refine h.mono fun b o hb => ?_
  have hm := hb.mem
  simp only [List.flatten_cons, List.flatten_nil, List.append_nil] at hm
  exact .here (List.mem_append_left _ hm)
theorem ones_set {vs : List Value} (h : Go.Sx.ones vs = true) {v : Value} (hv : oneC v = true) (k : Nat) : Go.Sx.ones (vs.set k v) = true := by
  unfold Go.Sx.ones at *
  rw [List.all_eq_true] at *
  intro x hx
  rcases List.mem_or_eq_of_mem_set hx with hx | rfl
  · exact h x hx
  · exact hv
theorem Arr.put {now : Int → List UInt8} {K : Chunk} {vs : List Value} {n : Nat} (h : Arr now K vs n) {k : Nat} (hk : k < 96) {v : Value} (hv : oneC v = true) {A : Chunk} {b : List UInt8} {e : Nat} (ho : Own encB 1 e v b A) : Arr (upd now k b) (A ++ K) (vs.set k v) n := by
  refine ⟨by rw [List.length_set]; exact h.len, ones_set h.ones hv k, fun i hi => ?_⟩
  unfold upd
  by_cases he : i = k
  · subst he
    exact ⟨v, List.getElem?_set_self (by rw [h.len]; exact hk), fun hs => by rw [if_pos rfl]; exact Row.app' ho.row⟩
  · obtain ⟨u, h1, h2⟩ := h.row i hi
    exact ⟨u, by rw [List.getElem?_set_ne (by omega)]; exact h1, fun hs => by rw [if_neg (by omega)]; exact Row.app (h2 [])⟩
theorem Arr.more {K : Chunk} {vs : List Value} {n : Nat} (h : Arr (fun _ => noughts 256) K vs n) (hn : n < 96) {v : Value} (hv : oneC v = true) {A : Chunk} {e : Nat} (ho : Own encB 1 e v (noughts 256) A) : Arr (fun _ => noughts 256) (A ++ K) (vs.set n v) (n + 1) := by
  refine ⟨by rw [List.length_set]; exact h.len, ones_set h.ones hv n, fun i hi => ?_⟩
  by_cases he : i = n
  · subst he
    exact ⟨v, List.getElem?_set_self (by rw [h.len]; exact hn), fun hs => Row.app' ho.row⟩
  · obtain ⟨u, h1, h2⟩ := h.row i (by omega)
    exact ⟨u, by rw [List.getElem?_set_ne (by omega)]; exact h1, fun hs => Row.app (h2 [])⟩
theorem splice_one {vs : List Value} {k : Nat} (h : k < vs.length) (v : Value) {o : Nat} (ho : o = k) : splice vs o [v] = vs.set k v := by
  subst ho
  unfold splice
  rw [List.set_eq_take_append_cons_drop, if_pos h]
  simp
def Nums (ls : Int → Int) (ns : List Int) : Prop := ns.length = 96 ∧ ∀ k : Nat, k < 96 → ns[k]? = some (ls k)
theorem Nums.zero : Nums (fun _ => 0) (List.replicate 96 0) := ⟨by simp, fun k hk => by rw [List.getElem?_replicate, if_pos hk]⟩
theorem Nums.put {ls : Int → Int} {ns : List Int} (h : Nums ls ns) {k : Nat} (hk : k < 96) (n : Int) : Nums (updI ls k n) (ns.set k n) := by
  refine ⟨by rw [List.length_set]; exact h.1, fun i hi => ?_⟩
  unfold updI
  by_cases he : i = k
  · subst he; rw [if_pos rfl, List.getElem?_set_self (by rw [h.1]; exact hk)]
  · rw [if_neg (by omega), List.getElem?_set_ne (by omega)]; exact h.2 i hi
theorem ints_flat (l : List Int) : l.flatMap encI = l.map (Value.int .i64) := by
  induction l with
  | nil => rfl
  | cons x l ih => simpa using ih
theorem ints_at {ns : List Int} {k : Nat} {n : Int} (h : ns[k]? = some n) {o : Nat} (ho : o = k) : (ns.flatMap encI)[o]? = some (.int .i64 n) := by
  subst ho; rw [ints_flat, List.getElem?_map, h]; rfl
theorem ints_set {ns : List Int} {k : Nat} (h : k < ns.length) (n : Int) {o : Nat} (ho : o = k) : splice (ns.flatMap encI) o [.int .i64 n] = (ns.set k n).flatMap encI := by
  subst ho
  rw [ints_flat, ints_flat, List.map_set]
  exact splice_one (by rw [List.length_map]; exact h) _ rfl
theorem ints_length (l : List Int) : (l.flatMap encI).length = l.length := by rw [ints_flat, List.length_map]
theorem ints_ones (l : List Int) : Go.Sx.ones (l.flatMap encI) = true := by
  rw [ints_flat]; unfold Go.Sx.ones; rw [List.all_eq_true]
  intro x hx
  obtain ⟨n, _, rfl⟩ := List.mem_map.1 hx
  rfl
theorem ainv_zero : ∃ l d, logMake (Dev.new 1410) = (some l, d, 0) ∧ AInv 0 (fun _ => noughts 256) (fun _ => 0) [] l d := by
  obtain ⟨l, d, hm, hinv, he, hb, hf, hes, ht⟩ := logMake_inv
  exact ⟨l, d, hm, hinv, fun no _ => .inl (by omega), by simp, by omega, by omega, hb⟩
end Go.Pl
