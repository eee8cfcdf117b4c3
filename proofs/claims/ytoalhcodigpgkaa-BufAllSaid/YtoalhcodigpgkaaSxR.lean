/- From a contract over known memory to the form of the given statements: what was there ahead of the call is there behind it. -/
import Derived.Test.YtoalhcodigpgkaaSxJ
import Derived.ChangeSame
import Derived.RowKit3
namespace Go.Sx
open Go Go.ChangeShapes Go.WideShapes

/-- all that is in the memory -/
def all (w : World) : Chunk := w.heap.toList.zipIdx.map fun p => (p.2, p.1)
abbrev outer (w : World) : Outer := ⟨w.os, w.output⟩
theorem all_mem {w : World} {b : Nat} {o : Obj} : (b, o) ∈ all w ↔ w.heap[b]? = some o := by
  unfold all
  rw [List.mem_map]
  constructor
  · rintro ⟨⟨o', b'⟩, h, e⟩
    simp only [Prod.mk.injEq] at e
    obtain ⟨rfl, rfl⟩ := e
    rw [List.mem_zipIdx_iff_getElem?] at h
    rw [← Array.getElem?_toList]
    exact h
  · intro h
    refine ⟨(o, b), ?_, rfl⟩
    rw [List.mem_zipIdx_iff_getElem?]
    rw [← Array.getElem?_toList] at h
    exact h
theorem mem_all (w : World) : @Mem (outer w) [all w] w := by
  letI := outer w
  refine ⟨?_, ?_, rfl, rfl⟩
  · simp only [List.flatten_cons, List.flatten_nil, List.append_nil]
    unfold all
    rw [List.map_map]
    have e : (Prod.fst ∘ fun p : Obj × Nat => (p.2, p.1)) = Prod.snd := rfl
    rw [e, List.zipIdx_map_snd]
    exact List.nodup_range'
  · intro b o h
    simp only [List.flatten_cons, List.flatten_nil, List.append_nil] at h
    exact all_mem.1 h
theorem has_all {w : World} {b : Nat} {o : Obj} (h : w.heap[b]? = some o) : Has [all w] b o := .here (all_mem.2 h)

/-- what was there is there -/
structure Old (w w' : World) : Prop where
  os : w'.os = w.os
  out : w'.output = w.output
  heap : ∀ b, b < w.heap.size → w'.heap[b]? = w.heap[b]?
theorem Old.of {w w' : World} (h : @Mem (outer w) [all w] w') : Old w w' := by
  letI := outer w
  refine ⟨h.outer.1, h.outer.2, fun b hb => ?_⟩
  rw [Array.getElem?_eq_getElem hb]
  exact h.has b _ (by simp only [List.flatten_cons, List.flatten_nil, List.append_nil]; exact all_mem.2 (Array.getElem?_eq_getElem hb))
/-- a law's contract, as a call -/
theorem calls_of {P : Program} {f : Nat} {vs : List Value} {w : World} (h : @Fun (outer w) P f vs [all w] fun v' hs' => v' = .bool true ∧ [all w] = hs') :
    Calls P f ⟨vs⟩ w fun e w' => e = .returned (.bool true) ∧ Old w w' := by
  letI := outer w
  refine (h w (mem_all w)).mono ?_
  rintro e w' ⟨v, hs', rfl, ⟨rfl, rfl⟩, hm⟩
  exact ⟨rfl, .of hm⟩
theorem Old.kept {w w' : World} (h : Old w w') (may : MemPlace → Prop) : w.keptBut w' may := by
  refine ⟨h.os, h.out, fun i hi => ?_⟩
  rw [h.heap i hi]
  cases w.heap[i]? with
  | none => rfl
  | some o => cases o with
    | cells c t fr => exact ⟨rfl, rfl, rfl, fun _ _ => rfl⟩
    | map es clock => exact .inr ⟨rfl, rfl⟩
    | _ => rfl
theorem Old.frozen {w w' : World} (h : Old w w') (a : Addr) (ha : a.block < w.heap.size) : w'.frozen? a = w.frozen? a := by
  unfold World.frozen?
  rw [h.heap _ ha]

section
variable {H : Type} {enc : TypeId × Value → H} {P : Program}
theorem post_of_old {f : Func} {s : ChangeSpec} {apart fresh handsOn again : Bool} {W W' : World} {args : Array Value} {v : Value} {ds gs : List (DataW H)} {before pa pv : List MemPlace}
    (hW : DataW.Whole enc P f.params.toList s.vars apart W args.toList ds gs before)
    (hres : ∀ (b : Nat) (sp : Nat → Bool) (hd : Bool), DataW.TrodAll enc P W' b sp hd f.resultTypes.toList (v.resultList f.resultTypes.size) (s.fn H (ds ++ gs)).results [])
    (hargs : ∀ sp : Nat → Bool, (∀ p ∈ before, sp p.block = true) → DataW.TrodAll enc P W' 0 sp true f.params.toList args.toList (s.fn H (ds ++ gs)).args pa)
    (hvars : ∀ sp : Nat → Bool, (∀ p ∈ before, sp p.block = true) → DataW.TrodVars enc P W' sp s.vars (s.fn H (ds ++ gs)).vars pv)
    (hps : before = pa ++ pv) (hO : Old W W')
    (hok : ∀ (j : Nat) (t : TypeId) (r : Value), f.resultTypes[j]? = some t → (v.resultList f.resultTypes.size)[j]? = some r → Value.okWide P W' .any 0 t r) :
    s.post enc P f apart fresh handsOn again W args v W' := by
  have hlt := hW.lt
  have hold : ∀ p ∈ before, (fun b => decide (b < W.heap.size)) p.block = true := fun p hp => by simpa using hlt p hp
  refine ⟨ds, gs, before, [], pa, pv, hW, hres _ _ _, hargs _ hold, hvars _ hold, World.keptBut_mono (fun p hp => ⟨hp, ?_⟩) (hO.kept _), fun _ => ?_⟩
  · rw [hps, List.mem_append] at hp
    exact Or.inr hp
  · obtain ⟨_, _, _, _, _, hz, hn⟩ := hW
    refine ⟨hok, _, _, ([] ++ pa) ++ pv, ⟨[] ++ pa, pv, trodAll_append (hargs _ (fun _ _ => rfl)) (hres _ _ _), hvars _ (fun _ _ => rfl), rfl, ?_, ?_⟩, ?_⟩
    · intro b off hp
      have hm : MemPlace.cell b off ∈ before := by rw [hps]; simpa using hp
      rw [hO.frozen _ (hlt _ hm)]
      exact hz b off hm
    · intro ha
      have := hn ha
      rw [hps] at this
      simpa using this
    · intro p hp _
      rw [hps]
      simpa using hp
end
end Go.Sx
