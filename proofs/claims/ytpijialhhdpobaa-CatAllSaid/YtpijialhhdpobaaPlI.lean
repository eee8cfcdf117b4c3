/- The first steps with a catalog, worked out. No program in sight. -/
import Derived.Test.YtpijialhhdpobaaPlH
import Derived.KernelRfl
namespace Go.Pl
open Go Go.Sx
theorem enc_may {n : Int} {s : List Snap} (h : (encode n s).2 = 0) : mayB n s = true := by
  unfold encode at h
  split at h
  · assumption
  · cases h
def sA : Snap := newSnap ⟨#[97]⟩ 1
def sB : Snap := newSnap ⟨#[98]⟩ 2
theorem add1 : addC 0 [] ⟨#[97]⟩ = ((1, [sA]), 0) := by kernel_rfl
theorem add2 : addC 1 [sA] ⟨#[98]⟩ = ((2, [sA, sB]), 0) := by kernel_rfl
theorem add3 : addC 2 [sA, sB] ⟨#[97]⟩ = ((0, []), 7) := by kernel_rfl
theorem drop1 : dropC 2 [sA, sB] ⟨#[97]⟩ = ((2, [sB]), 0) := by kernel_rfl
theorem mayB1 : mayB 2 [sB] = true := by kernel_rfl
theorem mayB0 : mayB 0 [] = true := by kernel_rfl
theorem enc1 : encode 2 [sB] = (page (catBytes 2 [sB]), 0) := by unfold encode; rw [if_pos mayB1]
theorem h35B : ∀ s ∈ [sB], (encSnap s).length = 35 := by intro s hs; rw [List.mem_singleton] at hs; subst hs; rfl
theorem dec1 : decodeS (page (catBytes 2 [sB])) = ((2, [sB]), 0) := decode_encode h35B mayB1
theorem len1 : (page (catBytes 2 [sB])).length = 256 := page_length (by have := catBytes_length mayB1 h35B; omega)
theorem page0 : page (catBytes 0 []) = List.replicate 256 0 := by
  have e : catBytes 0 [] = [0, 0] := by
    unfold catBytes put
    rw [show zig 0 = 0 from rfl, show zig (([] : List Snap).length : Int) = 0 from rfl, putU_small (by omega)]
    rfl
  rw [e]
  rfl
theorem dec0 : decodeS (List.replicate 256 0) = ((0, []), 0) := by rw [← page0]; exact decode_encode (by simp) mayB0
theorem cop1 : copiesP [sB] = [] := by
  unfold copiesP
  rw [show gather [sB] = [] by kernel_rfl, List.mergeSort_nil]
theorem take1 : takeP [sB] = (32, true) := by
  unfold takeP; rw [cop1]; rfl
theorem findb : findAt (named ⟨#[98]⟩) 0 [sB] = 0 := by kernel_rfl
theorem finda : findAt (named ⟨#[97]⟩) 0 [sB] = -1 := by kernel_rfl
theorem namea : nameB ⟨#[97]⟩ = true := by kernel_rfl
theorem name0 : nameB ⟨#[]⟩ = false := by kernel_rfl
end Go.Pl
