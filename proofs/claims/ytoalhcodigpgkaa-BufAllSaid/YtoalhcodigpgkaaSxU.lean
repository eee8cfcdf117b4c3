/- Short words for what is found by search: chunks, blocks, rows. No program in sight. -/
import Derived.Test.YtoalhcodigpgkaaSxK
namespace Go.Sx
open Go
theorem pl {hs r : List Chunk} {A : Chunk} (h : Pull hs A r := by repeat (first | exact Pull.head | apply Pull.tail)) : Pull hs A r := h
theorem sl {hs hs' : List Chunk} (h : Sel hs hs' := by repeat (first | exact Sel.refl _ | refine Sel.empty ?_ | (apply Sel.pull; focus ((repeat (first | exact Pull.head | apply Pull.tail)); done)) | refine Sel.join ?_ | refine Sel.drop ?_)) : Sel hs hs' := h
theorem hz {hs : List Chunk} {b : Nat} {o : Obj} (h : Has hs b o := by repeat (first | exact Has.one | apply Has.there)) : Has hs b o := h
theorem kr {α : Type} {a b : α} (h : a = b := by kernel_rfl) : a = b := h
theorem ro {α : Type} {enc : α → List Value} {sz : Nat} {hs : List Chunk} {v : Value} {xs : List α}
    (h : Row enc sz hs v xs := by first
      | assumption | exact Own.row (by assumption)
      | exact Row.there (by assumption) | exact Row.there (Own.row (by assumption))
      | exact Row.there (Row.there (by assumption)) | exact Row.there (Row.there (Own.row (by assumption)))
      | exact Row.there (Row.there (Row.there (by assumption))) | exact Row.there (Row.there (Row.there (Own.row (by assumption))))
      | exact Row.there (Row.there (Row.there (Row.there (by assumption)))) | exact Row.there (Row.there (Row.there (Row.there (Own.row (by assumption)))))
      | exact Row.there (Row.there (Row.there (Row.there (Row.there (by assumption))))) | exact Row.there (Row.there (Row.there (Row.there (Row.there (Own.row (by assumption))))))
      | exact Row.there (Row.there (Row.there (Row.there (Row.there (Row.there (by assumption)))))) | exact Row.there (Row.there (Row.there (Row.there (Row.there (Row.there (Own.row (by assumption)))))))
      | exact Row.there (Row.there (Row.there (Row.there (Row.there (Row.there (Row.there (by assumption))))))) | exact Row.there (Row.there (Row.there (Row.there (Row.there (Row.there (Row.there (Own.row (by assumption)))))))))
    : Row enc sz hs v xs := h
/-- an own slice, found -/
theorem ow {α : Type} {enc : α → List Value} {sz e : Nat} {v : Value} {xs : List α} {H : Chunk} (h : Own enc sz e v xs H := by assumption) : Own enc sz e v xs H := h
end Go.Sx
