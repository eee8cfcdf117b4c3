/- Of the seat: how its memory is laid. -/
import Derived.Test.YtoalhcodigpgkaaSxO
import Derived.Test.YtoalhcodigpgkaaSxT
namespace Go.Proofs.Ytoalhcodigpgkaa.Ro
open Go Go.Sx Go.ChangeShapes Go.WideShapes
theorem own : ownKnob Try.prog.godebug = none := by kernel_rfl
theorem laid : laidOutB Try.prog = true := by kernel_rfl
end Go.Proofs.Ytoalhcodigpgkaa.Ro
