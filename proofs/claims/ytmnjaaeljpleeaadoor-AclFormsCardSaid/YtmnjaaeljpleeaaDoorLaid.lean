/- The three tables of the library that the rows of chapter 13 list: a world in which they read as listed. -/
import Derived.Test.YtmnjaaeljpleeaaDoorRows
import Derived.ProofKit
import Derived.LaidMore
namespace Go.Proofs.YtmnjaaeljpleeaaDoor
open Go
def laid3 : List (String × DataW Unit) := [("math/bits.deBruijn32tab", Rows.laid_math_bits_deBruijn32tab), ("math/bits.deBruijn64tab", Rows.laid_math_bits_deBruijn64tab), ("internal/strconv.uint64pow10", Rows.laid_internal_strconv_uint64pow10)]
set_option maxRecDepth 100000 in
/-- What 24 steps of the door leave meets the rows' condition. -/
theorem door_met (os : Os) (args : Array Value) : laidMetH Tryd.prog laid3 ((World.doorLaid Tryd.prog 24 os).forCall (fun _ _ => 0) ⟨#[], args, []⟩).memory :=
  laidMetH_of_parts3 (fuel := 8) (laidMet_of_run' 8 (by kernel_rfl) (by kernel_rfl)) (by kernel_rfl) (by kernel_rfl)
end Go.Proofs.YtmnjaaeljpleeaaDoor
