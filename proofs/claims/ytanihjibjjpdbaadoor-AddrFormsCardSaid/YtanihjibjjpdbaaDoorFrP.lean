/- frame.put, walked. -/
import Derived.Deep.LoopGhost
import Derived.Test.YtanihjibjjpdbaaDoorApp
namespace Go.Proofs.YtanihjibjjpdbaaDoor
open Go Go.RowKit
set_option linter.unusedVariables false
set_option linter.unusedSimpArgs false

/-- A number in so many bytes, high first. -/
def beB (n : Nat) : Nat → List UInt8
  | 0 => []
  | k + 1 => UInt8.ofNat (n / 2 ^ (8 * k)) :: beB n k
theorem beB_length (n k : Nat) : (beB n k).length = k := by
  induction k with
  | zero => rfl
  | succ k ih => simp [beB, ih]

theorem be_one (n j : Nat) : (n : Int) / 2 ^ (8 * j) % 256 = ((UInt8.ofNat (n / 2 ^ (8 * j))).toNat : Int) := by
  rw [u8_nat]
  simp
end Go.Proofs.YtanihjibjjpdbaaDoor
