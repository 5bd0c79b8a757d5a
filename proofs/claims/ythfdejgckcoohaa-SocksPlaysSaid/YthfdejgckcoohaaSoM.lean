/- Who answers SOCKS, in plain Lean: what each function does to it. -/
import Derived.Test.YthfdejgckcoohaaAdH
namespace Go.Proofs.Ythfdejgckcoohaa
open Go Go.RowKit
set_option linter.unusedVariables false
set_option linter.unusedSimpArgs false

structure SoM where
  user : ByteArray
  pass : ByteArray
  state : Int
  wait : List UInt8
  dest : AdM
  back : List UInt8
def SoM.close (s : SoM) (k : List UInt8) : SoM := { s with back := s.back ++ k, state := 5, wait := [], dest := AdM.zero }
def SoM.goes (s : SoM) (st : Int) (n : Nat) (k : List UInt8) : SoM := { s with back := s.back ++ k, state := st, wait := s.wait.drop n }
def bAt (b : List UInt8) (i : Nat) : Nat := (b.getD i 0).toNat
def replyB (code : Nat) : List UInt8 := [5, UInt8.ofNat code, 0, 1, 0, 0, 0, 0, 0, 0]
def SoM.method (s : SoM) : UInt8 := if s.user.size = 0 then 0 else 2
def SoM.greet (s : SoM) : Bool × SoM :=
  if (1 ≤ s.wait.length ∧ bAt s.wait 0 ≠ 5) ∨ (2 ≤ s.wait.length ∧ bAt s.wait 1 = 0) then (false, s.close [])
  else if 2 ≤ s.wait.length ∧ 2 + bAt s.wait 1 ≤ s.wait.length then
    (if s.method ∈ (s.wait.drop 2).take (bAt s.wait 1) then (true, s.goes (if s.user.size = 0 then 2 else 1) (2 + bAt s.wait 1) [5, s.method]) else (false, s.close [5, 255]))
  else (false, s)
/-- A field: what stands behind its own length. -/
def fieldM (b : List UInt8) : Option (List UInt8 × Nat) := if b.length < 1 ∨ b.length < 1 + bAt b 0 then none else some ((b.drop 1).take (bAt b 0), 1 + bAt b 0)
def SoM.name (s : SoM) : Bool × SoM :=
  if s.wait.length = 0 then (false, s)
  else if bAt s.wait 0 ≠ 1 then (false, s.close [])
  else match fieldM (s.wait.drop 1) with
    | none => (false, s)
    | some (u, n) => match fieldM (s.wait.drop (1 + n)) with
      | none => (false, s)
      | some (p, m) => if u ≠ s.user.data.toList ∨ p ≠ s.pass.data.toList then (false, s.close [1, 1]) else (true, s.goes 2 (1 + n + m) [1, 0])
def SoM.ask (s : SoM) : Bool × SoM :=
  if 1 ≤ s.wait.length ∧ bAt s.wait 0 ≠ 5 then (false, s.close [])
  else if s.wait.length < 3 then (false, s)
  else if bAt s.wait 1 ≠ 1 then (false, s.close (replyB 7))
  else if bAt s.wait 2 ≠ 0 then (false, s.close (replyB 1))
  else if (decA (s.wait.drop 3)).1 = 2 then (false, s)
  else if (decA (s.wait.drop 3)).1 ≠ 0 then (if bAt s.wait 3 = 1 ∨ bAt s.wait 3 = 4 ∨ bAt s.wait 3 = 3 then (false, s.close (replyB 1)) else (false, s.close (replyB 8)))
  else (true, { s with dest := (decA (s.wait.drop 3)).2.1 }.goes 3 (3 + (decA (s.wait.drop 3)).2.2) [])
def SoM.step (s : SoM) : Bool × SoM :=
  if s.state = 0 then s.greet else if s.state = 1 then s.name else if s.state = 2 then s.ask
  else if s.state = 3 then (if 4096 < s.wait.length then (false, s.close []) else (false, s)) else (false, s)
def SoM.run : Nat → SoM → SoM
  | 0, s => s
  | n + 1, s => if s.step.1 then SoM.run n s.step.2 else s.step.2
/-- What feeding does. -/
def SoM.feed (s : SoM) (b : List UInt8) : SoM := SoM.run 4 { s with wait := s.wait ++ b, back := [] }
end Go.Proofs.Ythfdejgckcoohaa
