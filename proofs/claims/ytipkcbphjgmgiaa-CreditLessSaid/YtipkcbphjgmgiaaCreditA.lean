/- awake and the law on a credit that is not there. -/
import Derived.Test.YtipkcbphjgmgiaaCreditW
namespace Go.Proofs.Ytipkcbphjgmgiaa
open Go Go.RowKit
set_option linter.unusedVariables false
set_option linter.unusedSimpArgs false
section
variable {w0 w : World} {L : List Assn}

theorem credit_New' (n m : Int) (hm : newC n = m) (hs : Sat w0 w L) :
    Calls Try.prog 12 #[.int .i64 n] w fun e w' => ∃ g, e = .returned (.pointer (some ⟨g, 0, none⟩)) ∧ Sat w0 w' (Credit g m :: L) := by
  subst hm; exact credit_New n hs
theorem credit_Take' (g : Nat) (n k r n' : Int) (hr : takeC n k = r) (hn : n - r = n') (hs : Sat w0 w (Credit g n :: L)) :
    Calls Try.prog 15 #[.pointer (some ⟨g, 0, none⟩), .int .i64 k] w fun e w' => e = .returned (.int .i64 r) ∧ Sat w0 w' (Credit g n' :: L) := by
  subst hn; subst hr; exact credit_Take g n k hs
theorem credit_Give' (g : Nat) (n k n' : Int) (b : Bool) (hr : giveB n k = b) (hn : giveC n k = n') (hs : Sat w0 w (Credit g n :: L)) :
    Calls Try.prog 17 #[.pointer (some ⟨g, 0, none⟩), .int .i64 k] w fun e w' => e = .returned (.bool b) ∧ Sat w0 w' (Credit g n' :: L) := by
  subst hn; subst hr; exact credit_Give g n k hs

set_option maxHeartbeats 400000 in
theorem credit_awake (hs : Sat w0 w L) :
    Calls Try.prog 19 #[] w fun e w' => e = .returned (.bool true) ∧ Sat w0 w' L := by
  go_enter Try.func19, Try.ntmps19
  go_wp2_with fail
  refine (credit_New' 5 5 (by decide) hs).mono ?_
  rintro _ w1 ⟨g, rfl, h1⟩
  go_wp2_with fail
  refine (credit_Take' g 5 3 3 2 (by decide) (by decide) h1).mono ?_
  rintro _ w2 ⟨rfl, h2⟩
  clear h1
  go_wp2_with fail
  refine (credit_Take' g 2 3 2 0 (by decide) (by decide) h2).mono ?_
  rintro _ w3 ⟨rfl, h3⟩
  clear h2
  go_wp2_with fail
  refine (credit_Give' g 0 1 1 true (by decide) (by decide) h3).mono ?_
  rintro _ w4 ⟨rfl, h4⟩
  clear h3
  go_wp2_with fail
  refine (credit_Take' g 1 3 1 0 (by decide) (by decide) h4).mono ?_
  rintro _ w5 ⟨rfl, h5⟩
  clear h4
  go_wp2_with fail
  refine (credit_Left g 0 h5).mono ?_
  rintro _ w6 ⟨rfl, rfl⟩
  go_wp2_with fail
  go_ret
  exact ⟨rfl, h5.drop⟩

theorem credit_nil_law (k : Int) : Calls Try.prog 4 #[.int .i64 k] w fun e w' => e = .returned (.bool true) ∧ Below w.heap.size w w' := by
  go_enter Try.func4, Try.ntmps4
  go_wp2_with fail
  refine (credit_Take_nil k).mono ?_
  rintro _ w1 ⟨rfl, rfl⟩
  go_wp2_with fail
  refine (credit_Give_nil k).mono ?_
  rintro _ w1 ⟨rfl, rfl⟩
  go_wp2_with fail
  refine credit_Left_nil.mono ?_
  rintro _ w1 ⟨rfl, rfl⟩
  go_wp2_with fail
  refine (credit_awake (Sat.refl _)).mono ?_
  rintro _ w1 ⟨rfl, h1⟩
  go_wp2_with fail
  go_ret
  exact ⟨rfl, h1.below⟩
end
end Go.Proofs.Ytipkcbphjgmgiaa
