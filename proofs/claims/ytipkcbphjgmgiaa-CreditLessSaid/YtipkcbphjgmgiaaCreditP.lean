/- The law that a credit plays as the page says. -/
import Derived.Test.YtipkcbphjgmgiaaCreditL
namespace Go.Proofs.Ytipkcbphjgmgiaa
open Go Go.RowKit
set_option linter.unusedVariables false
set_option linter.unusedSimpArgs false

section
variable {w0 w : World} {L : List Assn}

theorem CreditT.cell {t : TypeId} {g : Nat} {n : Int} (h : Sat w0 w (CreditT t g n :: L)) : w.cell? ⟨g, 0, none⟩ = some (.int .i64 n) := (CreditT.opn h).2.2.cell 0 rfl

set_option maxRecDepth 100000 in
set_option maxHeartbeats 1000000 in
theorem credit_plays_law (n : Int) (a : Option Addr) (len cap : Nat) (zs : List Int) (w : World) (hz : IntsIn w a len cap zs) (hn : (Lit.int .i64 n).wf = true) :
    Calls Try.prog 3 #[.int .i64 n, .slice a len cap] w fun e w' => e = .returned (.bool true) ∧ Below w.heap.size w w' := by
  have hs := Sat.refl w
  go_enter Try.func3, Try.ntmps3
  go_wp2_with fail
  refine (credit_New n hs).mono ?_
  rintro _ w1 ⟨g, rfl, h1⟩
  go_wp2_with fail
  refine (rcredit_New n h1).mono ?_
  rintro _ w2 ⟨q, rfl, h2⟩
  clear h1 hs
  generalize newC n = c0 at h2
  have hc := CreditT.cell h2
  have h2' := h2.swap
  go_wp2_with fail
  go_quiet ((go_at_call 14; exact quiet_same (credit_Left g _ (h2'.drewN _))))
  go_wp2_with fail
  have h3 := h2.drewN nq
  generalize w2.drewN nq = w3 at *
  clear h2 h2' hc
  go_loopw [27] (fun vi wr => ∃ (i : Nat) (c : Int), (i ≤ len ∧ i ≤ 200) ∧ vi = .int .i64 i ∧ Sat w wr [RCredit q c, Credit g c]) (fun i _ => len - (intOf i).toNat)
  case atStart => exact ⟨0, c0, by omega, rfl, h3⟩
  case round =>
    obtain ⟨i, c, ⟨hi1, hi2⟩, rfl, hs1⟩ := hrel
    clear h3
    by_cases hlt : i < len
    · obtain ⟨b, off, rfl, hcell⟩ := hz.at hlt
      have hci : wr.cell? ⟨b, off + i, none⟩ = some (.int .i64 (zs.getD i 0)) := (hs1.below.cell (p := ⟨b, off + i, none⟩) (hcell i hlt).2).trans (hcell i hlt).1
      by_cases h200 : i < 200
      · generalize zs.getD i 0 = k at hci
        go_wp2_with fail
        · refine (credit_Take g c k hs1.swap).mono ?_
          rintro _ w4 ⟨rfl, h4⟩
          go_wp2_with fail
          refine (rcredit_Take q c k h4.swap).mono ?_
          rintro _ w5 ⟨rfl, h5⟩
          clear h4 hs1 hci
          generalize takeC c k = x at *
          go_wp2_with fail
          have hcq := CreditT.cell h5
          go_quiet ((go_at_call 14; exact quiet_same (credit_Left g _ (h5.swap.drewN _))))
          go_wp2_with fail
          go_roundw
          case rel => exact ⟨i + 1, _, by omega, by go_num, h5.drewN nq⟩
          case measure => simp [intOf]; omega
        · refine (credit_Give g c k hs1.swap).mono ?_
          rintro _ w4 ⟨rfl, h4⟩
          go_wp2_with fail
          refine (rcredit_Give q c k h4.swap).mono ?_
          rintro _ w5 ⟨rfl, h5⟩
          clear h4 hs1 hci
          generalize giveB c k = x at *
          generalize giveC c k = y at *
          go_wp2_with fail
          have hcq := CreditT.cell h5
          have ex : (x == x) = true := by simp
          go_quiet ((go_at_call 14; exact quiet_same (credit_Left g _ (h5.swap.drewN _))))
          go_wp2_with fail
          go_roundw
          case rel => exact ⟨i + 1, _, by omega, by go_num, h5.drewN nq⟩
          case measure => simp [intOf]; omega
      · go_wp2_with fail
        refine (credit_awake hs1).mono ?_
        rintro _ w2 ⟨rfl, h2⟩
        go_wp2_with fail
        go_ret
        exact ⟨rfl, h2.below⟩
    · go_wp2_with fail
      refine (credit_awake hs1).mono ?_
      rintro _ w2 ⟨rfl, h2⟩
      go_wp2_with fail
      go_ret
      exact ⟨rfl, h2.below⟩
end
end Go.Proofs.Ytipkcbphjgmgiaa
