/- The credit's functions, walked: each answers as takeC, giveC say. -/
import Derived.Test.YtkejadhkebjdcaaProg
import Derived.Test.YtkejadhkebjdcaaSl
namespace Go.Proofs.Ytkejadhkebjdcaa
open Go Go.RowKit
set_option linter.unusedVariables false
set_option linter.unusedSimpArgs false

def takeC (n k : Int) : Int := max 0 (min k n)
def newC (n : Int) : Int := max 0 (min n 65536)
def giveB (n k : Int) : Bool := decide (1 ≤ k) && decide (k ≤ 65536 - n)
def giveC (n k : Int) : Int := if giveB n k then n + k else n

theorem takeC_bd {n : Int} (k : Int) (h0 : 0 ≤ n) : 0 ≤ takeC n k ∧ takeC n k ≤ n := by unfold takeC; omega
theorem newC_bd (n : Int) : 0 ≤ newC n ∧ newC n ≤ 65536 := by unfold newC; omega
theorem giveC_bd {n : Int} (k : Int) (h0 : 0 ≤ n) (h1 : n ≤ 65536) : 0 ≤ giveC n k ∧ giveC n k ≤ 65536 := by unfold giveC giveB; split <;> simp_all <;> omega


/-- A credit with n left, at block g (both texts' credits have one field). -/
def CreditT (t : TypeId) (g : Nat) (n : Int) : Assn := fun h => (0 ≤ n ∧ n ≤ 65536) ∧ h g = some (.cells #[.int .i64 n] t (0, 0))
abbrev Credit := CreditT 104
abbrev RCredit := CreditT 109

theorem CreditT.opn {t : TypeId} {g : Nat} {n : Int} {w0 w : World} {L : List Assn} (h : Sat w0 w (CreditT t g n :: L)) :
    0 ≤ n ∧ n ≤ 65536 ∧ Sat w0 w (Blk g (.cells #[.int .i64 n] t (0, 0)) :: L) := by
  obtain ⟨⟨h1, h2⟩, h3⟩ := Sat.pure (p := 0 ≤ n ∧ n ≤ 65536) (A := Blk g (.cells #[.int .i64 n] t (0, 0))) h
  exact ⟨h1, h2, h3⟩
theorem CreditT.shut {t : TypeId} {g : Nat} {n : Int} {w0 w : World} {L : List Assn} (h1 : 0 ≤ n) (h2 : n ≤ 65536) (h3 : Sat w0 w (Blk g (.cells #[.int .i64 n] t (0, 0)) :: L)) :
    Sat w0 w (CreditT t g n :: L) := Sat.pureI (A := Blk g (.cells #[.int .i64 n] t (0, 0))) ⟨h1, h2⟩ h3

section
variable {w0 w : World} {L : List Assn}

theorem credit_New (n : Int) (hs : Sat w0 w L) :
    Calls Try.prog 45 #[.int .i64 n] w fun e w' => ∃ g, e = .returned (.pointer (some ⟨g, 0, none⟩)) ∧ Sat w0 w' (Credit g (newC n) :: L) := by
  go_enter Try.func45, Try.ntmps45
  go_wp2
  go_ret
  exact ⟨_, rfl, CreditT.shut (newC_bd n).1 (newC_bd n).2 (hs.alloc _)⟩

theorem rcredit_New (n : Int) (hs : Sat w0 w L) :
    Calls Try.prog 75 #[.int .i64 n] w fun e w' => ∃ g, e = .returned (.pointer (some ⟨g, 0, none⟩)) ∧ Sat w0 w' (RCredit g (newC n) :: L) := by
  go_enter Try.func75, Try.ntmps75
  go_wp2
  go_ret
  exact ⟨_, rfl, CreditT.shut (newC_bd n).1 (newC_bd n).2 (hs.alloc _)⟩

theorem rcredit_Take (g : Nat) (n k : Int) (hs : Sat w0 w (RCredit g n :: L)) :
    Calls Try.prog 76 #[.pointer (some ⟨g, 0, none⟩), .int .i64 k] w fun e w' => e = .returned (.int .i64 (takeC n k)) ∧ Sat w0 w' (RCredit g (n - takeC n k) :: L) := by
  obtain ⟨h0, h1, hs⟩ := CreditT.opn hs
  have hc := hs.cell 0 rfl
  have hf := hs.frozen 0
  obtain ⟨b0, b1⟩ := takeC_bd k h0
  go_enter Try.func76, Try.ntmps76
  go_wp2
  go_ret
  exact ⟨rfl, CreditT.shut (by omega) (by omega) (hs.set 0 _)⟩

theorem credit_Take_nil (k : Int) : Calls Try.prog 48 #[.pointer none, .int .i64 k] w fun e w' => e = .returned (.int .i64 0) ∧ w = w' := by
  go_enter Try.func48, Try.ntmps48
  go_wp2
  go_ret
  exact ⟨rfl, rfl⟩

theorem credit_Give_nil (k : Int) : Calls Try.prog 58 #[.pointer none, .int .i64 k] w fun e w' => e = .returned (.bool false) ∧ w = w' := by
  go_enter Try.func58, Try.ntmps58
  go_wp2
  go_ret
  exact ⟨rfl, rfl⟩


theorem credit_Take (g : Nat) (n k : Int) (hs : Sat w0 w (Credit g n :: L)) :
    Calls Try.prog 48 #[.pointer (some ⟨g, 0, none⟩), .int .i64 k] w fun e w' => e = .returned (.int .i64 (takeC n k)) ∧ Sat w0 w' (Credit g (n - takeC n k) :: L) := by
  obtain ⟨h0, h1, hs⟩ := CreditT.opn hs
  have hc := hs.cell 0 rfl
  have hf := hs.frozen 0
  obtain ⟨b0, b1⟩ := takeC_bd k h0
  go_enter Try.func48, Try.ntmps48
  go_wp2
  go_ret
  exact ⟨rfl, CreditT.shut (by omega) (by omega) (hs.set 0 _)⟩

theorem giveB_no {n k : Int} (h : k < 1 ∨ 65536 - n < k) : giveB n k = false ∧ giveC n k = n := by
  have hb : giveB n k = false := by unfold giveB; rcases h with h | h <;> simp <;> omega
  exact ⟨hb, by unfold giveC; rw [hb]; simp⟩
theorem giveB_yes {n k : Int} (h : 1 ≤ k) (h' : k ≤ 65536 - n) : giveB n k = true ∧ giveC n k = n + k := by
  have hb : giveB n k = true := by unfold giveB; simp; omega
  exact ⟨hb, by unfold giveC; rw [hb]; simp⟩

set_option maxHeartbeats 400000 in
theorem credit_Give (g : Nat) (n k : Int) (hs : Sat w0 w (Credit g n :: L)) :
    Calls Try.prog 58 #[.pointer (some ⟨g, 0, none⟩), .int .i64 k] w fun e w' => e = .returned (.bool (giveB n k)) ∧ Sat w0 w' (Credit g (giveC n k) :: L) := by
  obtain ⟨h0, h1, hs⟩ := CreditT.opn hs
  have hc := hs.cell 0 rfl
  have hf := hs.frozen 0
  by_cases hk : k < 1 ∨ 65536 - n < k
  · obtain ⟨e1, e2⟩ := giveB_no hk
    rw [e1, e2]
    clear e1 e2
    rcases hk with hk | hk
    all_goals
      by_cases hk1 : k < 1
      all_goals
        go_enter Try.func58, Try.ntmps58
        go_wp2
        go_ret
        exact ⟨by simp [*], CreditT.shut (by omega) (by omega) hs⟩
  · obtain ⟨e1, e2⟩ := giveB_yes (n := n) (k := k) (by omega) (by omega)
    rw [e1, e2]
    clear e1 e2
    have hk1 : 1 ≤ k := by omega
    have hk2 : k ≤ 65536 - n := by omega
    clear hk
    go_enter Try.func58, Try.ntmps58
    go_wp2
    go_ret
    exact ⟨by simp [*], CreditT.shut (by omega) (by omega) (hs.set 0 _)⟩

set_option maxHeartbeats 400000 in
theorem rcredit_Give (g : Nat) (n k : Int) (hs : Sat w0 w (RCredit g n :: L)) :
    Calls Try.prog 60 #[.pointer (some ⟨g, 0, none⟩), .int .i64 k] w fun e w' => e = .returned (.bool (giveB n k)) ∧ Sat w0 w' (RCredit g (giveC n k) :: L) := by
  obtain ⟨h0, h1, hs⟩ := CreditT.opn hs
  have hc := hs.cell 0 rfl
  have hf := hs.frozen 0
  by_cases hk : k < 1 ∨ 65536 - n < k
  · obtain ⟨e1, e2⟩ := giveB_no hk
    rw [e1, e2]
    clear e1 e2
    rcases hk with hk | hk
    all_goals
      by_cases hk1 : k < 1
      all_goals
        go_enter Try.func60, Try.ntmps60
        go_wp2
        go_ret
        exact ⟨by simp [*], CreditT.shut (by omega) (by omega) hs⟩
  · obtain ⟨e1, e2⟩ := giveB_yes (n := n) (k := k) (by omega) (by omega)
    rw [e1, e2]
    clear e1 e2
    have hk1 : 1 ≤ k := by omega
    have hk2 : k ≤ 65536 - n := by omega
    clear hk
    go_enter Try.func60, Try.ntmps60
    go_wp2
    go_ret
    exact ⟨by simp [*], CreditT.shut (by omega) (by omega) (hs.set 0 _)⟩
end
end Go.Proofs.Ytkejadhkebjdcaa
