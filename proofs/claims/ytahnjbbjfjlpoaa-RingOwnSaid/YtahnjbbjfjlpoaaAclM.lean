/- Rules: acl.May walked. -/
import Derived.Test.YtahnjbbjfjlpoaaAclB
namespace Go.Proofs.Ytahnjbbjfjlpoaa
open Go Go.RowKit
set_option linter.unusedVariables false
set_option linter.unusedSimpArgs false

structure RuleM where
  kind : Int
  allow : Bool
  net : List UInt8
  bits : Int
  name : ByteArray
  low : Int
  high : Int
def RuleM.kindB (r : RuleM) : Bool :=
  if r.kind = 0 then r.net.length == 0 && r.name.size == 0 && r.bits == 0
  else if r.kind = 1 then (r.net.length == 4 || r.net.length == 16) && decide (0 ≤ r.bits) && decide (r.bits ≤ 8 * r.net.length) && plainB r.net r.bits.toNat && r.name.size == 0
  else if r.kind = 2 then nameOk r.name.data.toList && r.net.length == 0 && r.bits == 0 else false
def RuleM.may (r : RuleM) : Bool := decide (0 ≤ r.low) && decide (r.high ≤ 65535) && decide (r.low ≤ r.high) && r.kindB
def ruC (r : RuleM) (v : Value) : List Value := [.int .i64 r.kind, .bool r.allow, v, .int .i64 r.bits, .string r.name, .int .i64 r.low, .int .i64 r.high]
def ruV (r : RuleM) (v : Value) : Value := .agg #[.int .i64 r.kind, .bool r.allow, v, .int .i64 r.bits, .string r.name, .int .i64 r.low, .int .i64 r.high]

theorem size_nil (s : ByteArray) : (s.size == 0) = decide (s.toList = []) := by
  rw [← isEmpty_size, Bool.eq_iff_iff]
  simp
section
variable {w0 w : World} {L : List Assn}
set_option maxRecDepth 100000 in
set_option maxHeartbeats 2000000 in
theorem acl_May (r : RuleM) (x : Option Addr) (c : Nat) (hr : RdB w (.slice x r.net.length c) r.net) (hn : r.name.size ≤ maxLen) :
    Calls Try.prog 20 #[ruV r (.slice x r.net.length c)] w fun e w' => e = .returned (.bool r.may) ∧ Below w.heap.size w w' := by
  unfold ruV
  have hB : ∀ o, Below w.heap.size w (w.alloc o) := fun o => (Below.refl _ _).alloc (Nat.le_refl _) _
  have hl := hr.len
  by_cases hp : r.low < 0 ∨ 65535 < r.high ∨ r.high < r.low
  · have e1 : r.may = false := by unfold RuleM.may; rw [Bool.eq_false_iff]; simp; omega
    rw [e1]
    clear e1
    have hp' : r.low < 0 ∨ (¬ r.low < 0 ∧ 65535 < r.high) ∨ (¬ r.low < 0 ∧ ¬ 65535 < r.high ∧ r.high < r.low) := by omega
    clear hp
    rcases hp' with hp | ⟨hp, hp2⟩ | ⟨hp, hp2, hp3⟩
    all_goals
      go_enter Try.func20, Try.ntmps20
      go_wp2
      go_ret
      exact ⟨rfl, hB _⟩
  · have hp1 : ¬ r.low < 0 := by omega
    have hp2 : ¬ 65535 < r.high := by omega
    have hp3 : ¬ r.high < r.low := by omega
    have e0 : r.may = r.kindB := by unfold RuleM.may; simp; omega
    clear hp
    by_cases h0 : r.kind = 0
    · have E1 := hid_ (show r.may = (r.net.length == 0 && r.name.size == 0 && r.bits == 0) by rw [e0]; unfold RuleM.kindB; rw [if_pos h0])
      have hb0 : (r.kind == 0) = true := by simp [h0]
      clear e0 h0
      go_enter Try.func20, Try.ntmps20
      go_wp2
      all_goals
        go_ret
        exact ⟨ret_bool (by rw [E1.out, size_nil]; simp_all), hB _⟩
    · have hb0 : (r.kind == 0) = false := by simp [h0]
      by_cases h1 : r.kind = 1
      · have E1 := hid_ (show r.may = ((r.net.length == 4 || r.net.length == 16) && decide (0 ≤ r.bits) && decide (r.bits ≤ 8 * r.net.length) && plainB r.net r.bits.toNat && r.name.size == 0) by rw [e0]; unfold RuleM.kindB; rw [if_neg h0, if_pos h1])
        have hb1 : (r.kind == 1) = true := by simp [h1]
        clear e0 h0 h1
        by_cases h4 : r.net.length = 4 ∨ r.net.length = 16
        · by_cases hbt : 0 ≤ r.bits ∧ r.bits ≤ 8 * r.net.length
          · obtain ⟨hq1, hq2⟩ := hbt
            obtain ⟨k, hk⟩ := Int.eq_ofNat_of_zero_le hq1
            cases hpl : plainB r.net k
            all_goals
              have E2 := hid_ (show r.may = (plainB r.net k && r.name.size == 0) by rw [E1.out, hk]; rw [hk] at hq2; rcases h4 with h4 | h4 <;> (rw [h4] at hq2 ⊢; rw [decide_eq_true hq2]; simp))
              have HP := hid_ hpl
              rcases h4 with h4 | h4
              all_goals
                have hL1 : r.net.length ≤ 1000 := by omega
                have hL2 : k ≤ 8 * r.net.length := by omega
                have hpc := acl_plain _ r.net k hL1 hL2 (hr.mono (hB (.cells #[.int .i64 r.kind, .bool r.allow, .slice x r.net.length c, .int .i64 r.bits, .string r.name, .int .i64 r.low, .int .i64 r.high] 46 (0, 0))))
                rw [hk, h4] at hpc
                rw [hk, h4]
                have HPC := hid_ hpc
                have hkk : (k : Int) ≤ (8 * r.net.length : Nat) := by omega
                rw [h4] at hkk
                clear hpl hq1 hq2 hk h4 E1 hL1 hL2 hpc
                go_enter Try.func20, Try.ntmps20
                go_wp2_with fail
                refine HPC.out.mono ?_
                rintro _ _ ⟨rfl, rfl⟩
                rw [HP.out]
                go_wp2
                all_goals
                  go_ret
                  exact ⟨ret_bool (by rw [E2.out, HP.out, size_nil]; simp_all; try (rw [Bool.eq_iff_iff]; simp)), hB _⟩
          · have E2 := hid_ (show r.may = false by rw [E1.out, Bool.eq_false_iff]; simp; intro _ g1 g2; exact absurd ⟨g1, g2⟩ hbt)
            have hbt' : r.bits < 0 ∨ (¬ r.bits < 0 ∧ 8 * (r.net.length : Int) < r.bits) := by omega
            rcases hbt' with hq | ⟨hq, hq2⟩
            all_goals rcases h4 with h4 | h4
            all_goals
              (try rw [h4] at hq2)
              rw [h4]
              clear hbt h4 E1
              go_enter Try.func20, Try.ntmps20
              go_wp2
              all_goals
                go_ret
                exact ⟨ret_bool E2.out.symm, hB _⟩
        · have E2 := hid_ (show r.may = false by rw [E1.out, Bool.eq_false_iff]; simp; intro g1; exact absurd g1 h4)
          have g4 : ((r.net.length : Int) == 4) = false := by rw [beq_eq_false_iff_ne]; omega
          have g16 : ((r.net.length : Int) == 16) = false := by rw [beq_eq_false_iff_ne]; omega
          clear h4 E1
          go_enter Try.func20, Try.ntmps20
          go_wp2
          all_goals
            go_ret
            exact ⟨ret_bool E2.out.symm, hB _⟩
      · have hb1 : (r.kind == 1) = false := by simp [h1]
        by_cases h2 : r.kind = 2
        · have E1 := hid_ (show r.may = (nameOk r.name.data.toList && r.net.length == 0 && r.bits == 0) by rw [e0]; unfold RuleM.kindB; rw [if_neg h0, if_neg h1, if_pos h2])
          have hb2 : (r.kind == 2) = true := by simp [h2]
          clear e0 h0 h1 h2
          cases hok : nameOk r.name.data.toList
          all_goals
            have HN := hid_ hok
            clear hok
            go_enter Try.func20, Try.ntmps20
            go_wp2_with fail
            refine (acl_named _ hn).mono ?_
            rintro _ w1 ⟨rfl, h1⟩
            rw [HN.out]
            have h2 := ((Sat.refl w).alloc _).under h1
            have q2 : w1.cell? ⟨w.heap.size, 2, none⟩ = some _ := h2.cell 2 rfl
            have q3 : w1.cell? ⟨w.heap.size, 3, none⟩ = some _ := h2.cell 3 rfl
            go_wp2
            all_goals
              go_ret
              exact ⟨ret_bool (by rw [E1.out, HN.out]; simp_all), h2.below⟩
        · have E1 := hid_ (show r.may = false by rw [e0]; unfold RuleM.kindB; rw [if_neg h0, if_neg h1, if_neg h2])
          have hb2 : (r.kind == 2) = false := by simp [h2]
          clear e0 h0 h1 h2
          go_enter Try.func20, Try.ntmps20
          go_wp2
          all_goals
            go_ret
            exact ⟨ret_bool E1.out.symm, hB _⟩
end
end Go.Proofs.Ytahnjbbjfjlpoaa
