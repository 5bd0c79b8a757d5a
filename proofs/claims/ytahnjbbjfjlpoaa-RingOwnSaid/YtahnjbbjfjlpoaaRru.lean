/- The document's rules: bit, MayRule; walked. -/
import Derived.Deep.LoopGhost
import Derived.Test.YtahnjbbjfjlpoaaTeA
import Derived.Test.YtahnjbbjfjlpoaaRefAd
namespace Go.Proofs.Ytahnjbbjfjlpoaa
open Go Go.RowKit
set_option linter.unusedVariables false
set_option linter.unusedSimpArgs false
section
variable {w0 w : World} {L : List Assn}
theorem rr_bit (v : Value) (l : List UInt8) (i : Nat) (hi : i < 8 * l.length) (hr : RdB w v l) :
    Calls Try.prog 33 #[v, .int .i64 i] w fun e w' => e = .returned (.int .u8 (bitN l i)) ∧ w = w' := by
  have hl := hr.len
  unfold maxLen at hl
  unfold bitN
  obtain ⟨q, hq⟩ : ∃ q, i / 8 = q := ⟨_, rfl⟩
  obtain ⟨r, hrr⟩ : ∃ r, i % 8 = r := ⟨_, rfl⟩
  obtain ⟨b, off, cap, rfl, h1, h2, h3, h4⟩ := hr.at (i := q) (by omega)
  have e1 : Int.tdiv (i : Int) 8 = (q : Int) := by rw [Int.tdiv_eq_ediv_of_nonneg (by omega)]; omega
  have e2 : Int.tmod (i : Int) 8 = (r : Int) := by rw [Int.tmod_eq_emod_of_nonneg (by omega)]; omega
  have e3 := h4 q (by omega)
  have hr7 : r ≤ 7 := by omega
  have hq1 : (q : Int) < l.length := by omega
  rw [hq, hrr]
  obtain ⟨x, hx⟩ : ∃ x, (l.getD q 0).toNat = x := ⟨_, rfl⟩
  have hx1 : x < 256 := by rw [← hx]; exact UInt8.toNat_lt _
  rw [hx] at e3 ⊢
  have e4 : bits .and .u8 ((x : Int) / 2 ^ (7 - r)) 1 = ((x / 2 ^ (7 - r) % 2 : Nat) : Int) := by
    rw [← u8_and1 _ (Nat.lt_of_le_of_lt (Nat.div_le_self _ _) hx1)]
    congr 1
  have e5 : IntKind.u64.wrap (7 - (r : Int)) = 7 - (r : Int) := by unfold IntKind.wrap; simp [IntKind.signed, IntKind.bits]; omega
  clear hq hrr hi h4 hx hx1
  go_enter Try.func33, Try.ntmps33
  go_wp2_with fail
  go_ret
  exact ⟨rfl, rfl⟩


set_option maxRecDepth 100000 in
set_option maxHeartbeats 4000000 in
theorem ref_MayRule (r : RuleM) (x : Option Addr) (c : Nat) (hr : RdRu w r x c) :
    Calls Try.prog 21 #[ruV r (.slice x r.net.length c)] w fun e w' => e = .returned (.bool r.may) ∧ Below w.heap.size w w' := by
  unfold ruV
  have hB : ∀ o, Below w.heap.size w (w.alloc o) := fun o => (Below.refl _ _).alloc (Nat.le_refl _) _
  have hl := hr.net.len
  have hn := hr.name
  by_cases hp : r.low < 0 ∨ 65535 < r.high ∨ r.high < r.low
  · have e1 : r.may = false := by unfold RuleM.may; rw [Bool.eq_false_iff]; simp; omega
    rw [e1]
    clear e1
    have hp' : r.low < 0 ∨ (¬ r.low < 0 ∧ 65535 < r.high) ∨ (¬ r.low < 0 ∧ ¬ 65535 < r.high ∧ r.high < r.low) := by omega
    clear hp
    rcases hp' with hp | ⟨hp, hp2⟩ | ⟨hp, hp2, hp3⟩
    all_goals
      go_enter Try.func21, Try.ntmps21
      go_wp2
      go_ret
      exact ⟨rfl, hB _⟩
  · have hp1 : ¬ r.low < 0 := by omega
    have hp2 : ¬ 65535 < r.high := by omega
    have hp3 : ¬ r.high < r.low := by omega
    have e0 : r.may = r.kindB := by unfold RuleM.may; simp; omega
    clear hp
    by_cases h0 : r.kind = 0
    · have E1 := hid_ (show r.may = (r.net.length == 0 && r.name.size == 0 && r.bits == 0) by rw [e0]; unfold RuleM.kindB; rw [if_pos h0])
      have hb0 : (r.kind == 0) = true := by simp [h0]
      clear e0 h0
      go_enter Try.func21, Try.ntmps21
      go_wp2
      all_goals
        go_ret
        exact ⟨ret_bool (by rw [E1.out, size_nil]; simp_all), hB _⟩
    · have hb0 : (r.kind == 0) = false := by simp [h0]
      by_cases h2 : r.kind = 2
      · have h1 : r.kind ≠ 1 := by omega
        have E1 := hid_ (show r.may = (nameOk r.name.data.toList && r.net.length == 0 && r.bits == 0) by rw [e0]; unfold RuleM.kindB; rw [if_neg h0, if_neg h1, if_pos h2])
        have hb2 : (r.kind == 2) = true := by simp [h2]
        have hb1 : (r.kind == 1) = false := by simp [h1]
        clear e0 h0 h1 h2
        by_cases hz : r.net.length = 0
        · have bz : ((r.net.length : Int) == 0) = true := by simp [hz]
          cases hok : nameOk r.name.data.toList
          all_goals
            have HN := hid_ hok
            have HZ := hid_ hz
            clear hok hz
            go_enter Try.func21, Try.ntmps21
            go_wp2_with fail
            refine (ref_mayName _ hn).mono ?_
            rintro _ w1 ⟨rfl, rfl⟩
            rw [HN.out]
            go_wp2
            all_goals
              go_ret
              exact ⟨ret_bool (by rw [E1.out, HN.out, HZ.out]; simp_all), hB _⟩
        · have bz : ((r.net.length : Int) == 0) = false := by rw [beq_eq_false_iff_ne]; omega
          have E2 := hid_ (show r.may = false by rw [E1.out]; simp [hz])
          clear hz
          go_enter Try.func21, Try.ntmps21
          go_wp2
          all_goals
            go_ret
            exact ⟨ret_bool E2.out.symm, hB _⟩
      · have hb2 : (r.kind == 2) = false := by simp [h2]
        by_cases h1 : r.kind = 1
        · have E1 := hid_ (show r.may = ((r.net.length == 4 || r.net.length == 16) && decide (0 ≤ r.bits) && decide (r.bits ≤ 8 * r.net.length) && plainB r.net r.bits.toNat && r.name.size == 0) by rw [e0]; unfold RuleM.kindB; rw [if_neg h0, if_pos h1])
          have hb1 : (r.kind == 1) = true := by simp [h1]
          clear e0 h0 h1 h2
          by_cases h4 : r.net.length = 4 ∨ r.net.length = 16
          · by_cases hbt : 0 ≤ r.bits ∧ r.bits ≤ 8 * r.net.length
            · obtain ⟨hq1, hq2⟩ := hbt
              obtain ⟨k, hk⟩ := Int.eq_ofNat_of_zero_le hq1
              have hL1 : r.net.length ≤ 1000 := by omega
              have hkl : k ≤ 8 * r.net.length := by omega
              have g416 : ((r.net.length : Int) == 4 || (r.net.length : Int) == 16) = true := by rcases h4 with h | h <;> simp [h]
              have hsz := size_nil r.name
              cases hnm : (r.name.size == 0)
              · have E2 := hid_ (show r.may = false by rw [E1.out, hnm]; simp)
                have hsz2 := (isEmpty_size r.name).trans hnm
                rcases h4 with h4 | h4
                all_goals
                  rw [hk, h4]
                  rw [h4] at hkl
                  clear hq1 hq2 hk h4 E1 g416 hnm hsz hL1 hl
                  go_enter Try.func21, Try.ntmps21
                  go_wp2
                  all_goals
                    go_ret
                    exact ⟨ret_bool E2.out.symm, hB _⟩
              · have E2 := hid_ (show r.may = plainB r.net k by rw [E1.out, hnm, hk]; rw [hk] at hq2; rcases h4 with h | h <;> (rw [h] at hq2 ⊢; rw [decide_eq_true hq2]; simp))
                have hsz2 := (isEmpty_size r.name).trans hnm
                obtain ⟨N, hN⟩ : ∃ N, r.net.length = N := ⟨_, rfl⟩
                have HN := hid_ hN
                have hB2 := hB (.cells #[.int .i64 r.kind, .bool r.allow, .slice x r.net.length c, .int .i64 r.bits, .string r.name, .int .i64 r.low, .int .i64 r.high] 46 (0, 0))
                have hbit := hid_ (fun (i : Nat) (hi : i < 8 * r.net.length) => rr_bit _ r.net i hi (hr.net.mono hB2))
                have hs2 := (Sat.refl w).alloc (.cells #[.int .i64 r.kind, .bool r.allow, .slice x r.net.length c, .int .i64 r.bits, .string r.name, .int .i64 r.low, .int .i64 r.high] 46 (0, 0))
                have q2 := hs2.cell 2 (v := .slice x r.net.length c) rfl
                rw [hk] at hbit hs2 hB2 q2 ⊢
                clear hq1 hq2 hk E1 g416 hnm hsz
                rw [hN] at h4 hkl hL1 hbit hs2 hB2 q2 ⊢
                have h4' : (N : Int) = 4 ∨ (N : Int) = 16 := by omega
                clear hN hl
                rcases h4 with rfl | rfl
                · clear h4'
                  go_enter Try.func21, Try.ntmps21
                  go_wp2_with fail
                  go_loopw [3] (fun vi wr => ∃ i : Nat, k ≤ i ∧ i ≤ 8 * r.net.length ∧ vi = .int .i64 i ∧ w.alloc (.cells #[.int .i64 r.kind, .bool r.allow, .slice x 4 c, .int .i64 k, .string r.name, .int .i64 r.low, .int .i64 r.high] 46 (0, 0)) = wr ∧ ∀ j, k ≤ j → j < i → bitN r.net j = 0) (fun vi _ => 8 * 4 - (intOf vi).toNat)
                  case atStart => exact ⟨k, Nat.le_refl _, by rw [HN.out]; exact hkl, rfl, rfl, fun j h1 h2 => by omega⟩
                  case round =>
                    obtain ⟨i, hi1, hi2, rfl, rfl, hb⟩ := hrel
                    rw [HN.out] at hi2
                    have HB := hid_ hb
                    clear hb
                    by_cases hlt : i < 8 * 4
                    · have hbi := hid_ (hbit.out i hlt)
                      go_wp2_with fail
                      refine hbi.out.mono ?_
                      rintro _ _ ⟨rfl, rfl⟩
                      by_cases h0 : bitN r.net i = 0
                      · rw [h0]
                        go_wp2_with fail
                        go_roundw
                        case rel =>
                          refine ⟨i + 1, by omega, by rw [HN.out]; omega, by go_num, (by first | rfl | trivial), fun j h1 h2 => ?_⟩
                          by_cases hj : j = i
                          · rw [hj]; exact h0
                          · exact HB.out j h1 (by omega)
                        case measure => simp [intOf]; omega
                      · have hne : (((bitN r.net i : Nat) : Int) != 0) = true := by simp [h0]
                        have hfin : plainB r.net k = false := by
                          unfold plainB
                          rw [List.all_eq_false]
                          exact ⟨i - k, by rw [List.mem_range, HN.out]; omega, by simp [show k + (i - k) = i by omega, h0]⟩
                        have HF := hid_ hfin
                        clear h0 hfin
                        go_wp2_with fail
                        go_ret
                        exact ⟨ret_bool (by rw [E2.out, HF.out]), hB2⟩
                    · obtain rfl : i = 8 * 4 := by omega
                      have hfin : plainB r.net k = true := by
                        unfold plainB
                        rw [List.all_eq_true]
                        intro j hj
                        rw [List.mem_range, HN.out] at hj
                        simp [HB.out (k + j) (by omega) (by omega)]
                      have HF := hid_ hfin
                      clear hfin
                      go_wp2_with fail
                      go_ret
                      exact ⟨ret_bool (by rw [E2.out, HF.out]), hB2⟩
                · clear h4'
                  go_enter Try.func21, Try.ntmps21
                  go_wp2_with fail
                  go_loopw [3] (fun vi wr => ∃ i : Nat, k ≤ i ∧ i ≤ 8 * r.net.length ∧ vi = .int .i64 i ∧ w.alloc (.cells #[.int .i64 r.kind, .bool r.allow, .slice x 16 c, .int .i64 k, .string r.name, .int .i64 r.low, .int .i64 r.high] 46 (0, 0)) = wr ∧ ∀ j, k ≤ j → j < i → bitN r.net j = 0) (fun vi _ => 8 * 16 - (intOf vi).toNat)
                  case atStart => exact ⟨k, Nat.le_refl _, by rw [HN.out]; exact hkl, rfl, rfl, fun j h1 h2 => by omega⟩
                  case round =>
                    obtain ⟨i, hi1, hi2, rfl, rfl, hb⟩ := hrel
                    rw [HN.out] at hi2
                    have HB := hid_ hb
                    clear hb
                    by_cases hlt : i < 8 * 16
                    · have hbi := hid_ (hbit.out i hlt)
                      go_wp2_with fail
                      refine hbi.out.mono ?_
                      rintro _ _ ⟨rfl, rfl⟩
                      by_cases h0 : bitN r.net i = 0
                      · rw [h0]
                        go_wp2_with fail
                        go_roundw
                        case rel =>
                          refine ⟨i + 1, by omega, by rw [HN.out]; omega, by go_num, (by first | rfl | trivial), fun j h1 h2 => ?_⟩
                          by_cases hj : j = i
                          · rw [hj]; exact h0
                          · exact HB.out j h1 (by omega)
                        case measure => simp [intOf]; omega
                      · have hne : (((bitN r.net i : Nat) : Int) != 0) = true := by simp [h0]
                        have hfin : plainB r.net k = false := by
                          unfold plainB
                          rw [List.all_eq_false]
                          exact ⟨i - k, by rw [List.mem_range, HN.out]; omega, by simp [show k + (i - k) = i by omega, h0]⟩
                        have HF := hid_ hfin
                        clear h0 hfin
                        go_wp2_with fail
                        go_ret
                        exact ⟨ret_bool (by rw [E2.out, HF.out]), hB2⟩
                    · obtain rfl : i = 8 * 16 := by omega
                      have hfin : plainB r.net k = true := by
                        unfold plainB
                        rw [List.all_eq_true]
                        intro j hj
                        rw [List.mem_range, HN.out] at hj
                        simp [HB.out (k + j) (by omega) (by omega)]
                      have HF := hid_ hfin
                      clear hfin
                      go_wp2_with fail
                      go_ret
                      exact ⟨ret_bool (by rw [E2.out, HF.out]), hB2⟩
            · have E2 := hid_ (show r.may = false by rw [E1.out, Bool.eq_false_iff]; simp; intro _ g1 g2; exact absurd ⟨g1, g2⟩ hbt)
              have hbt' : r.bits < 0 ∨ (¬ r.bits < 0 ∧ 8 * (r.net.length : Int) < r.bits) := by omega
              rcases hbt' with hq | ⟨hq, hq2⟩
              all_goals rcases h4 with h4 | h4
              all_goals
                (try rw [h4] at hq2)
                rw [h4]
                clear hbt h4 E1
                go_enter Try.func21, Try.ntmps21
                go_wp2
                all_goals
                  go_ret
                  exact ⟨ret_bool E2.out.symm, hB _⟩
          · have E2 := hid_ (show r.may = false by rw [E1.out, Bool.eq_false_iff]; simp; intro g1; exact absurd g1 h4)
            have g4 : ((r.net.length : Int) != 4) = true := by rw [bne_iff_ne]; omega
            have g16 : ((r.net.length : Int) != 16) = true := by rw [bne_iff_ne]; omega
            clear h4 E1
            go_enter Try.func21, Try.ntmps21
            go_wp2
            all_goals
              go_ret
              exact ⟨ret_bool E2.out.symm, hB _⟩
        · have E1 := hid_ (show r.may = false by rw [e0]; unfold RuleM.kindB; rw [if_neg h0, if_neg h1, if_neg h2])
          have hb1 : (r.kind == 1) = false := by simp [h1]
          clear e0 h0 h1 h2
          go_enter Try.func21, Try.ntmps21
          go_wp2
          all_goals
            go_ret
            exact ⟨ret_bool E1.out.symm, hB _⟩
end
end Go.Proofs.Ytahnjbbjfjlpoaa
