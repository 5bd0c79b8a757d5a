/- The laws over calls of a credit. -/
import Derived.Test.YtipkcbphjgmgiaaCreditA
namespace Go.Proofs.Ytipkcbphjgmgiaa
open Go Go.RowKit
set_option linter.unusedVariables false
set_option linter.unusedSimpArgs false

/-- A slice of ints that came in. -/
def IntsIn (w : World) (a : Option Addr) (len cap : Nat) (zs : List Int) : Prop :=
  (a = none ∧ len = 0 ∧ cap = 0 ∧ zs = []) ∨
  ∃ x, a = some x ∧ len ≤ cap ∧ cap ≤ maxLen ∧ zs.length = cap ∧ (∀ i, i < zs.length → w.cell? (x.add i) = some (.int .i64 (zs.getD i 0))) ∧ ∀ n ∈ zs, (Lit.int .i64 n).wf = true

theorem IntsIn.at {w : World} {a : Option Addr} {len cap : Nat} {zs : List Int} (h : IntsIn w a len cap zs) {i : Nat} (hi : i < len) :
    ∃ b off, a = some ⟨b, off, none⟩ ∧ ∀ j, j < len → w.cell? ⟨b, off + j, none⟩ = some (.int .i64 (zs.getD j 0)) ∧ b < w.heap.size := by
  rcases h with ⟨_, rfl, _⟩ | ⟨x, rfl, hl, hm, hz, hc, _⟩
  · omega
  · obtain ⟨b, off, sp⟩ := x
    have h0 := hc 0 (by omega)
    have hsp : sp = none := by
      unfold Addr.add at h0
      rw [if_pos rfl] at h0
      unfold World.cell? at h0
      cases sp with
      | none => rfl
      | some y => simp at h0; split at h0 <;> cases h0
    subst hsp
    refine ⟨b, off, rfl, fun j hj => ?_⟩
    have h1 := hc j (by omega)
    have h2 : (⟨b, off, none⟩ : Addr).add j = ⟨b, off + j, none⟩ := by unfold Addr.add; split <;> simp_all
    rw [h2] at h1
    exact ⟨h1, World.block_lt_of_cell? w _ h1⟩
section
variable {w0 w : World} {L : List Assn}

set_option maxRecDepth 100000 in
set_option maxHeartbeats 1000000 in
theorem credit_sums_law (n : Int) (a : Option Addr) (len cap : Nat) (zs : List Int) (w : World) (hz : IntsIn w a len cap zs) (hn : (Lit.int .i64 n).wf = true) :
    Calls Try.prog 5 #[.int .i64 n, .slice a len cap] w fun e w' => e = .returned (.bool true) ∧ Below w.heap.size w w' := by
  have hs := Sat.refl w
  go_enter Try.func5, Try.ntmps5
  go_wp2_with fail
  refine (credit_New n hs).mono ?_
  rintro _ w1 ⟨g, rfl, h1⟩
  go_wp2_with fail
  have g1 := newC_bd n
  go_loopw [6, 7, 18] (fun vin vout vi wr => ∃ (i : Nat) (c out : Int), (i ≤ len ∧ i ≤ 200 ∧ 0 ≤ out ∧ out ≤ 65536 * i) ∧ vi = .int .i64 i ∧ vin = .int .i64 (c + out) ∧ vout = .int .i64 out ∧ Sat w wr [Credit g c]) (fun _ _ i _ => len - (intOf i).toNat)
  case atStart => exact ⟨0, newC n, 0, by omega, rfl, by simp [newC], rfl, h1⟩
  case round =>
    obtain ⟨i, c, out, ⟨hi1, hi2, ho1, ho2⟩, rfl, rfl, rfl, hs1⟩ := hrel
    clear h1
    obtain ⟨hc0, hc1, _⟩ := CreditT.opn hs1
    by_cases hlt : i < len
    · obtain ⟨b, off, rfl, hcell⟩ := hz.at hlt
      have hci : wr.cell? ⟨b, off + i, none⟩ = some (.int .i64 (zs.getD i 0)) := (hs1.below.cell (p := ⟨b, off + i, none⟩) (hcell i hlt).2).trans (hcell i hlt).1
      by_cases h200 : i < 200
      · generalize zs.getD i 0 = k at hci
        have hw1 := hs1.below
        go_wp2_with fail
        · refine (credit_Take g c k hs1).mono ?_
          rintro _ w2 ⟨rfl, h2⟩
          clear hs1 hci
          have hx : 0 ≤ takeC c k ∧ takeC c k ≤ c ∧ takeC c k ≤ max k 0 := by unfold takeC; omega
          generalize takeC c k = x at *
          obtain ⟨hx0, hx1, hx2⟩ := hx
          go_wp2_with ((with_reducible refine (credit_Left g _ h2).mono ?_); rintro _ _ ⟨rfl, rfl⟩)
          go_roundw
          case rel => exact ⟨i + 1, c - x, out + x, by omega, by go_num, by first | rfl | (congr 1; omega), rfl, h2⟩
          case measure => simp [intOf]; omega
        · refine (credit_Give g c k hs1).mono ?_
          rintro _ w2 ⟨rfl, h2⟩
          clear hs1 hci
          by_cases hk : k < 1 ∨ 65536 - c < k
          · obtain ⟨e1, e2⟩ := giveB_no hk
            rw [e1]
            rw [e2] at h2
            clear e1 e2
            go_wp2_with ((with_reducible refine (credit_Left g _ h2).mono ?_); rintro _ _ ⟨rfl, rfl⟩)
            go_roundw
            case rel => exact ⟨i + 1, c, out, by omega, by go_num, by first | rfl | (congr 1; omega), rfl, h2⟩
            case measure => simp [intOf]; omega
          · obtain ⟨e1, e2⟩ := giveB_yes (n := c) (k := k) (by omega) (by omega)
            rw [e1]
            rw [e2] at h2
            clear e1 e2
            go_wp2_with ((with_reducible refine (credit_Left g _ h2).mono ?_); rintro _ _ ⟨rfl, rfl⟩)
            go_roundw
            case rel => exact ⟨i + 1, c + k, out, by omega, by go_num, by first | rfl | (congr 1; omega), rfl, h2⟩
            case measure => simp [intOf]; omega
      · go_wp2_with fail
        refine (credit_awake hs1).mono ?_
        rintro _ w2 ⟨rfl, h2⟩
        go_wp2_with fail
        go_ret
        exact ⟨rfl, h2.below⟩
    · go_wp2_with fail
      refine (credit_awake hs1).mono ?_
      rintro _ w2 ⟨rfl, h2⟩
      go_wp2_with fail
      go_ret
      exact ⟨rfl, h2.below⟩
end
end Go.Proofs.Ytipkcbphjgmgiaa
