/- addr.Decode, walked. -/
import Derived.Deep.RegionHeld3
import Derived.Deep.DeepCutAuto
import Derived.Test.YtkejadhkebjdcaaApp
import Derived.Test.YtkejadhkebjdcaaAdE
namespace Go.Proofs.Ytkejadhkebjdcaa
open Go Go.RowKit
set_option linter.unusedVariables false
set_option linter.unusedSimpArgs false

theorem ret_three {a b c a' b' c' : Value} (h1 : a = a') (h2 : b = b') (h3 : c = c') : Ending.returned (.tuple #[a, b, c]) = .returned (.tuple #[a', b', c']) := by rw [h1, h2, h3]
theorem i64_eq {a b : Int} (h : a = b) : Value.int .i64 a = Value.int .i64 b := by rw [h]
theorem lens_ok {b : List UInt8} {n ah : Nat} (h : lensB b = (0, n, ah)) : ((b.getD 0 0).toNat = 1 ∧ n = 4 ∧ ah = 0 ∨ (b.getD 0 0).toNat = 4 ∧ n = 16 ∧ ah = 0) ∨ ((b.getD 0 0).toNat = 3 ∧ 2 ≤ b.length ∧ n = (b.getD 1 0).toNat ∧ 1 ≤ n ∧ n ≤ 64 ∧ ah = 1) := by
  unfold lensB at h
  split at h
  · injection h with _ h; injection h with h1 h2; left; left; omega
  · split at h
    · injection h with _ h; injection h with h1 h2; left; right; omega
    · split at h
      · split at h
        · injection h with h _; exact absurd h (by decide)
        · split at h
          · injection h with h _; exact absurd h (by decide)
          · injection h with _ h; injection h with h1 h2; right; omega
      · injection h with h _; exact absurd h (by decide)
theorem lens_no {b : List UInt8} {e : Int} {n ah : Nat} (h : lensB b = (e, n, ah)) (he : e ≠ 0) : (e = 2 ∨ e = 3) ∧ n = 0 ∧ ah = 0 := by
  unfold lensB at h
  split at h
  · injection h with h _; exact absurd h.symm he
  · split at h
    · injection h with h _; exact absurd h.symm he
    · split at h
      · split at h
        · injection h with h h2; injection h2 with h3 h4; omega
        · split at h
          · injection h with h h2; injection h2 with h3 h4; omega
          · injection h with h _; exact absurd h.symm he
      · injection h with h h2; injection h2 with h3 h4; omega

section
variable {w0 w : World} {L : List Assn}
set_option maxRecDepth 100000 in
set_option maxHeartbeats 1000000 in
theorem addr_lengths {v : Value} {b : List UInt8} (hr : RdB w v b) (h0 : 0 < b.length) :
    Calls Try.prog 89 #[v] w fun e w' => e = .returned (.tuple #[.int .i64 (lensB b).2.1, .int .i64 (lensB b).2.2, .int .i64 (lensB b).1]) ∧ w = w' := by
  obtain ⟨b0, o0, c0, rfl, hlt, hc1, hc2, hcell⟩ := hr.at h0
  have hmx := hr.len
  unfold maxLen at hmx
  have g0 : w.cell? ⟨b0, o0, none⟩ = some (.int .u8 (b.getD 0 0).toNat) := hcell 0 h0
  have hL : lensB b = if (b.getD 0 0).toNat = 1 then (0, 4, 0)
    else if (b.getD 0 0).toNat = 4 then (0, 16, 0)
    else if (b.getD 0 0).toNat = 3 then (if b.length < 2 then (2, 0, 0) else if (b.getD 1 0).toNat = 0 ∨ 64 < (b.getD 1 0).toNat then (3, 0, 0) else (0, (b.getD 1 0).toNat, 1))
    else (3, 0, 0) := rfl
  obtain ⟨x, hx⟩ : ∃ x : Nat, (b.getD 0 0).toNat = x := ⟨_, rfl⟩
  rw [hx] at g0 hL
  have hz : (0 : Int) < (b.length : Int) := by omega
  by_cases h1 : x = 1
  · have E := hid_ (hL.trans (if_pos h1))
    have q1 : ((x : Int) == 1) = true := by simp [h1]
    clear hL hx h1 hcell
    go_enter Try.func89, Try.ntmps89
    go_wp2
    go_ret3
    exact ⟨ret_three (by rw [E.out]; rfl) (by rw [E.out]; rfl) (by rw [E.out]; rfl), rfl⟩
  · rw [if_neg h1] at hL
    have q1 : ((x : Int) == 1) = false := by rw [beq_eq_false_iff_ne]; omega
    by_cases h4 : x = 4
    · have E := hid_ (hL.trans (if_pos h4))
      have q4 : ((x : Int) == 4) = true := by simp [h4]
      clear hL hx h1 h4 hcell
      go_enter Try.func89, Try.ntmps89
      go_wp2
      go_ret3
      exact ⟨ret_three (by rw [E.out]; rfl) (by rw [E.out]; rfl) (by rw [E.out]; rfl), rfl⟩
    · rw [if_neg h4] at hL
      have q4 : ((x : Int) == 4) = false := by rw [beq_eq_false_iff_ne]; omega
      by_cases h3 : x = 3
      · rw [if_pos h3] at hL
        have q3 : ((x : Int) == 3) = true := by simp [h3]
        by_cases h2 : b.length < 2
        · have E := hid_ (hL.trans (if_pos h2))
          have q2 : decide (b.length < 2) = true := by simpa using h2
          have q2' : decide ((b.length : Int) < 2) = true := by simp; omega
          clear hL hx h1 h4 h3 hcell
          go_enter Try.func89, Try.ntmps89
          go_wp2
          go_ret3
          exact ⟨ret_three (by rw [E.out]; rfl) (by rw [E.out]; rfl) (by rw [E.out]; rfl), rfl⟩
        · rw [if_neg h2] at hL
          have q2 : decide (b.length < 2) = false := by simpa using h2
          have q2' : decide ((b.length : Int) < 2) = false := by simp; omega
          have g1 : w.cell? ⟨b0, o0 + 1, none⟩ = some (.int .u8 (b.getD 1 0).toNat) := hcell 1 (by omega)
          have hz1 : (1 : Int) < (b.length : Int) := by omega
          obtain ⟨y, hy⟩ : ∃ y : Nat, (b.getD 1 0).toNat = y := ⟨_, rfl⟩
          rw [hy] at g1 hL
          have hyb : y < 256 := by rw [← hy]; exact UInt8.toNat_lt _
          by_cases h5 : y = 0
          · have E := hid_ (hL.trans (if_pos (.inl h5)))
            have q5 : ((y : Int) == 0) = true := by simp [h5]
            clear hL hx h1 h4 h3 h2 hy h5 hcell
            go_enter Try.func89, Try.ntmps89
            go_wp2
            go_ret3
            exact ⟨ret_three (by rw [E.out]; rfl) (by rw [E.out]; rfl) (by rw [E.out]; rfl), rfl⟩
          · have q5 : ((y : Int) == 0) = false := by rw [beq_eq_false_iff_ne]; omega
            by_cases h6 : 64 < y
            · have E := hid_ (hL.trans (if_pos (.inr h6)))
              have q6 : decide ((64 : Int) < (y : Int)) = true := by simp; omega
              clear hL hx h1 h4 h3 h2 hy h5 hcell
              go_enter Try.func89, Try.ntmps89
              go_wp2
              go_ret3
              exact ⟨ret_three (by rw [E.out]; rfl) (by rw [E.out]; rfl) (by rw [E.out]; rfl), rfl⟩
            · have E := hid_ (hL.trans (if_neg (by omega)))
              have q6 : decide ((64 : Int) < (y : Int)) = false := by simp; omega
              clear hL hx h1 h4 h3 h2 hy h5 hcell
              go_enter Try.func89, Try.ntmps89
              go_wp2
              go_ret3
              exact ⟨ret_three (by rw [E.out]; rfl) (by rw [E.out]; rfl) (by rw [E.out]; rfl), rfl⟩
      · have E := hid_ (hL.trans (if_neg h3))
        have q3 : ((x : Int) == 3) = false := by rw [beq_eq_false_iff_ne]; omega
        clear hL hx h1 h4 h3 hcell
        go_enter Try.func89, Try.ntmps89
        go_wp2
        go_ret3
        exact ⟨ret_three (by rw [E.out]; rfl) (by rw [E.out]; rfl) (by rw [E.out]; rfl), rfl⟩
end
end Go.Proofs.Ytkejadhkebjdcaa
