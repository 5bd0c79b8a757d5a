/- The document's at, High, walked. -/
import Derived.Test.YtanihjibjjpdbaaDoorRefEn
import Derived.Test.YtanihjibjjpdbaaDoorVw
namespace Go.Proofs.YtanihjibjjpdbaaDoor
open Go Go.RowKit
set_option linter.unusedVariables false
set_option linter.unusedSimpArgs false

/-- Bytes as a number, high first; none is 0. -/
def highB (b : List UInt8) (i : Nat) : Nat → Nat
  | 0 => 0
  | n + 1 => highB b i n * 256 + (b.getD (i + n) 0).toNat
theorem highB_lt (b : List UInt8) (i n : Nat) : highB b i n < 256 ^ n := by
  induction n with
  | zero => simp [highB]
  | succ n ih =>
    have := (b.getD (i + n) 0).toNat_lt
    rw [highB, Nat.pow_succ]
    omega
theorem u64_or8 (x y : Nat) (hx : x < 65536 * 65536) (hy : y < 256) : bits .or .u64 ((x : Int) * 256) (y : Int) = (x : Int) * 256 + y :=
  bits_join .u64 62 (by decide) (fun n h0 h1 => u64_in h0 (by omega)) 8 _ _ (by omega) (by omega) (by omega) (by omega) (by omega) (by omega)
section
variable {w0 w : World} {L : List Assn}
set_option maxRecDepth 100000 in
set_option maxHeartbeats 1000000 in
theorem ref_at {v : Value} {b : List UInt8} {i k : Nat} {ii ki : Int} (hii : ii = (i : Int)) (hki : ki = (k : Int)) (hi : i ≤ 1000000) (hk : k ≤ 1000000) (hr : RdB w v b) :
    Calls Tryd.prog 34 #[v, .int .i64 ii, .int .i64 ki] w fun e w' => e = .returned (.int .u8 (b.getD (i + k) 0).toNat) ∧ w = w' := by
  subst hii hki
  have hmx := hr.len
  unfold maxLen at hmx
  by_cases h : i + k < b.length
  · obtain ⟨b0, o0, c0, rfl, hlt, _, _, hc⟩ := hr.at h
    have hc1 := hc (i + k) h
    obtain ⟨y, hy⟩ : ∃ y : Nat, (b.getD (i + k) 0).toNat = y := ⟨_, rfl⟩
    rw [hy] at hc1
    rw [hy]
    have z1 : 0 ≤ (i : Int) ∧ (i : Int) ≤ (b.length : Int) ∧ (k : Int) < (b.length : Int) - (i : Int) ∧ 0 ≤ (i : Int) + (k : Int) ∧ (i : Int) + (k : Int) < (b.length : Int) := by omega
    have t1 : ((i : Int) + (k : Int)).toNat = i + k := by omega
    clear hc hy
    go_enter Tryd.func34, Tryd.ntmps34
    go_wp2
    all_goals
      go_ret
      exact ⟨rfl, rfl⟩
  · obtain ⟨a0, c0, rfl, hc0, hcm, hnil⟩ := hr.form
    have e0 : (b.getD (i + k) 0).toNat = 0 := by simp [List.getD, List.getElem?_eq_none (show b.length ≤ i + k by omega)]
    rw [e0]
    by_cases h1 : b.length < i
    · have z1 : 0 ≤ (i : Int) ∧ (b.length : Int) < (i : Int) := by omega
      go_enter Tryd.func34, Tryd.ntmps34
      go_wp2
      all_goals
        go_ret
        exact ⟨rfl, rfl⟩
    · have z1 : 0 ≤ (i : Int) ∧ (i : Int) ≤ (b.length : Int) ∧ (b.length : Int) - (i : Int) ≤ (k : Int) := by omega
      go_enter Tryd.func34, Tryd.ntmps34
      go_wp2
      all_goals
        go_ret
        exact ⟨rfl, rfl⟩

set_option maxRecDepth 100000 in
set_option maxHeartbeats 1000000 in
theorem ref_High {v : Value} {b : List UInt8} {i n : Nat} {ii ni : Int} (hii : ii = (i : Int)) (hni : ni = (n : Int)) (hi : i ≤ 100000) (hn : n ≤ 4) (hv : Vw w0 L v b) (hs : Sat w0 w L) :
    Calls Tryd.prog 27 #[v, .int .i64 ii, .int .i64 ni] w fun e w' => e = .returned (.int .u64 (highB b i n)) ∧ Sat w0 w' L := by
  subst hii hni
  go_enter Tryd.func27, Tryd.ntmps27
  go_wp2_with fail
  go_loopg [7, 8, 10] 9 (fun gg v7 v8 v10 wr => ∃ k : Nat, k ≤ n ∧ n - k ≤ gg ∧ v10 = .int .i64 k ∧ v7 = .int .u64 (highB b i k) ∧ Sat w0 wr L)
  case atStart => exact ⟨0, Nat.zero_le _, by omega, rfl, rfl, hs⟩
  case round =>
    obtain ⟨k, hk, hgg, rfl, rfl, h1⟩ := hrel
    by_cases h2 : k = n
    · subst h2
      go_wp2_with fail
      go_ret
      exact ⟨rfl, h1⟩
    · have hst : highB b i (k + 1) = highB b i k * 256 + (b.getD (i + k) 0).toNat := rfl
      have hb1 := highB_lt b i k
      have Hat := hid_ (ref_at (i := i) (k := k) rfl rfl (by omega) (by omega) (hv wr [] h1))
      obtain ⟨x, hx⟩ : ∃ x, highB b i k = x := ⟨_, rfl⟩
      obtain ⟨y, hy⟩ : ∃ y : Nat, (b.getD (i + k) 0).toNat = y := ⟨_, rfl⟩
      have hyb : y < 256 := by rw [← hy]; exact UInt8.toNat_lt _
      rw [hx] at hb1 hst
      rw [hy] at hst Hat
      have hxb : x < 16777216 := by
        have : k = 0 ∨ k = 1 ∨ k = 2 ∨ k = 3 := by omega
        rcases this with rfl | rfl | rfl | rfl <;> omega
      rw [hx]
      have HS := hid_ hst
      have hor := u64_or8 x y (by omega) hyb
      have s3 : IntKind.u64.wrap ((x : Int) * 256) = (x : Int) * 256 := u64_in (by omega) (by omega)
      have s5 : IntKind.u64.wrap (y : Int) = (y : Int) := u64_in (by omega) (by omega)
      have s6 : IntKind.u64.wrap ((x : Int) * 256 + (y : Int)) = (x : Int) * 256 + (y : Int) := u64_in (by omega) (by omega)
      have z1 : 0 ≤ (k : Int) ∧ (k : Int) < (n : Int) ∧ (k : Int) ≤ 3 := by omega
      have HI := hid_ (show k + 1 ≤ n by omega)
      have HN := hid_ hgg
      clear hx hy hst hb1 h2
      go_wp2_with fail
      refine Hat.out.mono ?_
      rintro _ _ ⟨rfl, rfl⟩
      go_wp2_with fail
      go_roundg (n - (k + 1))
      case measure => have := HN.out; have := HI.out; omega
      case rel => exact ⟨k + 1, HI.out, Nat.le_refl _, by go_num, by rw [HS.out]; go_num, h1⟩
end
end Go.Proofs.YtanihjibjjpdbaaDoor
