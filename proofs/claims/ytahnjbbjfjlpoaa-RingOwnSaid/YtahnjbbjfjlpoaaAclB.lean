/- Bits of bytes: acl.bit, plain, starts, walked. -/
import Derived.Test.YtahnjbbjfjlpoaaAddrW
import Derived.Test.YtahnjbbjfjlpoaaOwn
namespace Go.Proofs.Ytahnjbbjfjlpoaa
open Go Go.RowKit
set_option linter.unusedVariables false
set_option linter.unusedSimpArgs false
theorem u8_and1 (n : Nat) (h : n < 256) : bits .and .u8 (n : Int) 1 = ((n % 2 : Nat) : Int) := by
  have h1 : ∀ m : Fin 256, bits .and .u8 ((m.val : Nat) : Int) 1 = ((m.val % 2 : Nat) : Int) := by decide +kernel
  exact h1 ⟨n, h⟩
/-- Bit i of bytes, the highest first. -/
def bitN (l : List UInt8) (i : Nat) : Nat := ((l.getD (i / 8) 0).toNat / 2 ^ (7 - i % 8)) % 2
theorem bitN_lt (l : List UInt8) (i : Nat) : bitN l i < 2 := Nat.mod_lt _ (by decide)
/-- All bits behind the first ones are 0. -/
def plainB (l : List UInt8) (k : Nat) : Bool := (List.range (8 * l.length - k)).all fun j => bitN l (k + j) == 0
/-- The first bits of two are the same. -/
def startsB (a b : List UInt8) (k : Nat) : Bool := (List.range k).all fun j => bitN a j == bitN b j
section
variable {w0 w : World} {L : List Assn}

theorem acl_bit (v : Value) (l : List UInt8) (i : Nat) (hi : i < 8 * l.length) (hr : RdB w v l) :
    Calls Try.prog 42 #[v, .int .i64 i] w fun e w' => e = .returned (.int .u8 (bitN l i)) ∧ w = w' := by
  have hl := hr.len
  unfold maxLen at hl
  unfold bitN
  obtain ⟨q, hq⟩ : ∃ q, i / 8 = q := ⟨_, rfl⟩
  obtain ⟨r, hrr⟩ : ∃ r, i % 8 = r := ⟨_, rfl⟩
  obtain ⟨b, off, cap, rfl, h1, h2, h3, h4⟩ := hr.at (i := q) (by omega)
  have e1 : Int.tdiv (i : Int) 8 = (q : Int) := by rw [Int.tdiv_eq_ediv_of_nonneg (by omega)]; omega
  have e2 : Int.tmod (i : Int) 8 = (r : Int) := by rw [Int.tmod_eq_emod_of_nonneg (by omega)]; omega
  have e3 := h4 q (by omega)
  have hr7 : r ≤ 7 := by omega
  have hq1 : (q : Int) < l.length := by omega
  rw [hq, hrr]
  obtain ⟨x, hx⟩ : ∃ x, (l.getD q 0).toNat = x := ⟨_, rfl⟩
  have hx1 : x < 256 := by rw [← hx]; exact UInt8.toNat_lt _
  rw [hx] at e3 ⊢
  have e4 : bits .and .u8 ((x : Int) / 2 ^ (7 - r)) 1 = ((x / 2 ^ (7 - r) % 2 : Nat) : Int) := by
    rw [← u8_and1 _ (Nat.lt_of_le_of_lt (Nat.div_le_self _ _) hx1)]
    congr 1
  clear hq hrr hi h4 hx hx1
  go_enter Try.func42, Try.ntmps42
  go_wp2_with fail
  go_ret
  exact ⟨rfl, rfl⟩

theorem acl_plain (v : Value) (l : List UInt8) (k : Nat) (hl : l.length ≤ 1000) (hk : k ≤ 8 * l.length) (hr : RdB w v l) :
    Calls Try.prog 30 #[v, .int .i64 k] w fun e w' => e = .returned (.bool (plainB l k)) ∧ w = w' := by
  obtain ⟨a, cap, rfl, _, _, _⟩ := hr.form
  obtain ⟨n, hn⟩ : ∃ n, 8 * l.length = n := ⟨_, rfl⟩
  have E1 : IntKind.i64.wrap (8 * (l.length : Int)) = (n : Int) := by rw [IntWalk.i64_in _ (by omega)]; omega
  have HN := hid_ hn
  go_enter Try.func30, Try.ntmps30
  go_wp2_with fail
  go_loopw [5] (fun vi wr => ∃ i : Nat, k ≤ i ∧ i ≤ n ∧ vi = .int .i64 i ∧ w = wr ∧ ∀ j, k ≤ j → j < i → bitN l j = 0) (fun vi _ => n - (intOf vi).toNat)
  case atStart => exact ⟨k, by omega, by omega, rfl, rfl, fun j h1 h2 => by omega⟩
  case round =>
    obtain ⟨i, hi1, hi2, rfl, rfl, hb⟩ := hrel
    have HB := hid_ hb
    by_cases hlt : i < n
    · go_wp2_with fail
      refine (acl_bit _ l i (by rw [HN.out]; exact hlt) hr).mono ?_
      rintro _ _ ⟨rfl, rfl⟩
      by_cases h0 : bitN l i = 0
      · rw [h0]
        go_wp2_with fail
        go_roundw
        case rel =>
          refine ⟨i + 1, by omega, by omega, by go_num, (by first | rfl | trivial), fun j h1 h2 => ?_⟩
          by_cases hj : j = i
          · rw [hj]; exact h0
          · exact HB.out j h1 (by omega)
        case measure => simp [intOf]; omega
      · have hne : (((bitN l i : Nat) : Int) != 0) = true := by simp [h0]
        have hfin : plainB l k = false := by
          unfold plainB
          rw [List.all_eq_false]
          exact ⟨i - k, by rw [List.mem_range, HN.out]; omega, by simp [show k + (i - k) = i by omega, h0]⟩
        have HF := hid_ hfin
        clear h0 hfin
        go_wp2_with fail
        go_ret
        exact ⟨ret_bool HF.out.symm, rfl⟩
    · obtain rfl : i = n := by omega
      have hfin : plainB l k = true := by
        unfold plainB
        rw [List.all_eq_true]
        intro j hj
        rw [List.mem_range, HN.out] at hj
        simp [HB.out (k + j) (by omega) (by omega)]
      have HF := hid_ hfin
      clear hfin
      go_wp2_with fail
      go_ret
      exact ⟨ret_bool HF.out.symm, rfl⟩

set_option maxRecDepth 100000 in
theorem acl_named (s : ByteArray) (hs : s.size ≤ maxLen) : Calls Try.prog 31 #[.string s] w fun e w' => e = .returned (.bool (nameOk s.data.toList)) ∧ Below w.heap.size w w' := by
  go_enter Try.func31, Try.ntmps31
  go_wp2_with fail
  refine (addr_May ⟨3, [], s, 0⟩ none 0 hs (Nat.zero_le _)).mono ?_
  rintro _ w1 ⟨rfl, h1⟩
  go_wp2_with fail
  go_ret
  exact ⟨ret_bool (by unfold AdM.may; simp), h1⟩
end
end Go.Proofs.Ytahnjbbjfjlpoaa
