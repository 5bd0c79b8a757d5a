/- Bits of bytes cleared and turned: plain Lean, for the laws on nets. -/
import Derived.Test.YtmnjaaeljpleeaaAclS
namespace Go.Proofs.Ytmnjaaeljpleeaa
open Go Go.RowKit
set_option linter.unusedVariables false
set_option linter.unusedSimpArgs false

def clrU (b : UInt8) (s : Nat) : UInt8 := b &&& ~~~ (UInt8.ofNat (128 / 2 ^ s))
def trnU (b : UInt8) (s : Nat) : UInt8 := b ^^^ UInt8.ofNat (128 / 2 ^ s)
def clrL (l : List UInt8) (i : Nat) : List UInt8 := l.set (i / 8) (clrU (l.getD (i / 8) 0) (i % 8))
def trnL (l : List UInt8) (i : Nat) : List UInt8 := l.set (i / 8) (trnU (l.getD (i / 8) 0) (i % 8))
/-- All bits from k on cleared. -/
def netL (l : List UInt8) (k n : Nat) : List UInt8 := (List.range' k n).foldl clrL l

set_option maxRecDepth 100000 in
theorem clrU_bits : ∀ n : Fin 256, ∀ s t : Fin 8, ((clrU (UInt8.ofNat n) s).toNat / 2 ^ (7 - t.val)) % 2 = if t = s then 0 else (n.val / 2 ^ (7 - t.val)) % 2 := by decide +kernel
set_option maxRecDepth 100000 in
theorem trnU_bits : ∀ n : Fin 256, ∀ s t : Fin 8, ((trnU (UInt8.ofNat n) s).toNat / 2 ^ (7 - t.val)) % 2 = if t = s then 1 - (n.val / 2 ^ (7 - t.val)) % 2 else (n.val / 2 ^ (7 - t.val)) % 2 := by decide +kernel
theorem clrU_bit (b : UInt8) {s t : Nat} (hs : s < 8) (ht : t < 8) : ((clrU b s).toNat / 2 ^ (7 - t)) % 2 = if t = s then 0 else (b.toNat / 2 ^ (7 - t)) % 2 := by
  have h := clrU_bits ⟨b.toNat, b.toNat_lt⟩ ⟨s, hs⟩ ⟨t, ht⟩
  simpa [Fin.ext_iff] using h
theorem trnU_bit (b : UInt8) {s t : Nat} (hs : s < 8) (ht : t < 8) : ((trnU b s).toNat / 2 ^ (7 - t)) % 2 = if t = s then 1 - (b.toNat / 2 ^ (7 - t)) % 2 else (b.toNat / 2 ^ (7 - t)) % 2 := by
  have h := trnU_bits ⟨b.toNat, b.toNat_lt⟩ ⟨s, hs⟩ ⟨t, ht⟩
  simpa [Fin.ext_iff] using h
theorem getD_set_same {l : List UInt8} {k : Nat} {b : UInt8} (h : k < l.length) : (l.set k b).getD k 0 = b := by simp [List.getD, h]
theorem getD_set_other {l : List UInt8} {k j : Nat} {b : UInt8} (h : k ≠ j) : (l.set k b).getD j 0 = l.getD j 0 := by simp [List.getD, h]
theorem bitN_clr {l : List UInt8} {i j : Nat} (hi : i < 8 * l.length) : bitN (clrL l i) j = if j = i then 0 else bitN l j := by
  unfold bitN clrL
  by_cases h : i / 8 = j / 8
  · rw [← h, getD_set_same (by omega), clrU_bit _ (by omega) (by omega)]
    by_cases h2 : j = i
    · subst h2; simp
    · rw [if_neg h2, if_neg (by omega)]
  · rw [getD_set_other h, if_neg (by omega)]
theorem bitN_trn {l : List UInt8} {i j : Nat} (hi : i < 8 * l.length) : bitN (trnL l i) j = if j = i then 1 - bitN l j else bitN l j := by
  unfold bitN trnL
  by_cases h : i / 8 = j / 8
  · rw [← h, getD_set_same (by omega), trnU_bit _ (by omega) (by omega)]
    by_cases h2 : j = i
    · subst h2; simp
    · rw [if_neg h2, if_neg (by omega)]
  · rw [getD_set_other h, if_neg (by omega)]
theorem clrL_len (l : List UInt8) (i : Nat) : (clrL l i).length = l.length := by simp [clrL]
theorem trnL_len (l : List UInt8) (i : Nat) : (trnL l i).length = l.length := by simp [trnL]
theorem netL_len (n : Nat) : ∀ (l : List UInt8) (k : Nat), (netL l k n).length = l.length := by
  induction n with
  | zero => intro l k; rfl
  | succ n ih =>
    intro l k
    show (netL (clrL l k) (k + 1) n).length = _
    rw [ih, clrL_len]
theorem bitN_net (n : Nat) : ∀ (l : List UInt8) (k j : Nat), k + n ≤ 8 * l.length → bitN (netL l k n) j = if k ≤ j ∧ j < k + n then 0 else bitN l j := by
  induction n with
  | zero => intro l k j _; rw [if_neg (by omega)]; rfl
  | succ n ih =>
    intro l k j h
    show bitN (netL (clrL l k) (k + 1) n) j = _
    rw [ih _ _ _ (by rw [clrL_len]; omega), bitN_clr (by omega)]
    by_cases h1 : j = k
    · subst h1; rw [if_neg (by omega), if_pos rfl, if_pos (by omega)]
    · by_cases h2 : k + 1 ≤ j ∧ j < k + 1 + n
      · rw [if_pos h2, if_pos (by omega)]
      · rw [if_neg h2, if_neg h1, if_neg (by omega)]
theorem netL_succ (l : List UInt8) (k n : Nat) : netL l k (n + 1) = clrL (netL l k n) (k + n) := by
  unfold netL
  rw [List.range'_concat, List.foldl_append]
  simp

/-- A net of its own address is plain, and holds what has its first bits. -/
theorem plain_net {l : List UInt8} {k : Nat} (hk : k ≤ 8 * l.length) : plainB (netL l k (8 * l.length - k)) k = true := by
  unfold plainB
  rw [List.all_eq_true]
  intro j hj
  rw [netL_len] at hj
  have hj' := List.mem_range.1 hj
  rw [bitN_net _ _ _ _ (by omega), if_pos (by omega)]
  rfl
theorem starts_net {l b : List UInt8} {k : Nat} (hk : k ≤ 8 * l.length) : startsB b (netL l k (8 * l.length - k)) k = startsB b l k := by
  unfold startsB
  rw [Bool.eq_iff_iff, List.all_eq_true, List.all_eq_true]
  constructor
  · intro h j hj
    have := h j hj
    rw [bitN_net _ _ _ _ (by omega), if_neg (by have := List.mem_range.1 hj; omega)] at this
    exact this
  · intro h j hj
    rw [bitN_net _ _ _ _ (by omega), if_neg (by have := List.mem_range.1 hj; omega)]
    exact h j hj
theorem starts_self (l : List UInt8) (k : Nat) : startsB l l k = true := by
  unfold startsB
  rw [List.all_eq_true]
  intro j _
  simp
theorem starts_trn {l : List UInt8} {k t : Nat} (ht : t < 8 * l.length) : startsB (trnL l t) l k = decide (k ≤ t) := by
  unfold startsB
  rw [Bool.eq_iff_iff, List.all_eq_true, decide_eq_true_eq]
  constructor
  · intro h
    by_cases hk : k ≤ t
    · exact hk
    · have := h t (List.mem_range.2 (by omega))
      rw [bitN_trn ht, if_pos rfl, beq_iff_eq] at this
      have h2 := bitN_lt l t
      omega
  · intro h j hj
    have hj' := List.mem_range.1 hj
    rw [bitN_trn ht, if_neg (by omega)]
    simp
theorem starts_less {a b : List UInt8} {k n : Nat} (h : k ≤ n) (hs : startsB a b n = true) : startsB a b k = true := by
  unfold startsB at *
  rw [List.all_eq_true] at *
  intro j hj
  exact hs j (List.mem_range.2 (by have := List.mem_range.1 hj; omega))
end Go.Proofs.Ytmnjaaeljpleeaa
