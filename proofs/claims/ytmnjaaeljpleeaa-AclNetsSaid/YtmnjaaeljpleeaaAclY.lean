/- The law AclNets, under way. -/
import Derived.Test.YtmnjaaeljpleeaaAclX
namespace Go.Proofs.Ytmnjaaeljpleeaa
open Go Go.RowKit
set_option linter.unusedVariables false
set_option linter.unusedSimpArgs false

set_option maxRecDepth 100000 in
theorem xor_bits : ∀ n : Fin 256, ∀ s : Fin 8, Go.bits .xor .u8 ((n.val : Nat) : Int) (128 / 2 ^ s.val) = ((trnU (UInt8.ofNat n) s).toNat : Int) := by decide +kernel
theorem xor_trn {x : UInt8} {y s : Nat} (hy : x.toNat = y) (hs : s ≤ 7) : Go.bits .xor .u8 (y : Int) (128 / 2 ^ s) = ((trnU x s).toNat : Int) := by
  have h := xor_bits ⟨y, by rw [← hy]; exact x.toNat_lt⟩ ⟨s, by omega⟩
  have e : UInt8.ofNat y = x := by rw [← hy]; simp
  simpa [e] using h
def manyB (n : Nat) (q : List UInt8) : List UInt8 := q.take n ++ (zerosB n).drop q.length
theorem many_len (n : Nat) (q : List UInt8) : (manyB n q).length = n := by unfold manyB; simp [zerosB]; omega
/-- The rule of a net of n bytes, the address. -/
def netN (n : Nat) (l : List UInt8) (bits : Nat) : RuleM := ⟨1, false, netL l bits (8 * n - bits), bits, ByteArray.empty, 0, 65535⟩
def toN (k : Int) (Y : List UInt8) (m : Int) : AdM := ⟨k, Y, ByteArray.empty, m⟩
theorem toN_may {k m : Int} {n : Nat} {Y : List UInt8} (hk : k = 1 ∧ n = 4 ∨ k = 4 ∧ n = 16) (h : Y.length = n) (h0 : 0 ≤ m) (h1 : m ≤ 65535) : (toN k Y m).may = true := by
  unfold AdM.may toN
  rw [decide_eq_true h0, decide_eq_true h1]
  rcases hk with ⟨rfl, rfl⟩ | ⟨rfl, rfl⟩
  · simp only [h]; rfl
  · simp only [h]; rfl
theorem netN_may {X : List UInt8} {n k : Nat} (hn : n = 4 ∨ n = 16) (h : X.length = n) (hk : k ≤ 8 * n) : (netN n X k).may = true := by
  have hl : (netL X k (8 * n - k)).length = n := by rw [netL_len, h]
  have hp := plain_net (l := X) (k := k) (by omega)
  rw [h] at hp
  unfold RuleM.may RuleM.kindB netN
  simp only [hl, Int.toNat_natCast, hp]
  have h1 : decide ((0 : Int) ≤ (k : Int)) = true := decide_eq_true (by omega)
  have h2 : decide ((k : Int) ≤ 8 * ((n : Nat) : Int)) = true := decide_eq_true (by omega)
  rw [h1, h2]
  rcases hn with rfl | rfl <;> rfl
theorem netN_hit {X Y : List UInt8} {n k : Nat} {kd m : Int} (hk : kd = 1 ∧ n = 4 ∨ kd = 4 ∧ n = 16) (h : X.length = n) (hY : Y.length = n) (hb : k ≤ 8 * n) (h0 : 0 ≤ m) (h1 : m ≤ 65535) : (netN n X k).hit (toN kd Y m) = startsB Y X k := by
  have hl : (netL X k (8 * n - k)).length = n := by rw [netL_len, h]
  have hs := starts_net (l := X) (b := Y) (k := k) (by omega)
  rw [h] at hs
  have e : (netN n X k).hit (toN kd Y m) = ((netN n X k).may && (toN kd Y m).may && decide (0 ≤ m) && decide (m ≤ 65535) && (Y.length == (netL X k (8 * n - k)).length && startsB Y (netL X k (8 * n - k)) ((k : Int)).toNat)) := rfl
  rw [e, netN_may (by omega) h hb, toN_may hk hY h0 h1, hl, hY, Int.toNat_natCast, hs, decide_eq_true h0, decide_eq_true h1]
  simp
/-- AclNets' two answers. -/
theorem nets_self {X : List UInt8} {n k : Nat} {kd m : Int} (hk : kd = 1 ∧ n = 4 ∨ kd = 4 ∧ n = 16) (h : X.length = n) (hb : k ≤ 8 * n) (h0 : 0 ≤ m) (h1 : m ≤ 65535) : (netN n X k).hit (toN kd X m) = true := by
  rw [netN_hit hk h h hb h0 h1, starts_self]
theorem nets_turned {X : List UInt8} {n k t : Nat} {kd m : Int} (hk : kd = 1 ∧ n = 4 ∨ kd = 4 ∧ n = 16) (h : X.length = n) (hb : k ≤ 8 * n) (ht : t < 8 * n) (h0 : 0 ≤ m) (h1 : m ≤ 65535) : (netN n X k).hit (toN kd (trnL X t) m) = decide (k ≤ t) := by
  rw [netN_hit hk h (by rw [trnL_len, h]) hb h0 h1, starts_trn (by omega)]
end Go.Proofs.Ytmnjaaeljpleeaa
