/- strconv.Itoa as a walk uses it; strings put together (chapter 14's tied card). -/
import Derived.Test.YtmnjaaeljpleeaaDoorShj
import Derived.Test.YtmnjaaeljpleeaaDoorOwn
import Derived.WalkSmall
import Derived.Lib.AppendIntMem
namespace Go.Proofs.YtmnjaaeljpleeaaDoor
open Go Go.RowKit
set_option linter.unusedVariables false
set_option linter.unusedSimpArgs false

/-- The library's table of powers of ten reads as it should. -/
def TabOk (w : World) : Prop := Lib.TabIs Tryd.prog w "internal/strconv.uint64pow10" .u64 Lib.pow10Tab
theorem gPow : Tryd.prog.globalNamed "internal/strconv.uint64pow10" = some 0 := by kernel_rfl
def itoaB (n : Int) : ByteArray := strOf (Lib.itoa n)
theorem TabOk.later {w w' : World} (h : TabOk w) (hb : Below w.heap.size w w') (h0 : 0 < w.heap.size) : TabOk w' := Go.var?_below hb gPow h0 h
theorem TabOk.pos {w : World} (h : TabOk w) : 0 < w.heap.size := by
  have h1 := h.cell gPow 0 (by decide)
  unfold World.cell? at h1
  by_cases h0 : 0 < w.heap.size
  · exact h0
  · rw [Array.getElem?_eq_none (by simpa using h0)] at h1
    cases h1
theorem itoa_walk {w : World} (n : Int) (h0 : -9223372036854775808 ≤ n) (h1 : n ≤ 9223372036854775807) (ht : TabOk w) : Calls Tryd.prog 25 #[.int .i64 n] w fun e w' => e = .returned (.string (itoaB n)) ∧ Below w.heap.size w w' := by
  refine (Tryd.strconv_Itoa n h0 h1 w ht).mono ?_
  rintro _ w' ⟨rfl, k, os, rfl⟩
  exact ⟨rfl, Lib.below_grow _ w (Nat.le_refl _) k os⟩
theorem str_add (a b : List UInt8) : (strOf a) ++ (strOf b) = strOf (a ++ b) := by
  apply ByteArray.ext
  simp [strOf]
theorem strOf_size (l : List UInt8) : (strOf l).size = l.length := by simp [strOf, ByteArray.size]
theorem decDigits_len : ∀ (k u : Nat), u < 10 ^ (k + 1) → (Lib.decDigits u).length ≤ k + 1
  | 0, u, h => by rw [Lib.decDigits, dif_pos (by omega)]; simp
  | k + 1, u, h => by
    rw [Lib.decDigits]
    split
    · simp
    · have := decDigits_len k (u / 10) (by rw [Nat.pow_succ] at h; omega)
      rw [List.length_append]
      simp only [List.length_singleton]
      omega
theorem itoa_port {p : Int} (h0 : 0 ≤ p) (h1 : p ≤ 65535) : (Lib.itoa p).length ≤ 5 := by
  unfold Lib.itoa
  rw [if_neg (by omega)]
  exact decDigits_len 4 p.toNat (by omega)
end Go.Proofs.YtmnjaaeljpleeaaDoor
