/- The law FrameDecodes: its openers, the bits. -/
import Derived.Deep.DeepCutAuto
import Derived.Test.YtlkkmnbglememaaFrS
import Derived.Test.YtlkkmnbglememaaFrB
import Derived.Test.YtlkkmnbglememaaApk
import Derived.Test.YtlkkmnbglememaaRefFe
import Derived.Test.YtlkkmnbglememaaRefDf
namespace Go.Proofs.Ytlkkmnbglememaa
open Go Go.RowKit Go.ChangeShapes Go.WideShapes Go.Deep
set_option linter.unusedVariables false
set_option linter.unusedSimpArgs false

def intC (n : Int) : List Value := [.int .i64 n]
def IsInts (W : World) (v : Value) : Prop := ∃ a cap l, v = .slice a (List.length l) cap ∧ RdL 1 intC (fun _ _ => True) W a cap l
section
variable {H : Type} {enc : TypeId × Value → H} {W : World} {base : Nat} {held : Bool} {v : Value} {d : DataW H} {p : List MemPlace}
theorem opnInts (hv : Value.okWide Try.prog W .any base 35 v) (h : DataW.Trod enc Try.prog W 0 (fun _ => true) held 35 v d p) : IsInts W v := by
  obtain ⟨a, len, cap, rfl⟩ := okWide_slice Try.underlying35 hv
  obtain ⟨fuel, hf⟩ := h
  obtain ⟨l, rfl, hl⟩ := openList (C := intC) (R := fun _ _ => True) (a := a) (len := len) (cap := cap) Try.underlying35 (sz := 1) (by kernel_rfl) (by decide) (fun fuel cs x h => by
      obtain ⟨k, e0, _, _⟩ := DataW.trod_int Try.underlying3 h
      exact ⟨k, e0, trivial⟩)
    (fun y b off z v hv hc => by
      obtain rfl : v = .int .i64 y := by simpa [intC] using hv.symm
      unfold World.cell? at hc
      simp at hc
      split at hc <;> first | cases hc | (split at hc <;> cases hc)) hf
  exact ⟨a, cap, l, rfl, hl⟩
end
theorem xor_bd : ∀ n m : Fin 256, 0 ≤ Go.bits .xor .u8 ((n.val : Nat) : Int) ((m.val : Nat) : Int) ∧ Go.bits .xor .u8 ((n.val : Nat) : Int) ((m.val : Nat) : Int) < 256 := by decide +kernel
theorem xor_u8 {x y : Nat} (hx : x < 256) (hy : y < 256) : ∃ c : UInt8, Go.bits .xor .u8 (x : Int) (y : Int) = ((c.toNat : Nat) : Int) := by
  have h := xor_bd ⟨x, hx⟩ ⟨y, hy⟩
  obtain ⟨k, hk⟩ := Int.eq_ofNat_of_zero_le h.1
  refine ⟨UInt8.ofNat k, ?_⟩
  dsimp only at h hk
  rw [hk] at h ⊢
  rw [UInt8.toNat_ofNat']
  omega
theorem bytesC_set (l : List UInt8) (k : Nat) (b : UInt8) (hk : k < l.length) : (bytesC l).take k ++ [Value.int .u8 b.toNat] ++ (bytesC l).drop (k + 1) = bytesC (l.set k b) := by
  rw [List.set_eq_take_append_cons_drop, if_pos hk]
  simp [bytesC, List.map_take, List.map_drop]
theorem i64_wrap64 {n : Int} (h0 : 0 ≤ n) (h1 : n < 4611686018427387904) : wrap64 n = n := by unfold wrap64; omega
end Go.Proofs.Ytlkkmnbglememaa
