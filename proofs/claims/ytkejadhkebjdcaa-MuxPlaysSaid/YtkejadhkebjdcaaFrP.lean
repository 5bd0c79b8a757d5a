/- frame.put, walked. -/
import Derived.Deep.LoopGhost
import Derived.Test.YtkejadhkebjdcaaApp
namespace Go.Proofs.Ytkejadhkebjdcaa
open Go Go.RowKit
set_option linter.unusedVariables false
set_option linter.unusedSimpArgs false

/-- A number in so many bytes, high first. -/
def beB (n : Nat) : Nat → List UInt8
  | 0 => []
  | k + 1 => UInt8.ofNat (n / 2 ^ (8 * k)) :: beB n k
theorem beB_length (n k : Nat) : (beB n k).length = k := by
  induction k with
  | zero => rfl
  | succ k ih => simp [beB, ih]

theorem be_one (n j : Nat) : (n : Int) / 2 ^ (8 * j) % 256 = ((UInt8.ofNat (n / 2 ^ (8 * j))).toNat : Int) := by
  rw [u8_nat]
  simp
section
variable {w0 w : World} {L : List Assn}
set_option maxRecDepth 100000 in
set_option maxHeartbeats 1000000 in
theorem frame_put {a : Option Addr} {c W : Nat} {p : List UInt8} {n : Int} (h0 : 0 ≤ n) (hn : n < 4294967296) (hW : W ≤ 4) (hp : p.length ≤ 1000000) (hs : Sat w0 w (OwnB 5 (.slice a p.length c) p :: L)) :
    Calls Try.prog 66 #[.slice a p.length c, .int .i64 n, .int .i64 W] w fun e w' => ∃ a' c', e = .returned (.slice a' (p.length + W) c') ∧ Sat w0 w' (OwnB 5 (.slice a' (p.length + W) c') (p ++ beB n.toNat W) :: L) := by
  obtain ⟨N, rfl⟩ := Int.eq_ofNat_of_zero_le h0
  rw [Int.toNat_natCast]
  have HN := hid_ hn
  clear hn h0
  go_enter Try.func66, Try.ntmps66
  go_wp2_with fail
  go_loopg [0, 7] 9 (fun gg v0 v7 wr => ∃ (i : Nat) (q : List UInt8) (a' : Option Addr) (c' : Nat), i ≤ W ∧ i ≤ gg ∧ v7 = .int .i64 ((i : Int) - 1) ∧ v0 = .slice a' q.length c' ∧ Hid (q ++ beB N i = p ++ beB N W) ∧ Sat w0 wr (OwnB 5 (.slice a' q.length c') q :: L))
  case atStart => exact ⟨W, p, a, c, Nat.le_refl _, by omega, rfl, rfl, hid_ rfl, hs⟩
  case round =>
    obtain ⟨i, q, a', c', hi, hgg, rfl, rfl, hq, h1⟩ := hrel
    have hql : q.length + i = p.length + W := by have := congrArg List.length hq.out; simpa [beB_length] using this
    have hqb : q.length ≤ 1000008 := by omega
    have HQ := hid_ hql
    clear hql
    by_cases h2 : i = 0
    · subst h2
      have hq3 := hid_ (show q = p ++ beB N W by rw [← hq.out]; simp [beB])
      go_wp2_with fail
      go_ret
      exact ⟨a', c', by rw [hq3.out]; simp [beB_length], by rw [← hq3.out]; have h6 := HQ.out; rw [Nat.add_zero] at h6; rw [← h6]; exact h1⟩
    · obtain ⟨j, rfl⟩ : ∃ j, i = j + 1 := ⟨i - 1, by omega⟩
      have e1 : ((j + 1 : Nat) : Int) - 1 = (j : Int) := by omega
      rw [e1]
      clear h2 e1
      have h3 := h1.alloc (.cells #[.int .u8 ((N : Int) / 2 ^ (8 * j) % 256)] 5 (0, 0))
      have h4 := OwnB.rd (OwnB.ofNew (l := [UInt8.ofNat (N / 2 ^ (8 * j))]) (n := 1) h3 (by simp only [bytesC, List.map_cons, List.map_nil, be_one]) rfl (by omega))
      have hq2 := hid_ (show (q ++ [UInt8.ofNat (N / 2 ^ (8 * j))]) ++ beB N j = p ++ beB N W by rw [← hq.out]; simp [beB])
      go_wp2_with (at_builtin; refine wpList_append_b (w0 := w0) rfl _ _ 37 rfl rfl h3.swap rfl (slSrc h4) _ (q.length + 1) rfl (by simp) (by omega) ?_)
      intro a2 c2 w2 h5
      go_wp2_with fail
      go_roundg j
      case measure => omega
      case rel => exact ⟨j, _, a2, c2, by omega, by omega, rfl, by simp, hq2, by rw [List.length_append]; exact h5.d2⟩
theorem frame_putN {a : Option Addr} {c l m W : Nat} {p q : List UInt8} {n Wi : Int} (h0 : 0 ≤ n) (hn : n < 4294967296) (hW : W ≤ 4) (hWi : Wi = (W : Int)) (hp : l ≤ 1000000) (hl : p.length = l) (hm : l + W = m) (hq : p ++ beB n.toNat W = q) (hs : Sat w0 w (OwnB 5 (.slice a l c) p :: L)) :
    Calls Try.prog 66 #[.slice a l c, .int .i64 n, .int .i64 Wi] w fun e w' => ∃ a' c', e = .returned (.slice a' m c') ∧ Sat w0 w' (OwnB 5 (.slice a' m c') q :: L) := by
  subst hWi hl hm hq
  exact frame_put h0 hn hW hp hs
end
end Go.Proofs.Ytkejadhkebjdcaa
