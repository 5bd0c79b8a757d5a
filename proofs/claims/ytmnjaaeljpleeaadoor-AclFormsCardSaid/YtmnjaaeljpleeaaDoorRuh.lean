/- The document's Hex, walked. -/
import Derived.BigQuiet
import Derived.Test.YtmnjaaeljpleeaaDoorRut
namespace Go.Proofs.YtmnjaaeljpleeaaDoor
open Go Go.RowKit
set_option linter.unusedVariables false
set_option linter.unusedSimpArgs false

theorem hex_slice (d e : Nat) (h : d < 16) (he : e = d + 1) (W : World) : (Instr.sliceAt 9 (.string ⟨#[48, 49, 50, 51, 52, 53, 54, 55, 56, 57, 97, 98, 99, 100, 101, 102]⟩) (some (.int .u8 (d : Int))) (some (.int .u8 (e : Int))) none).run Tryd.prog W = .ok (.string (strOf [hexD d])) W := by
  subst he
  rcases (show d = 0 ∨ d = 1 ∨ d = 2 ∨ d = 3 ∨ d = 4 ∨ d = 5 ∨ d = 6 ∨ d = 7 ∨ d = 8 ∨ d = 9 ∨ d = 10 ∨ d = 11 ∨ d = 12 ∨ d = 13 ∨ d = 14 ∨ d = 15 by omega) with rfl | rfl | rfl | rfl | rfl | rfl | rfl | rfl | rfl | rfl | rfl | rfl | rfl | rfl | rfl | rfl <;> kernel_rfl
section
variable {w0 w : World} {L : List Assn}
set_option maxRecDepth 100000 in
set_option maxHeartbeats 2000000 in
theorem ref_Hex (x : Option Addr) (c : Nat) (l : List UInt8) (hl : l.length ≤ 1000) (hr : RdB w0 (.slice x l.length c) l) (hs : Sat w0 w L) :
    Calls Tryd.prog 26 #[.slice x l.length c] w fun e w' => e = .returned (.string (strOf (digL l))) ∧ Sat w0 w' L := by
  obtain ⟨n, hn⟩ : ∃ n, l.length = n := ⟨_, rfl⟩
  have HN := hid_ hn
  have HL := hid_ hl
  rw [hn] at hl
  have HR := hid_ hr
  rw [hn]
  clear hr hn
  go_enter Tryd.func26, Tryd.ntmps26
  go_wp2_with fail
  go_loopg [3, 5, 8] n (fun gg v3 _ v8 wr => ∃ i : Nat, i ≤ n ∧ n - i ≤ gg ∧ v3 = .string (strOf (digL (l.take i))) ∧ v8 = .int .i64 i ∧ Sat w0 wr L)
  case atStart => exact ⟨0, by omega, by omega, rfl, rfl, hs⟩
  case round =>
    obtain ⟨i, hi, hgg, rfl, rfl, h1⟩ := hrel
    clear hs
    by_cases hlt : i < n
    · obtain ⟨b, off, cap, he, hbl, h2, h3, h4⟩ := (HR.out.later h1).at (i := i) (by rw [HN.out]; exact hlt)
      injection he with he1 e10 he3
      clear e10
      subst he1 he3
      have c0 := h4 i (by rw [HN.out]; exact hlt)
      have HS := hid_ (digL_succ (l := l) (i := i) (by rw [HN.out]; exact hlt))
      obtain ⟨u, hu⟩ : ∃ u, (l.getD i 0).toNat = u := ⟨_, rfl⟩
      have hu8 : u < 256 := by rw [← hu]; exact UInt8.toNat_lt _
      rw [hu] at c0 HS
      have e15 := u8_and15 u hu8
      have f1 := hex_slice (u / 16) (u / 16 + 1) (by omega) rfl
      have f2 := hex_slice (u % 16) (u % 16 + 1) (by omega) rfl
      simp only [Int.natCast_ediv, Int.natCast_emod, Int.natCast_add, Int.natCast_one, Int.cast_ofNat_Int] at f1 f2
      have k1 : IntKind.u8.wrap ((u : Int) / 16 + 1) = (u : Int) / 16 + 1 := by unfold IntKind.wrap; simp [IntKind.signed, IntKind.bits]; omega
      have k2 : IntKind.u8.wrap ((u : Int) % 16 + 1) = (u : Int) % 16 + 1 := by unfold IntKind.wrap; simp [IntKind.signed, IntKind.bits]; omega
      obtain ⟨S, hS⟩ : ∃ S, strOf (digL (l.take i)) = S := ⟨_, rfl⟩
      have HSS := hid_ hS
      have hSz : S.size ≤ 2000 := by rw [← hS, strOf_size, digL_len, List.length_take]; omega
      have d1 : (strOf [hexD (u / 16)]).size = 1 := strOf_size _
      have d2 : (strOf [hexD (u % 16)]).size = 1 := strOf_size _
      have d3 : (strOf [hexD (u / 16)] ++ strOf [hexD (u % 16)]).size = 2 := by rw [ByteArray.size_append, d1, d2]
      have r1 : ¬ 9223372036854775807 < S.size + 2 := by omega
      rw [hS]
      clear hS hu h4 h2 h3
      go_wp2_with fail
      go_quiet (fail)
      go_wp2_with fail
      go_roundg (n - (i + 1))
      case measure => omega
      case rel => exact ⟨i + 1, by omega, by omega, by rw [HS.out, ← HSS.out, str_add, str_add]; rfl, by go_num, h1.drewN _⟩
    · obtain rfl : i = n := by omega
      have HS := hid_ (show digL (l.take i) = digL l by rw [List.take_of_length_le (by rw [HN.out]; exact Nat.le_refl _)])
      go_wp2_with fail
      go_ret
      rw [HS.out]
      exact ⟨rfl, h1⟩
end
end Go.Proofs.YtmnjaaeljpleeaaDoor
