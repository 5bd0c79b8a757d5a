/- The document's MayAddr, walked. -/
import Derived.Test.YtahnjbbjfjlpoaaAddrW
namespace Go.Proofs.Ytahnjbbjfjlpoaa
open Go Go.RowKit
set_option linter.unusedVariables false
set_option linter.unusedSimpArgs false
section
variable {w0 w : World} {L : List Assn}
set_option maxRecDepth 100000 in
set_option maxHeartbeats 2000000 in
theorem ref_mayName (s : ByteArray) (hs : s.size ≤ maxLen) : Calls Try.prog 32 #[.string s] w fun e w' => e = .returned (.bool (nameOk s.data.toList)) ∧ w = w' := by
  unfold maxLen at hs
  go_enter Try.func32, Try.ntmps32
  go_wp2_with fail
  go_loop [7] (fun vi => ∃ i : Nat, i ≤ s.size ∧ vi = .int .i64 i ∧ Hid ((s.data.toList.take i).all (fun c => letterB c.toNat) = true)) (fun vi => s.size - (intOf vi).toNat)
  case atStart => exact ⟨0, by omega, rfl, hid_ (by simp)⟩
  case round =>
    obtain ⟨i, hi, rfl, hall⟩ := hrel
    have hsz : s.data.toList.length = s.size := by rw [Array.length_toList]; rfl
    by_cases hlt : i < s.size
    · have hg : s.data.toList.getD i default = s[i] := by simp [List.getD, hlt]; rfl
      have htk := all_take (fun c : UInt8 => letterB c.toNat) s.data.toList i (by omega) hall.out
      rw [hg] at htk
      cases hb : letterB (s[i]).toNat
      · have hno := hid_ (all_not (fun c : UInt8 => letterB c.toNat) s.data.toList i (by omega) (by rw [hg]; exact hb))
        have HB := hid_ hb
        clear hb htk hg hsz
        go_wp2
        all_goals first
          | (go_ret
             exact ⟨ret_bool (by unfold nameOk; rw [hno.out]; rfl), rfl⟩)
          | (exfalso
             have := HB.out
             unfold letterB at this
             simp at this
             simp_all
             try omega)
      · have hyes := hid_ (htk.trans hb)
        have HB := hid_ hb
        clear hb htk hg hsz
        go_wp2
        all_goals first
          | exact ⟨⟨i + 1, by omega, by go_num, hyes⟩, by simp [intOf]; omega⟩
          | (exfalso
             have hb2 := HB.out
             unfold letterB at hb2
             simp only [Bool.or_eq_true, Bool.and_eq_true, decide_eq_true_eq, beq_iff_eq, Bool.not_eq_true', decide_eq_false_iff_not, beq_eq_false_iff_ne] at *
             omega)
    · have hfin := hid_ (show (s.data.toList).all (fun c => letterB c.toNat) = true by
        have := hall.out
        rwa [List.take_of_length_le (by omega)] at this)
      have Hsz := hid_ hsz
      clear hsz
      go_wp2
      all_goals
        go_ret
        exact ⟨ret_bool (by unfold nameOk; rw [hfin.out, Hsz.out]; rw [Bool.eq_iff_iff]; simp; try omega), rfl⟩

end
end Go.Proofs.Ytahnjbbjfjlpoaa
