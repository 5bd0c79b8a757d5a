/- The document's MayAddr, walked. -/
import Derived.Test.YtkejadhkebjdcaaAddrW
namespace Go.Proofs.Ytkejadhkebjdcaa
open Go Go.RowKit
set_option linter.unusedVariables false
set_option linter.unusedSimpArgs false
section
variable {w0 w : World} {L : List Assn}
set_option maxRecDepth 100000 in
set_option maxHeartbeats 2000000 in
theorem ref_mayName (s : ByteArray) (hs : s.size ≤ maxLen) : Calls Try.prog 87 #[.string s] w fun e w' => e = .returned (.bool (nameOk s.data.toList)) ∧ w = w' := by
  unfold maxLen at hs
  go_enter Try.func87, Try.ntmps87
  go_wp2_with fail
  go_loop [7] (fun vi => ∃ i : Nat, i ≤ s.size ∧ vi = .int .i64 i ∧ Hid ((s.data.toList.take i).all (fun c => letterB c.toNat) = true)) (fun vi => s.size - (intOf vi).toNat)
  case atStart => exact ⟨0, by omega, rfl, hid_ (by simp)⟩
  case round =>
    obtain ⟨i, hi, rfl, hall⟩ := hrel
    have hsz : s.data.toList.length = s.size := by rw [Array.length_toList]; rfl
    by_cases hlt : i < s.size
    · have hg : s.data.toList.getD i default = s[i] := by simp [List.getD, hlt]; rfl
      have htk := all_take (fun c : UInt8 => letterB c.toNat) s.data.toList i (by omega) hall.out
      rw [hg] at htk
      cases hb : letterB (s[i]).toNat
      · have hno := hid_ (all_not (fun c : UInt8 => letterB c.toNat) s.data.toList i (by omega) (by rw [hg]; exact hb))
        have HB := hid_ hb
        clear hb htk hg hsz
        go_wp2
        all_goals first
          | (go_ret
             exact ⟨ret_bool (by unfold nameOk; rw [hno.out]; rfl), rfl⟩)
          | (exfalso
             have := HB.out
             unfold letterB at this
             simp at this
             simp_all
             try omega)
      · have hyes := hid_ (htk.trans hb)
        have HB := hid_ hb
        clear hb htk hg hsz
        go_wp2
        all_goals first
          | exact ⟨⟨i + 1, by omega, by go_num, hyes⟩, by simp [intOf]; omega⟩
          | (exfalso
             have hb2 := HB.out
             unfold letterB at hb2
             simp only [Bool.or_eq_true, Bool.and_eq_true, decide_eq_true_eq, beq_iff_eq, Bool.not_eq_true', decide_eq_false_iff_not, beq_eq_false_iff_ne] at *
             omega)
    · have hfin := hid_ (show (s.data.toList).all (fun c => letterB c.toNat) = true by
        have := hall.out
        rwa [List.take_of_length_le (by omega)] at this)
      have Hsz := hid_ hsz
      clear hsz
      go_wp2
      all_goals
        go_ret
        exact ⟨ret_bool (by unfold nameOk; rw [hfin.out, Hsz.out]; rw [Bool.eq_iff_iff]; simp; try omega), rfl⟩

set_option maxRecDepth 100000 in
set_option maxHeartbeats 1000000 in
theorem ref_MayAddr (a : AdM) (x : Option Addr) (c : Nat) (hn : a.name.size ≤ maxLen) (hl : a.ip.length ≤ maxLen) :
    Calls Try.prog 77 #[.agg #[.int .i64 a.kind, .slice x a.ip.length c, .string a.name, .int .i64 a.port]] w fun e w' => e = .returned (.bool a.may) ∧ Below w.heap.size w w' := by
  have hl' := hl
  unfold maxLen at hl'
  have hB : ∀ o, Below w.heap.size w (w.alloc o) := fun o => (Below.refl _ _).alloc (Nat.le_refl _) _
  by_cases hp : a.port < 0 ∨ 65535 < a.port
  · have e1 : a.may = false := by unfold AdM.may; rw [Bool.eq_false_iff]; simp; omega
    rw [e1]
    clear e1
    rcases hp with hp | hp
    all_goals
      go_enter Try.func77, Try.ntmps77
      go_wp2
      all_goals
        go_ret
        exact ⟨rfl, hB _⟩
  · have hp1 : 0 ≤ a.port := by omega
    have hp2 : a.port ≤ 65535 := by omega
    have e0 : a.may = (if a.kind = 1 then a.ip.length == 4 && a.name.size == 0 else if a.kind = 4 then a.ip.length == 16 && a.name.size == 0 else if a.kind = 3 then nameOk a.name.data.toList && a.ip.length == 0 else false) := by
      unfold AdM.may; simp [hp1, hp2]
    clear hp
    by_cases h1 : a.kind = 1
    · have E1 := hid_ (show a.may = (a.ip.length == 4 && a.name.size == 0) by rw [e0, if_pos h1])
      have hb1 : (a.kind == 1) = true := by simp [h1]
      clear e0 h1
      go_enter Try.func77, Try.ntmps77
      go_wp2
      all_goals
        go_ret
        exact ⟨ret_bool (by rw [E1.out]; try rw [isEmpty_size]
                            rw [Bool.eq_iff_iff]; simp; try omega), hB _⟩
    · have hb1 : (a.kind == 1) = false := by simp [h1]
      by_cases h4 : a.kind = 4
      · have E1 := hid_ (show a.may = (a.ip.length == 16 && a.name.size == 0) by rw [e0, if_neg h1, if_pos h4])
        have hb4 : (a.kind == 4) = true := by simp [h4]
        clear e0 h1 h4
        go_enter Try.func77, Try.ntmps77
        go_wp2
        all_goals
          go_ret
          exact ⟨ret_bool (by rw [E1.out]; try rw [isEmpty_size]
                              rw [Bool.eq_iff_iff]; simp; try omega), hB _⟩
      · have hb4 : (a.kind == 4) = false := by simp [h4]
        by_cases h3 : a.kind = 3
        · have E1 := hid_ (show a.may = (nameOk a.name.data.toList && a.ip.length == 0) by rw [e0, if_neg h1, if_neg h4, if_pos h3])
          have hb3 : (a.kind == 3) = true := by simp [h3]
          clear e0 h1 h4 h3
          cases hok : nameOk a.name.data.toList
          all_goals
            have HN := hid_ hok
            clear hok
            go_enter Try.func77, Try.ntmps77
            go_wp2_with fail
            refine (ref_mayName _ hn).mono ?_
            rintro _ _ ⟨rfl, rfl⟩
            rw [HN.out]
            go_wp2
            all_goals
              go_ret
              exact ⟨ret_bool (by rw [E1.out, HN.out]; rw [Bool.eq_iff_iff]; simp), hB _⟩
        · have E1 := hid_ (show a.may = false by rw [e0, if_neg h1, if_neg h4, if_neg h3])
          have hb3 : (a.kind == 3) = false := by simp [h3]
          clear e0 h1 h4 h3
          go_enter Try.func77, Try.ntmps77
          go_wp2
          all_goals
            go_ret
            exact ⟨ret_bool E1.out.symm, hB _⟩

end
end Go.Proofs.Ytkejadhkebjdcaa
