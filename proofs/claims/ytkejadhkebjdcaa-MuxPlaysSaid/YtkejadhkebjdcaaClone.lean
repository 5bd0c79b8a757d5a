/- slices.Clone at bytes. -/
import Derived.Test.YtkejadhkebjdcaaProg
import Derived.Test.YtkejadhkebjdcaaOwn
namespace Go.Proofs.Ytkejadhkebjdcaa
open Go Go.RowKit
set_option linter.unusedVariables false
set_option linter.unusedSimpArgs false
theorem info_u8 : ∃ i, Try.prog.info? 5 = some i ∧ i.zero = some (.int .u8 0) ∧ i.size = 1 ∧ i.bytes = 1 := info_at (by kernel_rfl)
section
variable {w0 w : World} {L : List Assn}

theorem clone_nil : Calls Try.prog 49 #[.slice none 0 0] w fun e w' => e = .returned (.slice none 0 0) ∧ w = w' := by
  go_enter Try.func49, Try.ntmps49
  go_wp2
  go_ret
  exact ⟨rfl, rfl⟩

set_option maxHeartbeats 400000 in
theorem clone_any (v : Value) (l : List UInt8) (hr : RdB w v l) (hl : l.length ≤ 1000000) :
    Calls Try.prog 49 #[v] w fun e w' => ∃ a' c', e = .returned (.slice a' l.length c') ∧ Sat w w' [OwnB 5 (.slice a' l.length c') l] := by
  obtain ⟨a, cap, rfl, h1, h2, h3⟩ := hr.form
  cases a with
  | none =>
    have hc := h3 rfl
    have h0 : l = [] := List.eq_nil_of_length_eq_zero (by omega)
    subst h0
    subst hc
    refine clone_nil.mono ?_
    rintro _ _ ⟨rfl, rfl⟩
    exact ⟨none, 0, rfl, OwnB.nilI (Sat.refl w)⟩
  | some ad =>
    obtain ⟨i0, hi, hz0, hz1, hz2⟩ := info_u8
    go_enter Try.func49, Try.ntmps49
    have h0 : Sat w w ([] : List Assn) := Sat.refl w
    go_wp2_with (at_builtin; refine wpList_append_sat (w0 := w) (L := []) (e := 5) (sz := 1) (n := 0) (xs := []) rfl _ _ 37 37 rfl Try.underlying37 hi hz0 hz1 hz2 rfl rfl ?c1 rfl (RdB.src (l := l) Try.underlying37 ?c2) ?c3 ?c4 ?c5)
    case c1 => exact OwnS.ofBlk (h0.alloc _) (Nat.le_refl _) (Nat.zero_le _) (by simp) (by simp)
    case c2 => exact hr.mono ((Below.refl _ _).alloc (Nat.le_refl _) _)
    case c3 => simp only [maxLen]; omega
    case c4 => omega
    intro a' c' w1 h4 _
    go_wp2
    go_ret
    exact ⟨a', c', rfl, h4⟩
end
end Go.Proofs.Ytkejadhkebjdcaa
