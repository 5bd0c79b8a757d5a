/- The document's join of two rows of bytes; walked. -/
import Derived.Deep.LoopGhost
import Derived.Deep.RegionHeld3
import Derived.Test.YtkejadhkebjdcaaApp
namespace Go.Proofs.Ytkejadhkebjdcaa
open Go Go.RowKit
set_option linter.unusedVariables false
set_option linter.unusedSimpArgs false
section
variable {w0 w w' : World} {L L' : List Assn}
set_option maxRecDepth 100000 in
set_option maxHeartbeats 1000000 in
theorem rj_join {nb : Nat} {v1 v2 : Value} {l1 l2 : List UInt8} (hl : l1.length + l2.length ≤ 1000000) (hs : Sat w0 w (Blk nb (.cells #[v1, v2] 37 (0, 0)) :: L)) (h1 : ∀ (W : World) (L' : List Assn), Sat w0 W (L' ++ L) → RdB W v1 l1) (h2 : ∀ (W : World) (L' : List Assn), Sat w0 W (L' ++ L) → RdB W v2 l2) :
    Calls Try.prog 74 #[.slice (some ⟨nb, 0, none⟩) 2 2] w fun e w' => ∃ a c, e = .returned (.slice a (l1.length + l2.length) c) ∧ Sat w0 w' (OwnB 5 (.slice a (l1.length + l2.length) c) (l1 ++ l2) :: L) := by
  have hst := Sat.swap (OwnB.nilI (t := 5) hs)
  go_enter Try.func74, Try.ntmps74
  go_wp2_with fail
  go_loopw [3, 8] (fun v3 vi wr => ∃ (i : Nat) (acc : List UInt8), vi = .int .i64 i ∧ (i = 0 ∧ acc = [] ∨ i = 1 ∧ acc = l1 ∨ i = 2 ∧ acc = l1 ++ l2) ∧ Sat w0 wr (OwnB 5 v3 acc :: Blk nb (.cells #[v1, v2] 37 (0, 0)) :: L)) (fun _ vi _ => 2 - (intOf vi).toNat)
  case atStart => exact ⟨0, [], rfl, .inl ⟨rfl, rfl⟩, hst.swap⟩
  case round =>
    obtain ⟨i, acc, rfl, hc, h3⟩ := hrel
    have q0 : wr.cell? ⟨nb, 0, none⟩ = some v1 := h3.drop.cell 0 rfl
    have q1 : wr.cell? ⟨nb, 1, none⟩ = some v2 := h3.drop.cell 1 rfl
    rcases hc with ⟨rfl, rfl⟩ | ⟨rfl, rfl⟩ | ⟨rfl, rfl⟩
    · have hr := h1 wr [_, _] h3
      go_wp2_with (at_builtin; refine wpList_append_b (w0 := w0) rfl _ _ 37 rfl rfl h3 rfl (slSrc hr) l1 l1.length rfl rfl (by omega) ?_)
      intro a' c' w4 h4
      go_wp2_with fail
      go_roundw
      case rel => exact ⟨1, l1, rfl, .inr (.inl ⟨rfl, rfl⟩), h4⟩
      case measure => simp [intOf]
    · have hr := h2 wr [_, _] h3
      go_wp2_with (at_builtin; refine wpList_append_b (w0 := w0) rfl _ _ 37 rfl rfl h3 rfl (slSrc hr) (acc ++ l2) (acc.length + l2.length) rfl (by simp) (by omega) ?_)
      intro a' c' w4 h4
      go_wp2_with fail
      go_roundw
      case rel => exact ⟨2, acc ++ l2, rfl, .inr (.inr ⟨rfl, rfl⟩), h4⟩
      case measure => simp [intOf]
    · obtain ⟨a', c', hf, -⟩ := OwnB.slice h3
      rw [List.length_append] at hf
      subst hf
      go_wp2_with fail
      go_ret
      exact ⟨a', c', rfl, h3.swap.drop⟩
theorem rj_Join {nb : Nat} {v1 v2 : Value} {l1 l2 : List UInt8} (hl : l1.length + l2.length ≤ 1000000) (hs : Sat w0 w (Blk nb (.cells #[v1, v2] 37 (0, 0)) :: L)) (h1 : ∀ (W : World) (L' : List Assn), Sat w0 W (L' ++ L) → RdB W v1 l1) (h2 : ∀ (W : World) (L' : List Assn), Sat w0 W (L' ++ L) → RdB W v2 l2) :
    Calls Try.prog 52 #[.slice (some ⟨nb, 0, none⟩) 2 2] w fun e w' => ∃ a c, e = .returned (.slice a (l1.length + l2.length) c) ∧ Sat w0 w' (OwnB 5 (.slice a (l1.length + l2.length) c) (l1 ++ l2) :: L) := by
  have H := rj_join hl hs h1 h2
  go_enter Try.func52, Try.ntmps52
  go_wp2_with fail
  refine H.mono ?_
  rintro _ w1 ⟨a, c, rfl, h3⟩
  go_wp2_with fail
  go_ret
  exact ⟨a, c, rfl, h3⟩
end
end Go.Proofs.Ytkejadhkebjdcaa
