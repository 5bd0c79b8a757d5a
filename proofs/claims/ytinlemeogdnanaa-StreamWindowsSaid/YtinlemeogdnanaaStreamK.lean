/- The law StreamWindows, walked. -/
import Derived.Test.YtinlemeogdnanaaStreamJ
namespace Go.Proofs.Ytinlemeogdnanaa
open Go Go.RowKit
set_option linter.unusedVariables false
set_option linter.unusedSimpArgs false
section
variable {w0 w : World} {L : List Assn}

def wnM (over cut : Bool) : StM := ⟨9, 1000, 1000, [], false, false, over, cut⟩
theorem wn_got {n : Nat} (h1 : 1 ≤ n) (h2 : n ≤ 1000) : (wnM false false).hears (FrM.dataF 9 (zeros n)) = true ∧ (wnM false false).wrong (FrM.dataF 9 (zeros n)) = false := by
  constructor
  · unfold StM.hears
    rw [dataF_may (by omega) (by omega) (by rw [zeros_length]; omega) (by rw [zeros_length]; omega)]
    rfl
  · unfold StM.wrong
    simp [wnM, FrM.dataF, FrM.of, zeros_length]
    omega

set_option maxRecDepth 100000 in
set_option maxHeartbeats 2000000 in
theorem stream_windows_law (n : Int) (w : World) :
    Calls Try.prog 5 #[.int .i64 n] w fun e w' => e = .returned (.bool true) ∧ Below w.heap.size w w' := by
  have hbd := um_bd n (m := 1000) (by omega) (by omega)
  obtain ⟨k, hk⟩ := Int.eq_ofNat_of_zero_le hbd.1
  rw [hk] at hbd
  obtain ⟨m, hm⟩ : ∃ m : Nat, 1 + k = m := ⟨_, rfl⟩
  have E1 : IntKind.i64.wrap (1 + (k : Int)) = (m : Int) := by rw [IntWalk.i64_in _ (by omega)]; omega
  have hm1 : 1 ≤ m := by omega
  have hm2 : m ≤ 1000 := by omega
  have hmk := make_u8 m (by omega)
  obtain ⟨g1, g2⟩ := wn_got hm1 hm2
  have hs := Sat.refl w
  go_enter Try.func5, Try.ntmps5
  go_wp2_with fail
  refine (stream_New 9 1000 (by omega) (by omega) (by omega) (by omega) hs).mono ?_
  rintro _ w1 ⟨g, rfl, h1⟩
  replace h1 : Sat w w1 [StA g (wnM false false)] := h1
  go_wp2_with fail
  go_loopw [24] (fun vi wr => ∃ i : Nat, i ≤ 3 ∧ vi = .int .i64 i ∧ Sat w wr [StA g (wnM false false)]) (fun vi _ => 3 - (intOf vi).toNat)
  case atStart => exact ⟨0, by omega, rfl, h1⟩
  case round =>
    obtain ⟨i, hi, rfl, hs4⟩ := hrel
    clear h1
    by_cases hlt : i < 3
    · go_wp2_with fail
      have hz := OwnB.made (by omega) (hs4.alloc (.cells (bytesC (zeros m)).toArray 5 (0, 0)))
      refine (stream_GotV (FrM.dataF 9 (zeros m)) rfl (RdB.nilI _) (OwnB.rd hz) (by simp [FrM.dataF, FrM.of, AdM.zero]) hz.drop).mono ?_
      rintro _ w2 ⟨vd, vf, rfl, h2⟩
      rw [show (wnM false false).got (FrM.dataF 9 (zeros m)) = wnM false false by unfold StM.got StM.heard; rw [g1, g2]; simp [FrM.dataF, FrM.of],
        show (wnM false false).gotD (FrM.dataF 9 (zeros m)) = zeros m by unfold StM.gotD; rw [g1, g2]; simp [FrM.dataF, FrM.of],
        show (wnM false false).gotL (FrM.dataF 9 (zeros m)) = [FrM.winF 9 m] by unfold StM.gotL; rw [g1, g2]; simp [FrM.dataF, FrM.of, wnM, zeros_length]] at h2
      rw [show (wnM false false).gotK (FrM.dataF 9 (zeros m)) = 0 by unfold StM.gotK; rw [g1, g2]; simp [FrM.dataF, FrM.of]]
      obtain ⟨ad, cd, rfl, _, _, _⟩ := (OwnB.rd h2).form
      rw [zeros_length] at h2 ⊢
      obtain ⟨b, off, cap, ip, d, rfl, hrd⟩ := FramesA.at (Sat.front [_] h2) (i := 0) (f := FrM.winF 9 m) rfl
      simp only [Nat.zero_mul, Nat.add_zero, List.length_cons, List.length_nil, Nat.zero_add] at hrd
      obtain ⟨q0, q1, q2, q3, q4, q5, q6, q7, q8⟩ := hrd.nine
      go_wp2_with fail
      refine (ref_SameFrameV (FrM.winF 9 m) (FrM.winF 9 m) rfl rfl hrd.ip hrd.data (RdB.nilI _) (RdB.nilI _)).mono ?_
      rintro _ w3 ⟨rfl, h3⟩
      rw [sameFr_refl]
      go_wp2_with fail
      go_roundw
      case rel => exact ⟨i + 1, by omega, by go_num, (h2.under h3).drop.drop⟩
      case measure => simp [intOf]; omega
    · have hi3 : i = 3 := by omega
      subst hi3
      clear hlt g1 g2
      have x1 : (wnM false false).hears (FrM.finF 8) = false := by unfold StM.hears; simp [wnM, FrM.finF, FrM.of]
      have x2 : (wnM false false).hears (FrM.finF 9) = true := by unfold StM.hears; rw [finF_may (by omega) (by omega)]; rfl
      have x3 : (wnM true false).hears (FrM.finF 9) = true := by unfold StM.hears; rw [finF_may (by omega) (by omega)]; rfl
      have y2 : (wnM false false).wrong (FrM.finF 9) = false := by decide
      have y3 : (wnM true false).wrong (FrM.finF 9) = true := by decide
      go_wp2_with fail
      refine (stream_GotV (FrM.finF 8) rfl (RdB.nilI _) (RdB.nilI _) (by decide) hs4).mono ?_
      rintro _ w2 ⟨vd, vf, rfl, h2⟩
      rw [show (wnM false false).got (FrM.finF 8) = wnM false false by unfold StM.got; rw [x1]; rfl] at h2
      rw [show (wnM false false).gotK (FrM.finF 8) = 0 by unfold StM.gotK; rw [x1]; rfl]
      replace h2 := h2.drop.drop
      go_wp2_with fail
      refine (stream_GotV (FrM.finF 9) rfl (RdB.nilI _) (RdB.nilI _) (by decide) h2).mono ?_
      rintro _ w3 ⟨vd3, vf3, rfl, h3⟩
      rw [show (wnM false false).got (FrM.finF 9) = wnM true false by unfold StM.got StM.heard; rw [x2, y2]; rfl] at h3
      rw [show (wnM false false).gotK (FrM.finF 9) = 1 by unfold StM.gotK; rw [x2, y2]; rfl]
      replace h3 := h3.drop.drop
      go_wp2_with fail
      refine (stream_GotV (FrM.finF 9) rfl (RdB.nilI _) (RdB.nilI _) (by decide) h3).mono ?_
      rintro _ w4 ⟨vd4, vf4, rfl, h4⟩
      rw [show (wnM true false).got (FrM.finF 9) = wnM true true by unfold StM.got StM.heard; rw [x3, y3]; rfl, show (wnM true false).gotL (FrM.finF 9) = [FrM.resetF 9 1] by unfold StM.gotL; rw [x3, y3]; rfl] at h4
      rw [show (wnM true false).gotK (FrM.finF 9) = 2 by unfold StM.gotK; rw [x3, y3]; rfl]
      replace h4 := h4.drop
      obtain ⟨b, off, cap, ip, d, rfl, hrd⟩ := FramesA.at h4 (i := 0) (f := FrM.resetF 9 1) rfl
      simp only [Nat.zero_mul, Nat.add_zero, List.length_cons, List.length_nil, Nat.zero_add] at hrd
      obtain ⟨q0, q1, q2, q3, q4, q5, q6, q7, q8⟩ := hrd.nine
      replace q0 : w4.cell? ⟨b, off, none⟩ = some (.int .i64 5) := q0
      go_wp2_with fail
      refine (stream_Done g _ h4.drop).mono ?_
      rintro _ _ ⟨rfl, rfl⟩
      rw [show (wnM true true).done = true from rfl]
      go_wp2_with fail
      refine (stream_awake h4.drop).mono ?_
      rintro _ w5 ⟨rfl, h5⟩
      go_wp2_with fail
      go_ret
      exact ⟨rfl, h5.below⟩
end
end Go.Proofs.Ytinlemeogdnanaa
