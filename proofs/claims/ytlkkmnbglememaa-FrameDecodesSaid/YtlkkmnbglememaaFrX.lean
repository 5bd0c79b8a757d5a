/- Chapter 18's own helpers, walked: awake, Light. -/
import Derived.Test.YtlkkmnbglememaaFrW
import Derived.Test.YtlkkmnbglememaaFrL
namespace Go.Proofs.Ytlkkmnbglememaa
open Go Go.RowKit
set_option linter.unusedVariables false
set_option linter.unusedSimpArgs false

theorem fin7_enc : (FrM.finF 7).enc = [4, 0, 7] := by decide +kernel
theorem fin7_may : (FrM.finF 7).may = true := by decide +kernel
theorem fin7_dec : decF [4, 0, 7] = (0, [FrM.finF 7]) := by
  have h := decF_all (l := [FrM.finF 7]) (fun f hf => by simp at hf; rw [hf]; exact fin7_may)
  rw [show encL [FrM.finF 7] = (FrM.finF 7).enc by simp [encL], fin7_enc] at h
  exact h

section
variable {w0 w : World} {L : List Assn}
set_option maxRecDepth 100000 in
set_option maxHeartbeats 1000000 in
theorem frame_awake (hs : Sat w0 w L) : Calls Try.prog 10 #[] w fun e w' => e = .returned (.bool true) ∧ Sat w0 w' L := by
  have hE := frame_Encode_yes (FrM.finF 7) none none 0 0 fin7_may hs (fun W L' h => ⟨RdB.nil W, RdB.nil W, Nat.zero_le _⟩)
  rw [fin7_enc] at hE
  unfold frV at hE
  have HE := hid_ hE
  clear hE
  go_enter Try.func10, Try.ntmps10
  go_wp2_with fail
  refine HE.out.mono ?_
  rintro _ w1 ⟨a, k, rfl, h1⟩
  have hD := frame_Decode (b := [4, 0, 7]) (by decide) h1 (fun W L' h => OwnB.rd (Sat.front L' h))
  rw [fin7_dec] at hD
  have HD := hid_ hD
  clear hD
  go_wp2_with fail
  refine HD.out.mono ?_
  rintro _ w2 ⟨a2, c2, rfl, h2⟩
  obtain ⟨b2, o2, ip, d, he, hf⟩ := FramesA.at2 h2 (i := 0) (f := FrM.finF 7) rfl
  subst he
  have c1 : w2.cell? ⟨b2, o2 + 0 * 9 + 1, none⟩ = some (.int .i64 7) := hf.cell 1 _ rfl
  rw [show o2 + 0 * 9 + 1 = o2 + 1 by omega] at c1
  have hr := OwnB.rd h2.drop
  have hcv : (convert 22 9 (.slice a 3 k)).run Try.prog w2 = .ok (.string ⟨#[4, 0, 7]⟩) w2 := conv_rd Try.underlying22 Try.underlying5 Try.underlying9 hr
  clear hf hr
  go_wp2
  go_ret
  exact ⟨rfl, h2.drop.drop⟩
/-- Can these frames be gone through? (what is read of them: that there are few.) -/
def LightOk (w0 : World) (L : List Assn) (n : Nat) (e : Ending) (w' : World) : Prop := ∃ k : Int, e = .returned (.int .i64 k) ∧ 0 ≤ k ∧ (k = 0 → n ≤ 60) ∧ Sat w0 w' L
set_option maxRecDepth 100000 in
set_option maxHeartbeats 1000000 in
theorem frame_Light {a : Option Addr} {n c : Nat} (hn : n ≤ maxLen) (hs : Sat w0 w L) (hv : ∀ (W : World) (L' : List Assn), Sat w0 W (L' ++ L) → ∀ i, i < n → ∃ b o f ip d, a = some ⟨b, o, none⟩ ∧ RdFr W b (o + i * 9) f ip d) :
    Calls Try.prog 9 #[.slice a n c] w (LightOk w0 L n) := by
  unfold maxLen at hn
  go_enter Try.func9, Try.ntmps9
  go_wp2_with fail
  go_loopg [3, 8] 61 (fun gg v3 v8 wr => ∃ (i : Nat) (N : Int), i ≤ n ∧ i ≤ 60 ∧ 61 - i ≤ gg ∧ v8 = .int .i64 i ∧ v3 = .int .i64 N ∧ Sat w0 wr L)
  case atStart => exact ⟨0, 0, Nat.zero_le _, Nat.zero_le _, by omega, rfl, rfl, hs⟩
  case round =>
    obtain ⟨i, N, hi, hi2, hgg, rfl, rfl, h1⟩ := hrel
    by_cases hlt : i < n
    · obtain ⟨b, o, f, ip, d, rfl, hf⟩ := hv wr [] h1 i hlt
      obtain ⟨ai, ci, rfl, -, -, -⟩ := hf.ip.form
      obtain ⟨ad, cd, rfl, -, -, -⟩ := hf.data.form
      obtain ⟨x0, x1, x2, x3, x4, x5, x6, x7, x8⟩ := hf.nine
      have z1 : 0 ≤ (i : Int) ∧ (i : Int) < (n : Int) := by omega
      have h2 := h1.alloc (frO f (.slice ai f.addr.ip.length ci) (.slice ad f.data.length cd))
      clear hf hv
      by_cases h60 : 60 ≤ i
      · have q60 : decide ((60 : Int) ≤ (i : Int)) = true := by simp; omega
        go_wp2_with fail
        go_ret
        exact ⟨_, rfl, by omega, fun h => by omega, h2.drop⟩
      · have q60 : decide ((60 : Int) ≤ (i : Int)) = false := by simp; omega
        go_wp2_with fail
        · go_ret
          exact ⟨_, rfl, by omega, fun h => by omega, h2.drop⟩
        · go_roundg (61 - (i + 1))
          case measure => omega
          case rel => exact ⟨i + 1, _, by omega, by omega, by omega, by go_num, rfl, h2.drop⟩
    · obtain rfl : i = n := by omega
      go_wp2_with fail
      go_ret
      exact ⟨0, rfl, Int.le_refl _, fun _ => hi2, h1⟩
end
end Go.Proofs.Ytlkkmnbglememaa
