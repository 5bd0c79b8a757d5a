/- The law MuxApart, walked. -/
import Derived.Test.YtkejadhkebjdcaaMuA
namespace Go.Proofs.Ytkejadhkebjdcaa
open Go Go.RowKit Go.Maps
set_option linter.unusedVariables false
set_option linter.unusedSimpArgs false
section
variable {w0 w : World} {L : List Assn}
set_option maxRecDepth 100000 in
set_option maxHeartbeats 4000000 in
theorem mux_apart_law (u av bv ev kv : Value) (w : World) (hu : IsInt w u) (ha : IsBytes w av) (hb : IsBytes w bv) (he : IsBool w ev) (hk : IsBool w kv) :
    Calls Try.prog 5 #[u, av, bv, ev, kv] w fun e w' => e = .returned (.bool true) ∧ Below w.heap.size w w' := by
  have hs := Sat.refl w
  obtain ⟨k0, rfl, _⟩ := hu
  obtain ⟨a, hra⟩ := ha
  obtain ⟨b, hrb⟩ := hb
  obtain ⟨ends, rfl⟩ := he
  obtain ⟨cuts, rfl⟩ := hk
  obtain ⟨aa, ca, rfl, _, _, _⟩ := hra.form
  obtain ⟨ab, cb, rfl, _, _, _⟩ := hrb.form
  by_cases hbig : 3000 < a.length ∨ 3000 < b.length
  · have hbb : (3000 < a.length) ∨ (¬ 3000 < a.length ∧ 3000 < b.length) := by omega
    clear hbig
    rcases hbb with hbb | ⟨hb0, hbb⟩
    all_goals
      go_enter Try.func5, Try.ntmps5
      go_wp2_with fail
      refine (mx_awake hs).mono ?_
      rintro _ w1 ⟨rfl, h1⟩
      go_wp2_with fail
      go_ret
      exact ⟨rfl, h1.below⟩
  · have hla : a.length ≤ 3000 := by omega
    have hlb : b.length ≤ 3000 := by omega
    clear hbig
    have hb1 := um_bd k0 (m := 5000) (by omega) (by omega)
    obtain ⟨mz, hmz⟩ := Int.eq_ofNat_of_zero_le hb1.1
    rw [hmz] at hb1
    have hE1 : IntKind.i64.wrap (1 + (mz : Int)) = ((mz + 1 : Nat) : Int) := by rw [IntWalk.i64_in _ (by omega)]; omega
    obtain ⟨M, hM⟩ : ∃ M, mz + 1 = M := ⟨_, rfl⟩
    have hM1 : 1 ≤ M ∧ M ≤ 5000 := by omega
    rw [hM] at hE1
    clear hM hb1
    go_enter Try.func5, Try.ntmps5
    go_wp2_with fail
    refine (mux_New M 5 hs).mono ?_
    rintro _ w1 ⟨m, rfl, h1⟩
    rw [show max (1 : Int) (min M 65536) = M by omega, show max (1 : Int) (min 5 64) = 5 by decide] at h1
    go_wp2_with fail
    refine (stream_New 2 M (by omega) (by omega) (by omega) (by omega) h1).mono ?_
    rintro _ w2 ⟨x, rfl, h2⟩
    go_wp2_with fail
    refine (stream_New 4 M (by omega) (by omega) (by omega) (by omega) h2).mono ?_
    rintro _ w3 ⟨y, rfl, h3⟩
    have h3 := Sat.front [_, _] h3
    go_wp2_with fail
    refine (mux_Open 4 (by decide) h3).mono ?_
    rintro _ w4 ⟨g4, rfl, h4⟩
    rw [show openB 5 [] 4 = true from rfl] 
    rw [show openM M 5 [] 4 g4 = [(g4, StM.new 4 M)] from rfl] at h4
    go_wp2_with fail
    refine (mux_Open 2 (by decide) h4).mono ?_
    rintro _ w5 ⟨g2, rfl, h5⟩
    rw [show openB 5 [(g4, StM.new 4 M)] 2 = true from rfl] 
    rw [show openM M 5 [(g4, StM.new 4 M)] 2 g2 = [(g2, StM.new 2 M), (g4, StM.new 4 M)] from rfl] at h5
    go_wp2_with fail
    refine (mux_Get 2 (by decide) h5).mono ?_
    rintro _ _ ⟨rfl, rfl⟩
    rw [ap_get2 rfl]
    go_wp2_with fail
    refine (mux_Get 4 (by decide) h5).mono ?_
    rintro _ _ ⟨rfl, rfl⟩
    rw [ap_get4 rfl rfl]
    go_wp2_with fail
    refine (mux_Get 2 (by decide) h5).mono ?_
    rintro _ _ ⟨rfl, rfl⟩
    rw [ap_get2 rfl]
    go_wp2_with fail
    obtain ⟨F1, f1, f2⟩ := MxA.at (A := []) (B := [(g4, StM.new 4 M)]) h5
    refine (stream_Send g2 (StM.new 2 M) _ a (hra.mono h5.below) f1).mono ?_
    rintro _ w6 ⟨rfl, q6⟩
    have h6 : Sat w w6 [MxA m M 5 [(g2, (StM.new 2 M).send a), (g4, StM.new 4 M)], StA y (StM.new 4 M), StA x (StM.new 2 M)] := f2 _ _ _ (id_send _ _) q6
    clear q6 f2 f1 h5 h4
    go_wp2_with fail
    have h6x := Sat.front [_, _] h6
    refine (stream_Send x (StM.new 2 M) _ a (hra.mono h6.below) h6x).mono ?_
    rintro _ w7 ⟨rfl, h7⟩
    have h7 := h7.swap
    go_wp2_with fail
    refine (mux_Get 4 (by decide) h7).mono ?_
    rintro _ _ ⟨rfl, rfl⟩
    rw [ap_get4 (id_send _ _) rfl]
    go_wp2_with fail
    obtain ⟨F1, f1, f2⟩ := MxA.at (A := [(g2, (StM.new 2 M).send a)]) (B := []) h7
    refine (stream_Send g4 (StM.new 4 M) _ b (hrb.mono h7.below) f1).mono ?_
    rintro _ w8 ⟨rfl, q8⟩
    have h8 : Sat w w8 [MxA m M 5 [(g2, (StM.new 2 M).send a), (g4, (StM.new 4 M).send b)], StA x ((StM.new 2 M).send a), StA y (StM.new 4 M)] := f2 _ _ _ (id_send _ _) q8
    clear q8 f2 f1 h7 h6x h6
    go_wp2_with fail
    have h8y := Sat.front [_, _] h8
    refine (stream_Send y (StM.new 4 M) _ b (hrb.mono h8.below) h8y).mono ?_
    rintro _ w9 ⟨rfl, h9⟩
    have h9 := h9.swap
    clear h8y h8
    go_upto_if 81 with fail
    go_cut [] (fun wx => Sat w wx [MxA m M 5 [(g2, apA M a ends), (g4, (StM.new 4 M).send b)], StA x (apA M a ends), StA y ((StM.new 4 M).send b)])
    case first =>
      cases ends
      · go_wp2_with fail
        go_meet
        exact Sat.re [0, 2, 1] [_, _, _] h9
      · go_wp2_with fail
        refine (mux_Get 2 (by decide) h9).mono ?_
        rintro _ _ ⟨rfl, rfl⟩
        rw [ap_get2 (id_send _ _)]
        go_wp2_with fail
        obtain ⟨F1, f1, f2⟩ := MxA.at (A := []) (B := [(g4, (StM.new 4 M).send b)]) h9
        refine (stream_End g2 ((StM.new 2 M).send a) f1).mono ?_
        rintro _ wa ⟨rfl, qa⟩
        have hA : Sat w wa [MxA m M 5 [(g2, apA M a true), (g4, (StM.new 4 M).send b)], StA y ((StM.new 4 M).send b), StA x ((StM.new 2 M).send a)] := f2 _ _ _ (id_fin _) qa
        clear qa f2 f1
        go_wp2_with fail
        have hAx := Sat.front [_, _] hA
        refine (stream_End x ((StM.new 2 M).send a) hAx).mono ?_
        rintro _ wb ⟨rfl, hB⟩
        go_wp2_with fail
        go_meet
        exact hB.swap
    case rest =>
      clear h9
      have h9 := hcut
      clear hcut
      have HS := hid_ h9
      go_upto_if 87 with fail
      go_cut [] (fun wx => Sat w wx [MxA m M 5 [(g2, apA M a ends), (g4, apB M b cuts)], StA x (apA M a ends), StA y (apB M b cuts)])
      case first =>
        cases cuts
        · go_wp2_with fail
          go_meet
          exact h9
        · go_wp2_with fail
          refine (mux_Get 4 (by decide) h9).mono ?_
          rintro _ _ ⟨rfl, rfl⟩
          rw [ap_get4 (apA_id M hla ends) (id_send _ _)]
          go_wp2_with fail
          obtain ⟨F1, f1, f2⟩ := MxA.at (A := [(g2, apA M a ends)]) (B := []) h9
          refine (stream_Break g4 ((StM.new 4 M).send b) 3 f1).mono ?_
          rintro _ wa ⟨rfl, qa⟩
          have hA : Sat w wa [MxA m M 5 [(g2, apA M a ends), (g4, apB M b true)], StA x (apA M a ends), StA y ((StM.new 4 M).send b)] := f2 _ _ _ (id_breakS _ _) qa
          clear qa f2 f1
          go_wp2_with fail
          have hAx := Sat.front [_, _] hA
          refine (stream_Break y ((StM.new 4 M).send b) 3 hAx).mono ?_
          rintro _ wb ⟨rfl, hB⟩
          go_wp2_with fail
          go_meet
          exact Sat.re [1, 2, 0] [_, _, _] hB
      case rest =>
        clear h9 HS
        have h9 := hcut
        clear hcut
        have h9x : Sat w _ [StA x (apA M a ends), StA y (apB M b cuts), MxA m M 5 [(g2, apA M a ends), (g4, apB M b cuts)]] := Sat.re [1, 2, 0] [_, _, _] h9
        go_wp2_with fail
        refine (stream_Next x (apA M a ends) h9x).mono ?_
        rintro _ wa ⟨v1, rfl, hA⟩
        have hAy : Sat w _ [StA y (apB M b cuts), FramesA v1 (apA M a ends).nextL, StA x (apA M a ends).next, MxA m M 5 [(g2, apA M a ends), (g4, apB M b cuts)]] := Sat.re [2, 0, 1, 3] [_, _, _, _] hA
        have okA := StA.ok hA.drop
        have okB := StA.ok hAy
        have l1 := nextL_le (StA.ok h9x)
        have l2 := nextL_le okB
        go_wp2_with fail
        refine (stream_Next y (apB M b cuts) hAy).mono ?_
        rintro _ wb ⟨v2, rfl, hB⟩
        have hBf : Sat w _ [FramesA v1 (apA M a ends).nextL, FramesA v2 (apB M b cuts).nextL, MxA m M 5 [(g2, apA M a ends), (g4, apB M b cuts)], StA y (apB M b cuts).next, StA x (apA M a ends).next] := Sat.re [2, 0, 4, 1, 3] [_, _, _, _, _] hB
        clear okA okB hA hAy h9x hB
        go_wp2_with (refine wpList_append_fr rfl _ _ rfl rfl hBf rfl (by omega) ?_; intro a3 c3 w3' hC)
        obtain ⟨A, hA⟩ : ∃ A, apA M a ends = A := ⟨_, rfl⟩
        obtain ⟨B, hB⟩ : ∃ B, apB M b cuts = B := ⟨_, rfl⟩
        have iA : A.next.id = 2 := by rw [next_id, ← hA]; exact apA_id M hla ends
        have iB : B.next.id = 4 := by rw [next_id, ← hB]; exact apB_id M hlb cuts
        have dA : A.next.done = false := by rw [← hA]; exact apA_done M hla ends
        have dB : B.next.done = cuts := by rw [← hB]; exact apB_done M hlb cuts
        rw [hA] at hC l1 ⊢
        rw [hB] at hC l2 ⊢
        obtain ⟨n1, hn1⟩ : ∃ n, A.nextL.length = n := ⟨_, rfl⟩
        obtain ⟨n2, hn2⟩ : ∃ n, B.nextL.length = n := ⟨_, rfl⟩
        have HL := hid_ (show (A.nextL ++ B.nextL).length = n1 + n2 by rw [List.length_append, hn1, hn2])
        have HI := hid_ (And.intro iA (And.intro iB (And.intro dA dB)))
        rw [hn1] at hC l1 ⊢
        rw [hn2] at hC l2 ⊢
        clear hA hB hn1 hn2 iA iB dA dB
        have hC := hC.swap
        refine (mux_Next hC).mono ?_
        rintro _ wd ⟨v3, rfl, hD⟩
        rw [show nextM [(g2, A), (g4, B)] [(g2, A), (g4, B)].length = [(g2, A.next), (g4, B.next)] from rfl, show nextsL [(g2, A), (g4, B)] = A.nextL ++ B.nextL by simp [nextsL]] at hD
        obtain ⟨a4, c4, rfl, _, _⟩ := OwnL.form hD
        rw [HL.out] at hD ⊢
        have r1 := FramesA.rd hD
        have r2 := FramesA.rd (Sat.front [_, _] hD)
        go_wp2_with fail
        refine (ref_SameFrames HL.out (by simp only [maxLen]; omega) r1 r2).mono ?_
        rintro _ we ⟨rfl, hbe⟩
        have hE := Sat.front [_] (hD.under hbe)
        clear r1 r2 hD hC hbe
        go_wp2_with fail
        refine (mux_Sweep hE).mono ?_
        rintro _ wf ⟨a5, c5, rfl, hF⟩
        obtain ⟨iA, iB, dA, dB⟩ := HI.out
        cases cuts
        · rw [show goneL [(g2, A.next), (g4, B.next)] = [] by simp [goneL, dA, dB], show sweepM [(g2, A.next), (g4, B.next)] = [(g2, A.next), (g4, B.next)] by simp [sweepM, dA, dB]] at hF
          rw [show goneL [(g2, A.next), (g4, B.next)] = [] by simp [goneL, dA, dB]]
          clear iB dA dB hE
          have iA := hid_ iA
          go_wp2_with fail
          refine (mux_Len hF.drop).mono ?_
          rintro _ _ ⟨rfl, rfl⟩
          go_wp2_with fail
          refine (mux_Get 2 (by decide) hF.drop).mono ?_
          rintro _ _ ⟨rfl, rfl⟩
          rw [ap_get2 iA.out]
          go_wp2_with fail
          refine (mx_awake hF).mono ?_
          rintro _ wg ⟨rfl, hG⟩
          go_wp2_with fail
          go_ret
          exact ⟨rfl, hG.below⟩
        · rw [show goneL [(g2, A.next), (g4, B.next)] = [4] by simp [goneL, dA, dB, iB], show sweepM [(g2, A.next), (g4, B.next)] = [(g2, A.next)] by simp [sweepM, dA, dB]] at hF
          rw [show goneL [(g2, A.next), (g4, B.next)] = [4] by simp [goneL, dA, dB, iB]]
          obtain ⟨b5, o5, k5, e5, _, _, hc5, _⟩ := OwnS.cells hF (by simp)
          injection e5 with ea el ec
          subst ea ec
          clear el
          have c0 : wf.cell? ⟨b5, o5, none⟩ = some (.int .i64 4) := hc5 0 _ rfl
          clear iB dA dB hE hc5
          have iA := hid_ iA
          go_wp2_with fail
          refine (mux_Len hF.drop).mono ?_
          rintro _ _ ⟨rfl, rfl⟩
          go_wp2_with fail
          refine (mux_Get 4 (by decide) hF.drop).mono ?_
          rintro _ _ ⟨rfl, rfl⟩
          rw [show getM [(g2, A.next)] 4 = none by unfold getM; simp [iA.out]]
          go_wp2_with fail
          refine (mux_Get 2 (by decide) hF.drop).mono ?_
          rintro _ _ ⟨rfl, rfl⟩
          rw [show getM [(g2, A.next)] 2 = some (g2, A.next) by unfold getM; simp [iA.out]]
          go_wp2_with fail
          refine (mx_awake hF).mono ?_
          rintro _ wg ⟨rfl, hG⟩
          go_wp2_with fail
          go_ret
          exact ⟨rfl, hG.below⟩
end
end Go.Proofs.Ytkejadhkebjdcaa
