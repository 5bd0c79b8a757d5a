/- The law MuxPacks, walked. -/
import Derived.BigQuiet
import Derived.Test.YtkejadhkebjdcaaRpk
import Derived.Test.YtkejadhkebjdcaaMxK
namespace Go.Proofs.Ytkejadhkebjdcaa
open Go Go.RowKit
set_option linter.unusedVariables false
set_option linter.unusedSimpArgs false

theorem below_of_sat {w0 w : World} {L : List Assn} (h : Sat w0 w L) : Below w0.heap.size w0 w := h.below
set_option maxRecDepth 100000 in
set_option maxHeartbeats 4000000 in
theorem mux_packs_law (v : Value) (w : World) (hv : IsFrames w v) :
    Calls Try.prog 6 #[v] w fun e w' => e = .returned (.bool true) ∧ Below w.heap.size w w' := by
  obtain ⟨a, c, l, rfl, ha⟩ := hv
  have hs := Sat.refl w
  have hln : l.length ≤ maxLen := Nat.le_trans ha.1 ha.2.1
  obtain ⟨n, hn⟩ : ∃ n, l.length = n := ⟨_, rfl⟩
  have HN := hid_ hn
  rw [hn] at hln ⊢
  clear hn
  unfold maxLen at hln
  go_enter Try.func6, Try.ntmps6
  go_wp2_with fail
  go_loopg [3, 11] 61 (fun gg v3 v11 wr => ∃ (i : Nat) (N : Int), i ≤ n ∧ i ≤ 60 ∧ 61 - i ≤ gg ∧ v11 = .int .i64 i ∧ v3 = .int .i64 N ∧ Sat w wr [])
  case atStart => exact ⟨0, 0, Nat.zero_le _, Nat.zero_le _, by omega, rfl, rfl, hs⟩
  case round =>
    obtain ⟨i, N, hi, hi2, hgg, rfl, rfl, h1⟩ := hrel
    clear hs
    by_cases hlt : i < n
    · obtain ⟨y, hy⟩ : ∃ y, l[i]? = some y := ⟨_, List.getElem?_eq_getElem (by rw [HN.out]; exact hlt)⟩
      obtain ⟨bq, oq, rfl, hf, hrx⟩ := RdL.at (RdFrames.mono ha h1.below) hy
      obtain ⟨x0, x1, x2, x3, x4, x5, x6, x7, x8⟩ := hf.nine
      have z1 : 0 ≤ (i : Int) ∧ (i : Int) < (n : Int) := by omega
      have h2 := h1.alloc (frO y.f y.ip y.d)
      clear hy hf
      obtain ⟨f, x, z, c', k⟩ := y
      unfold FrX.ip FrX.d at *
      dsimp only at *
      unfold frO at h2
      by_cases h60 : 60 ≤ i
      · have q60 : decide ((60 : Int) ≤ (i : Int)) = true := by simp; omega
        go_wp2_with fail
        refine (mx_awake h2).mono ?_
        rintro _ w2 ⟨rfl, h3⟩
        go_wp2_with fail
        go_ret
        exact ⟨rfl, h3.below⟩
      · have q60 : decide ((60 : Int) ≤ (i : Int)) = false := by simp; omega
        go_wp2_with fail
        · refine (mx_awake h2).mono ?_
          rintro _ w2 ⟨rfl, h3⟩
          go_wp2_with fail
          go_ret
          exact ⟨rfl, h3.below⟩
        · go_roundg (61 - (i + 1))
          case measure => omega
          case rel => exact ⟨i + 1, _, by omega, by omega, by omega, by go_num, rfl, h2.drop⟩
    · obtain rfl : i = n := by omega
      have HP := hid_ (mux_Pack HN.out hi2 ha h1)
      have HA := hid_ ha
      clear ha
      go_wp2_with fail
      refine HP.out.mono ?_
      rintro _ w2 ⟨a2, c2, rfl, h2⟩
      have HR := hid_ (ref_Pack HN.out hi2 HA.out h2)
      go_wp2_with fail
      refine HR.out.mono ?_
      rintro _ w3 ⟨a3, c3, rfl, h3⟩
      have hxl := packM_len (l.map FrX.f)
      rw [List.length_map, HN.out] at hxl
      clear HP HR HA HN h1 h2 hgg hlt
      obtain ⟨X, hX⟩ : ∃ X, packM (l.map FrX.f) = X := ⟨_, rfl⟩
      rw [hX] at hxl h3 ⊢
      clear hX
      obtain ⟨K, hK⟩ : ∃ K, X.length = K := ⟨_, rfl⟩
      rw [hK] at hxl h3 ⊢
      have HK := hid_ hK
      clear hK
      go_wp2_with fail
      go_loopg [50] K (fun gg v50 wr => ∃ j : Nat, j ≤ K ∧ K - j ≤ gg ∧ v50 = .int .i64 j ∧ Sat w wr [Bodies (.slice a3 K c3) X, Bodies (.slice a2 K c2) X])
      case atStart => exact ⟨0, Nat.zero_le _, by omega, rfl, h3⟩
      case round =>
        obtain ⟨j, hj, hgg, rfl, h4⟩ := hrel
        clear h3
        by_cases hlt : j < K
        · obtain ⟨x, hx⟩ : ∃ x, X[j]? = some x := ⟨_, List.getElem?_eq_getElem (by rw [HK.out]; exact hlt)⟩
          obtain ⟨b3, o3, v3, rfl, c3', r3⟩ := Bodies.at h4 hx
          obtain ⟨b2, o2, v2, rfl, c2', r2⟩ := Bodies.at h4.swap hx
          have z1 : 0 ≤ (j : Int) ∧ (j : Int) < (K : Int) := by omega
          have k3 : ∀ n, (convert 37 9 v3).run Try.prog (wr.drewN n) = .ok (.string (strOf x)) (wr.drewN n) := fun n =>
            conv_rd (P := Try.prog) (dst := 9) Try.underlying37 Try.underlying5 Try.underlying9 (r3.mono ⟨rfl, rfl, rfl, Nat.le_refl _, fun _ _ => rfl⟩)
          have k2 : ∀ n, (convert 37 9 v2).run Try.prog (wr.drewN n) = .ok (.string (strOf x)) (wr.drewN n) := fun n =>
            conv_rd (P := Try.prog) (dst := 9) Try.underlying37 Try.underlying5 Try.underlying9 (r2.mono ⟨rfl, rfl, rfl, Nat.le_refl _, fun _ _ => rfl⟩)
          clear r2 r3 hx
          go_wp2_with fail
          go_quiet (fail)
          go_wp2_with fail
          go_roundg (K - (j + 1))
          case measure => omega
          case rel => exact ⟨j + 1, by omega, by omega, by go_num, h4.drewN _⟩
        · obtain rfl : j = K := by omega
          go_wp2_with fail
          refine (mx_awake h4).mono ?_
          rintro _ w5 ⟨rfl, h5⟩
          go_wp2_with fail
          go_ret
          exact ⟨rfl, h5.below⟩
end Go.Proofs.Ytkejadhkebjdcaa
