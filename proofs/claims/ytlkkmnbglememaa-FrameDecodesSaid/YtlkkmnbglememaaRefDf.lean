/- The document's DecodeFrames, walked. -/
import Derived.Test.YtlkkmnbglememaaRefOf
namespace Go.Proofs.Ytlkkmnbglememaa
open Go Go.RowKit
set_option linter.unusedVariables false
set_option linter.unusedSimpArgs false

section
variable {w0 w : World} {L : List Assn}
set_option maxRecDepth 100000 in
set_option maxHeartbeats 2000000 in
theorem ref_DecodeFrames {v : Value} {b : List UInt8} (hb : b.length ≤ 1000000) (hs : Sat w0 w L) (hv : Vw w0 L v b) :
    Calls Try.prog 18 #[v] w (DecFOk w0 L (decF b)) := by
  obtain ⟨i0, hi, hz0, hz1, hz2⟩ := finfo9
  go_enter Try.func18, Try.ntmps18
  go_wp2_with fail
  go_loopg [0, 4] (b.length) (fun k v0 v4 wr => ∃ (done : List FrM) (rest : List UInt8), Hid (dresF done (decF rest) = decF b) ∧ Vw w0 L v0 rest ∧ rest.length ≤ k ∧ done.length + rest.length ≤ 1000000 ∧
      Sat w0 wr (FramesA v4 done :: L))
  case atStart => exact ⟨[], b, hid_ (dres_nil b), hv, Nat.le_refl _, by simpa using hb, OwnL.nilI hs⟩
  case round =>
    obtain ⟨done, rest, hd, hv', hk, hn, h1⟩ := hrel
    obtain ⟨a1, c1, rfl, -, -, -⟩ := (hv' wr [_] h1).form
    obtain ⟨af, cf, rfl, -, -⟩ := OwnL.form h1
    by_cases h0 : rest.length = 0
    · obtain rfl : rest = [] := List.eq_nil_of_length_eq_zero h0
      have HE := hid_ (show decF b = (0, done) by rw [← hd.out, decF_nil, dres_ok, List.append_nil])
      clear h0
      go_wp2_with fail
      go_ret2
      rw [HE.out]
      exact ⟨af, cf, rfl, h1⟩
    · have hpos : 0 < rest.length := by omega
      have q0 : decide ((0 : Int) < (rest.length : Int)) = true := decide_eq_true (by omega)
      have q0n : decide (0 < rest.length) = true := decide_eq_true hpos
      obtain ⟨b0, o0, c1', he, -, hcc, hcm, -⟩ := (hv' wr [_] h1).at hpos
      injection he with he1 he2 he3
      subst he1 he3
      clear he2
      have Hr := hid_ (ref_oneFrame hpos h1 (hv'.more [_]))
      have hok := oneD_ok (b := rest) hpos
      have hst := decF_step (b := rest) hpos
      have her := decF_err (b := rest) hpos
      obtain ⟨⟨er, f, n⟩, hx⟩ : ∃ x, oneD rest = x := ⟨_, rfl⟩
      rw [hx] at Hr hok hst her
      clear hx
      have HC := hid_ (And.intro hcc hcm)
      have HN := hid_ hn
      clear h0 hcc hcm hn
      by_cases h3 : er = 0
      · subst h3
        obtain ⟨g1, g2, g3⟩ := hok rfl
        dsimp only at g1 g2 g3
        have hd2 := hid_ (show dresF (done ++ [f]) (decF (rest.drop n)) = decF b by rw [← hd.out, hst rfl, dres_dres])
        have G := hid_ (And.intro g1 g2)
        have hlen := hid_ (show (rest.drop n).length = rest.length - n from List.length_drop)
        clear hok hst her g3
        go_wp2_with fail
        refine Hr.out.mono ?_
        rintro _ w2 ⟨a, c, z, k, rfl, h2⟩
        dsimp only at h2
        unfold frV
        clear Hr h1
        have hT : ∀ o o2, Sat w0 ((w2.alloc o).alloc o2) (FramesA (.slice af done.length cf) done :: FrE f (frC f (.slice a f.addr.ip.length c) (.slice z f.data.length k)) :: L) :=
          fun o o2 => Sat.swap (FrE.shut ((h2.alloc_ o).alloc_ o2))
        go_wp2_with (at_builtin; go_must (refine wpList_append_one (w0 := w0) (e := 26) (sz := 9) (El := FrE) rfl _ _ 28 28 rfl Try.underlying28 hi hz0 hz1 hz2 rfl f rfl (hT _ _) rfl (src_blk (t := 26) (cs := frC f (.slice a f.addr.ip.length c) (.slice z f.data.length k)) Try.underlying28 ?c2 rfl ?c3) ?c4 ?c5 ?c6))
        case c2 => exact alloc_at (by simp)
        case c3 => exact frC_one _ rfl rfl
        case c4 => have := HN.out; simp only [maxLen]; omega
        case c5 => have := HN.out; omega
        intro a' c' w3 h6
        clear hT h2
        have z1 : 0 ≤ (n : Int) ∧ (n : Int) ≤ (rest.length : Int) ∧ (rest.length : Int) ≤ (c1 : Int) := by have := HC.out; omega
        by_cases hcap : n = c1
        · subst hcap
          obtain h8 : rest.length - n = 0 := by have := HC.out; omega
          have hvd : Vw w0 L (.slice (some ⟨b0, o0, none⟩) 0 0) (rest.drop n) := by
            rw [List.eq_nil_of_length_eq_zero (l := rest.drop n) (by rw [List.length_drop]; omega)]
            exact fun W L' h => RdB.emp (Nat.zero_le _)
          go_wp2_with fail
          go_roundg (rest.drop n).length
          case measure => have := G.out; have := hlen.out; omega
          case rel =>
            exact ⟨done ++ [f], rest.drop n, hd2, hvd, Nat.le_refl _, by have := G.out; have := HN.out; rw [hlen.out, List.length_append]; simp only [List.length_cons, List.length_nil]; omega, h6⟩
        · have hcap2 : (n : Int) < (c1 : Int) := by have := HC.out; omega
          have hvd := hv'.drop (n := n) G.out.2 rfl
          clear hcap
          go_wp2_with fail
          go_roundg (rest.drop n).length
          case measure => have := G.out; have := hlen.out; omega
          case rel =>
            exact ⟨done ++ [f], rest.drop n, hd2, hvd, Nat.le_refl _, by have := G.out; have := HN.out; rw [hlen.out, List.length_append]; simp only [List.length_cons, List.length_nil]; omega, h6⟩
      · have HE := hid_ (show decF b = (er, []) by rw [← hd.out, her h3, dres_err _ h3])
        have qe : (er != 0) = true := by simp [h3]
        clear hok hst her h3
        go_wp2_with fail
        refine Hr.out.mono ?_
        rintro _ w2 ⟨a, c, z, k, rfl, h2⟩
        dsimp only at h2
        unfold frV
        clear Hr h1
        go_wp2_with fail
        go_ret2
        rw [HE.out]
        exact ⟨none, 0, rfl, OwnL.nilI (h2.alloc_ _).drop.drop.drop⟩
end
end Go.Proofs.Ytlkkmnbglememaa
