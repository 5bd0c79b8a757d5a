/- Who answers SOCKS: Feed; walked. -/
import Derived.Deep.DeepMust
import Derived.Test.YthfdejgckcoohaaSoA
namespace Go.Proofs.Ythfdejgckcoohaa
open Go Go.RowKit
set_option linter.unusedVariables false
set_option linter.unusedSimpArgs false

theorem SoM.close_back (s : SoM) (k : List UInt8) (h : k.length ≤ 10) : (s.close k).back.length ≤ s.back.length + 10 := by
  show (s.back ++ k).length ≤ _
  rw [List.length_append]
  omega
theorem SoM.goes_back (s : SoM) (st : Int) (n : Nat) (k : List UInt8) (h : k.length ≤ 10) : (s.goes st n k).back.length ≤ s.back.length + 10 := by
  show (s.back ++ k).length ≤ _
  rw [List.length_append]
  omega
theorem SoM.greet_back (s : SoM) : s.greet.2.back.length ≤ s.back.length + 10 := by
  unfold SoM.greet
  split
  · exact s.close_back _ (by simp)
  · split
    · split
      · exact s.goes_back _ _ _ (by simp)
      · exact s.close_back _ (by simp)
    · show s.back.length ≤ _
      omega
theorem SoM.name_back (s : SoM) : s.name.2.back.length ≤ s.back.length + 10 := by
  unfold SoM.name
  split
  · show s.back.length ≤ _
    omega
  · split
    · exact s.close_back _ (by simp)
    · split
      · show s.back.length ≤ _
        omega
      · split
        · show s.back.length ≤ _
          omega
        · split
          · exact s.close_back _ (by simp)
          · exact s.goes_back _ _ _ (by simp)
theorem SoM.ask_back (s : SoM) : s.ask.2.back.length ≤ s.back.length + 10 := by
  have hr : ∀ c, (replyB c).length ≤ 10 := fun c => Nat.le_refl _
  unfold SoM.ask
  split
  · exact s.close_back _ (by simp)
  · split
    · show s.back.length ≤ _
      omega
    · split
      · exact s.close_back _ (hr _)
      · split
        · exact s.close_back _ (hr _)
        · split
          · show s.back.length ≤ _
            omega
          · split
            · split
              · exact s.close_back _ (hr _)
              · exact s.close_back _ (hr _)
            · exact SoM.goes_back { s with dest := _ } _ _ _ (by simp)

theorem SoM.step_cases {t : SoM} {n : Nat} (h : SoStep t []) (h3 : t.state ≤ 3) (hn : 3 - t.state < n) :
    (t.step.1 = true ∧ t.state < t.step.2.state ∧ t.step.2.state ≤ 3 ∧ t.step.2.wait.length ≤ t.wait.length ∧ SoM.run n t = SoM.run (n - 1) t.step.2) ∨ (t.step.1 = false ∧ SoM.run n t = t.step.2) := by
  obtain ⟨m, rfl⟩ : ∃ m, n = m + 1 := ⟨n - 1, by omega⟩
  have e : SoM.run (m + 1) t = if t.step.1 then SoM.run m t.step.2 else t.step.2 := rfl
  cases h with
  | on s' h1 h2 h3 h4 h5 => rw [e, h1]; exact .inl ⟨rfl, h3, h4, h5, rfl⟩
  | shut s' h1 h2 h3 => rw [e, h1]; exact .inr ⟨rfl, rfl⟩
  | more h1 => rw [e, h1]; exact .inr ⟨rfl, rfl⟩
section
variable {w0 w w' : World} {L M : List Assn} {A : Assn} {g : Nat} {s : SoM}
/-- It, with what it said last in a value that is named. -/
def SoB (w0 w : World) (L : List Assn) (g : Nat) (s : SoM) (bv : Value) : Prop :=
  ∃ wa wc ta tc, (∃ ba bc, bv = .slice ba s.back.length bc) ∧ Sat w0 w (Blk g (soO s (.slice wa s.wait.length wc) (.slice ta s.dest.ip.length tc) bv) :: OwnB 5 (.slice wa s.wait.length wc) s.wait :: OwnB 5 (.slice ta s.dest.ip.length tc) s.dest.ip :: OwnB 5 bv s.back :: L)
theorem SoB.of (h : SoS w0 w L g s) : ∃ bv, SoB w0 w L g s bv := by
  obtain ⟨wa, wc, ta, tc, ba, bc, h⟩ := h
  exact ⟨_, wa, wc, ta, tc, ⟨ba, bc, rfl⟩, h⟩
theorem SoB.to {bv : Value} (h : SoB w0 w L g s bv) : SoS w0 w L g s := by
  obtain ⟨wa, wc, ta, tc, ⟨ba, bc, rfl⟩, h⟩ := h
  exact ⟨wa, wc, ta, tc, ba, bc, h⟩

set_option maxRecDepth 100000 in
set_option maxHeartbeats 4000000 in
theorem so_feed_on {v bv : Value} {k : List UInt8} (h0 : 0 ≤ s.state) (h3 : s.state ≤ 3) (hw : s.wait.length + k.length ≤ 1000000) (hs : SoB w0 w L g s bv) (hv : Vw w0 L v k) :
    Calls Try.prog 12 #[.pointer (some ⟨g, 0, none⟩), v] w fun e w' => ∃ bv', e = .returned (.tuple #[bv', .slice none 0 0]) ∧ SoB w0 w' (OwnB 5 bv s.back :: L) g (s.feed k) bv' := by
  obtain ⟨wa, wc, ta, tc, hbv, h1⟩ := hs
  unfold soO at h1
  have c2 : w.cell? ⟨g, 2, none⟩ = some (.int .i64 s.state) := h1.cell 2 rfl
  have c3 : w.cell? ⟨g, 3, none⟩ = some (.slice wa s.wait.length wc) := h1.cell 3 rfl
  have hrd := hv w [_, _, _, _] h1
  have n5 : ((s.state : Int) == 5) = false := by rw [beq_eq_false_iff_ne]; omega
  have n4 : ((s.state : Int) == 4) = false := by rw [beq_eq_false_iff_ne]; omega
  go_enter Try.func12, Try.ntmps12
  go_wp2_with fail
  go_step3
  go_wp2_with (at_builtin; refine wpList_append_b (w0 := w0) rfl _ _ 22 rfl rfl (Sat.front [_] h1) rfl (slSrc hrd) (s.wait ++ k) (s.wait.length + k.length) rfl (by simp) (by omega) ?_)
  intro a2 c2' w2 h2
  replace h2 := h2.swap
  have f3 : w2.frozen? ⟨g, 3, none⟩ = false := h2.frozen 3
  have f8 : w2.frozen? ⟨g, 8, none⟩ = false := h2.frozen 8
  have x3 : w2.cell? ⟨g, 3, none⟩ = some (.slice wa s.wait.length wc) := h2.cell 3 rfl
  have x8 : w2.cell? ⟨g, 8, none⟩ = some bv := h2.cell 8 rfl
  have h5 := (h2.set 3 (.slice a2 (s.wait.length + k.length) c2')).set 8 (.slice none 0 0)
  simp only [List.setIfInBounds_toArray, List.set_cons_zero, List.set_cons_succ] at h5
  have h6 : SoS w0 ((w2.setCell ⟨g, 3, none⟩ (.slice a2 (s.wait.length + k.length) c2')).setCell ⟨g, 8, none⟩ (.slice none 0 0)) (OwnB 5 bv s.back :: L) g { s with wait := s.wait ++ k, back := [] } := by
    refine ⟨a2, c2', ta, tc, none, 0, ?_⟩
    have h7 := Sat.re [1, 2, 3, 0, 4] [_, _, _, _, _] (OwnB.nilI (t := 5) h5)
    show Sat w0 _ (Blk g (soO { s with wait := s.wait ++ k, back := [] } (.slice a2 (s.wait ++ k).length c2') (.slice ta s.dest.ip.length tc) (.slice none 0 0)) :: OwnB 5 (.slice a2 (s.wait ++ k).length c2') (s.wait ++ k) :: OwnB 5 (.slice ta s.dest.ip.length tc) s.dest.ip :: OwnB 5 (.slice none 0 0) [] :: OwnB 5 bv s.back :: L)
    rw [List.length_append]
    exact h7
  obtain ⟨t1, ht1⟩ : ∃ t : SoM, { s with wait := s.wait ++ k, back := [] } = t := ⟨_, rfl⟩
  have HT := hid_ (show s.feed k = SoM.run 4 t1 by rw [← ht1]; rfl)
  have hb1 : t1.back.length + 40 ≤ 40 := by rw [← ht1]; exact Nat.le_refl _
  have hs1 : t1.state = s.state := by rw [← ht1]
  have hw1 : t1.wait.length ≤ 1000000 := by rw [← ht1]; show (s.wait ++ k).length ≤ _; rw [List.length_append]; omega
  rw [ht1] at h6
  clear ht1 h2 h5 c2 c3 n4 n5 hrd
  go_wp2_with fail
  clear x3 x8 f3 f8
  go_step3
  go_wp2_with fail
  generalize (w2.setCell ⟨g, 3, none⟩ (.slice a2 (s.wait.length + k.length) c2')).setCell ⟨g, 8, none⟩ (.slice none 0 0) = W3 at *
  go_loopg [6] 4 (fun gg v6 wr => ∃ (n : Nat) (t : SoM), n ≤ gg ∧ 0 ≤ t.state ∧ t.state ≤ 3 ∧ 3 - t.state < n ∧ t.back.length + 10 * n ≤ 40 ∧ t.wait.length ≤ 1000000 ∧ Hid (s.feed k = SoM.run n t) ∧ SoS w0 wr (OwnB 5 bv s.back :: L) g t)
  case atStart => exact ⟨4, t1, Nat.le_refl _, by omega, by omega, by omega, by omega, hw1, HT, h6⟩
  case round =>
    obtain ⟨n, t, hn, ht0, ht3, hfu, hbk, hwt, hF, h7⟩ := hrel
    have h8 := h7
    obtain ⟨wa1, wc1, ta1, tc1, ba1, bc1, h8⟩ := h8
    unfold soO at h8
    have c2 : wr.cell? ⟨g, 2, none⟩ = some (.int .i64 t.state) := h8.cell 2 rfl
    have c3 : wr.cell? ⟨g, 3, none⟩ = some (.slice wa1 t.wait.length wc1) := h8.cell 3 rfl
    have c8 : wr.cell? ⟨g, 8, none⟩ = some (.slice ba1 t.back.length bc1) := h8.cell 8 rfl
    clear h8
    rcases (show t.state = 0 ∨ t.state = 1 ∨ t.state = 2 ∨ t.state = 3 by omega) with hst | hst | hst | hst
    · have e1 : t.step = t.greet := by unfold SoM.step; rw [if_pos hst]
      have hc := SoM.step_cases (SoM.greet_step [] hst) ht3 hfu
      have hk := t.greet_back
      rw [e1] at hc
      obtain ⟨p, hp⟩ : ∃ p, t.greet = p := ⟨_, rfl⟩
      have H := so_greet (by omega) h7
      rw [hp] at hc hk H
      clear hp e1
      have HS := hid_ hst
      rw [hst] at c2
      clear hst
      go_wp2_with fail
      refine H.mono ?_
      rintro _ w5 ⟨rfl, h9⟩
      rcases hc with ⟨p1, p2, p3, p4, p5⟩ | ⟨p1, p5⟩
      · rw [p1]
        have HP := hid_ (hF.out.trans p5)
        have hs0 := HS.out
        clear p1 p5 hF c2 H
        go_wp2_with fail
        go_roundg (gk - 1)
        case rel => exact ⟨n - 1, p.2, by omega, by omega, p3, by omega, by omega, by omega, HP, h9⟩
        case measure => omega
      · rw [p1]
        have HP := hid_ (hF.out.trans p5)
        obtain ⟨wa1, wc1, ta1, tc1, ba1, bc1, h10⟩ := h9
        clear c8
        have c8 : w5.cell? ⟨g, 8, none⟩ = some (.slice ba1 p.2.back.length bc1) := h10.cell 8 rfl
        clear p1 p5 hF c2 H
        go_wp2_with fail
        (try rw [Exit.noGoto_ret])
        go_ret2
        rw [HP.out]
        exact ⟨_, rfl, wa1, wc1, ta1, tc1, ⟨ba1, bc1, rfl⟩, h10⟩
    · have e1 : t.step = t.name := by unfold SoM.step; rw [if_neg (by omega), if_pos hst]
      have hc := SoM.step_cases (SoM.name_step [] hst) ht3 hfu
      have hk := t.name_back
      rw [e1] at hc
      obtain ⟨p, hp⟩ : ∃ p, t.name = p := ⟨_, rfl⟩
      have H := so_name (by omega) hwt h7
      rw [hp] at hc hk H
      clear hp e1
      have HS := hid_ hst
      rw [hst] at c2
      clear hst
      go_wp2_with fail
      refine H.mono ?_
      rintro _ w5 ⟨rfl, h9⟩
      rcases hc with ⟨p1, p2, p3, p4, p5⟩ | ⟨p1, p5⟩
      · rw [p1]
        have HP := hid_ (hF.out.trans p5)
        have hs0 := HS.out
        clear p1 p5 hF c2 H
        go_wp2_with fail
        go_roundg (gk - 1)
        case rel => exact ⟨n - 1, p.2, by omega, by omega, p3, by omega, by omega, by omega, HP, h9⟩
        case measure => omega
      · rw [p1]
        have HP := hid_ (hF.out.trans p5)
        obtain ⟨wa1, wc1, ta1, tc1, ba1, bc1, h10⟩ := h9
        clear c8
        have c8 : w5.cell? ⟨g, 8, none⟩ = some (.slice ba1 p.2.back.length bc1) := h10.cell 8 rfl
        clear p1 p5 hF c2 H
        go_wp2_with fail
        (try rw [Exit.noGoto_ret])
        go_ret2
        rw [HP.out]
        exact ⟨_, rfl, wa1, wc1, ta1, tc1, ⟨ba1, bc1, rfl⟩, h10⟩
    · have e1 : t.step = t.ask := by unfold SoM.step; rw [if_neg (by omega), if_neg (by omega), if_pos hst]
      have hc := SoM.step_cases (SoM.ask_step [] hst) ht3 hfu
      have hk := t.ask_back
      rw [e1] at hc
      obtain ⟨p, hp⟩ : ∃ p, t.ask = p := ⟨_, rfl⟩
      have H := so_ask (by omega) hwt h7
      rw [hp] at hc hk H
      clear hp e1
      have HS := hid_ hst
      rw [hst] at c2
      clear hst
      go_wp2_with fail
      refine H.mono ?_
      rintro _ w5 ⟨rfl, h9⟩
      rcases hc with ⟨p1, p2, p3, p4, p5⟩ | ⟨p1, p5⟩
      · rw [p1]
        have HP := hid_ (hF.out.trans p5)
        have hs0 := HS.out
        clear p1 p5 hF c2 H
        go_wp2_with fail
        go_roundg (gk - 1)
        case rel => exact ⟨n - 1, p.2, by omega, by omega, p3, by omega, by omega, by omega, HP, h9⟩
        case measure => omega
      · rw [p1]
        have HP := hid_ (hF.out.trans p5)
        obtain ⟨wa1, wc1, ta1, tc1, ba1, bc1, h10⟩ := h9
        clear c8
        have c8 : w5.cell? ⟨g, 8, none⟩ = some (.slice ba1 p.2.back.length bc1) := h10.cell 8 rfl
        clear p1 p5 hF c2 H
        go_wp2_with fail
        (try rw [Exit.noGoto_ret])
        go_ret2
        rw [HP.out]
        exact ⟨_, rfl, wa1, wc1, ta1, tc1, ⟨ba1, bc1, rfl⟩, h10⟩
    · have e1 : t.step = if 4096 < t.wait.length then (false, t.close []) else (false, t) := by unfold SoM.step; rw [if_neg (by omega), if_neg (by omega), if_neg (by omega), if_pos hst]
      obtain ⟨m, rfl⟩ : ∃ m, n = m + 1 := ⟨n - 1, by omega⟩
      have e2 : SoM.run (m + 1) t = if t.step.1 then SoM.run m t.step.2 else t.step.2 := rfl
      rw [e1] at e2
      have HS := hid_ hst
      rw [hst] at c2
      clear hst e1
      by_cases hl : 4096 < t.wait.length
      · rw [if_pos hl] at e2
        have HP := hid_ (hF.out.trans e2)
        have z1 : (4096 : Int) < (t.wait.length : Int) := by omega
        have H := so_close (k := []) (v := .slice none 0 0) (by show t.back.length + 0 ≤ 100000; omega) h7 Vw.nil
        clear e2 hl c8 hF
        go_wp2_with fail
        refine H.mono ?_
        rintro _ w5 ⟨rfl, h9⟩
        obtain ⟨wa1, wc1, ta1, tc1, ba1, bc1, h10⟩ := h9
        have c8 : w5.cell? ⟨g, 8, none⟩ = some (.slice ba1 (t.close []).back.length bc1) := h10.cell 8 rfl
        clear c2 c3 H
        go_wp2_with fail
        (try rw [Exit.noGoto_ret])
        go_ret2
        rw [HP.out]
        exact ⟨_, rfl, wa1, wc1, ta1, tc1, ⟨ba1, bc1, rfl⟩, h10⟩
      · rw [if_neg hl] at e2
        have HP := hid_ (hF.out.trans e2)
        have z1 : ¬ (4096 : Int) < (t.wait.length : Int) := by omega
        obtain ⟨wa2, wc2, ta2, tc2, ba2, bc2, h10⟩ := h7
        clear c8
        have c8 : wr.cell? ⟨g, 8, none⟩ = some (.slice ba2 t.back.length bc2) := h10.cell 8 rfl
        clear e2 hl hF
        go_wp2_with fail
        (try rw [Exit.noGoto_ret])
        go_ret2
        rw [HP.out]
        exact ⟨_, rfl, wa2, wc2, ta2, tc2, ⟨ba2, bc2, rfl⟩, h10⟩
end
end Go.Proofs.Ythfdejgckcoohaa
