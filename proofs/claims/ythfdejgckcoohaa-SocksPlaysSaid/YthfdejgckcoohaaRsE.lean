/- The document's Socks: Feed, Reply; walked. -/
import Derived.Deep.DeepMust
import Derived.Test.YthfdejgckcoohaaRsD
namespace Go.Proofs.Ythfdejgckcoohaa
open Go Go.RowKit
set_option linter.unusedVariables false
set_option linter.unusedSimpArgs false

theorem SoM.pre_pre (p q : List UInt8) (s : SoM) : (s.pre q).pre p = s.pre (p ++ q) := by unfold SoM.pre; simp
theorem SoM.nb_pre (s : SoM) : s.nb.pre s.back = s := by unfold SoM.nb SoM.pre; simp
theorem SoM.run_nb (n : Nat) (s : SoM) : SoM.run n s = (SoM.run n s.nb).pre s.back := by rw [← SoM.run_pre, SoM.nb_pre]
/-- What is left to be done. -/
def SoM.left (n : Nat) (t : SoM) : SoM := if t.state = 5 then t else SoM.run n t
theorem left_on {n : Nat} {t p : SoM} {acc : List UInt8} {F : SoM} (hF : F = (SoM.left n t).pre acc) (ht : t.state ≠ 5) (hp : p.state ≠ 5) (he : SoM.run n t = SoM.run (n - 1) p) : F = (SoM.left (n - 1) p.nb).pre (acc ++ p.back) := by
  have h1 : SoM.left n t = SoM.run n t := if_neg ht
  have h2 : SoM.left (n - 1) p.nb = SoM.run (n - 1) p.nb := if_neg hp
  rw [hF, h1, h2, he, SoM.run_nb (n - 1) p, SoM.pre_pre]
theorem left_shut {n m : Nat} {t p : SoM} {acc : List UInt8} {F : SoM} (hF : F = (SoM.left n t).pre acc) (ht : t.state ≠ 5) (hp : p.state = 5) (he : SoM.run n t = p) : F = (SoM.left m p.nb).pre (acc ++ p.back) := by
  have h1 : SoM.left n t = SoM.run n t := if_neg ht
  have h2 : SoM.left m p.nb = p.nb := if_pos hp
  rw [hF, h1, h2, he, ← SoM.pre_pre, SoM.nb_pre]
/-- The ways of a step. -/
theorem step_three {t : SoM} {n : Nat} (h : SoStep t []) (h3 : t.state ≤ 3) (hn : 3 - t.state < n) :
    (t.state < t.step.2.state ∧ t.step.2.state ≤ 3 ∧ t.step.2.wait.length ≤ t.wait.length ∧ SoM.run n t = SoM.run (n - 1) t.step.2) ∨ (t.step.2.state = 5 ∧ SoM.run n t = t.step.2) ∨ (t.step.2 = t ∧ SoM.run n t = t) := by
  obtain ⟨m, rfl⟩ : ∃ m, n = m + 1 := ⟨n - 1, by omega⟩
  have e : SoM.run (m + 1) t = if t.step.1 then SoM.run m t.step.2 else t.step.2 := rfl
  cases h with
  | on s' h1 h2 h3 h4 h5 => rw [e, h1]; exact .inl ⟨h3, h4, h5, rfl⟩
  | shut s' h1 h2 h3 => rw [e, h1]; exact .inr (.inl ⟨h3, rfl⟩)
  | more h1 => rw [e, h1]; exact .inr (.inr ⟨rfl, rfl⟩)
theorem SoM.close_wait (s : SoM) (k : List UInt8) : (s.close k).wait.length ≤ s.wait.length := Nat.zero_le _
theorem SoM.greet_wait (s : SoM) : s.greet.2.wait.length ≤ s.wait.length := by
  unfold SoM.greet
  split
  · exact s.close_wait _
  · split
    · split
      · exact s.goes_len _ _ _
      · exact s.close_wait _
    · exact Nat.le_refl _
theorem SoM.name_wait (s : SoM) : s.name.2.wait.length ≤ s.wait.length := by
  unfold SoM.name
  split
  · exact Nat.le_refl _
  · split
    · exact s.close_wait _
    · split
      · exact Nat.le_refl _
      · split
        · exact Nat.le_refl _
        · split
          · exact s.close_wait _
          · exact s.goes_len _ _ _
theorem SoM.ask_wait (s : SoM) : s.ask.2.wait.length ≤ s.wait.length := by
  unfold SoM.ask
  split
  · exact s.close_wait _
  · split
    · exact Nat.le_refl _
    · split
      · exact s.close_wait _
      · split
        · exact s.close_wait _
        · split
          · exact Nat.le_refl _
          · split
            · split
              · exact s.close_wait _
              · exact s.close_wait _
            · exact SoM.goes_len { s with dest := _ } _ _ _
section
variable {w0 w w' : World} {L M : List Assn} {A : Assn} {g : Nat} {s : SoM}
theorem RsS.nb (h : RsS w0 w L g s) : RsS w0 w L g s.nb := h
set_option maxRecDepth 100000 in
set_option maxHeartbeats 8000000 in
theorem rs_feed_on {v : Value} {k : List UInt8} (h0 : 0 ≤ s.state) (h3 : s.state ≤ 3) (hw : s.wait.length + k.length ≤ 1000000) (hs : RsS w0 w L g s) (hv : Vw w0 L v k) :
    Calls Try.prog 17 #[.pointer (some ⟨g, 0, none⟩), v] w fun e w' => ∃ a c, e = .returned (.tuple #[.slice a (s.feed k).back.length c, .slice none 0 0]) ∧ RsS w0 w' (OwnB 5 (.slice a (s.feed k).back.length c) (s.feed k).back :: L) g (s.feed k) := by
  obtain ⟨wa, wc, ta, tc, h1⟩ := hs
  unfold rsO at h1
  have c2 : w.cell? ⟨g, 2, none⟩ = some (.int .i64 s.state) := h1.cell 2 rfl
  have c3 : w.cell? ⟨g, 3, none⟩ = some (.slice wa s.wait.length wc) := h1.cell 3 rfl
  have n5 : ((s.state : Int) == 5) = false := by rw [beq_eq_false_iff_ne]; omega
  have n4 : ((s.state : Int) == 4) = false := by rw [beq_eq_false_iff_ne]; omega
  obtain ⟨av, cv, rfl, -, -, -⟩ := (hv w [_, _, _] h1).form
  have h2 := h1.alloc (.cells #[.slice wa s.wait.length wc, .slice av k.length cv] 22 (0, 0))
  have hJ := rs_Join (l1 := s.wait) (l2 := k) hw h2 (Vw.own [_]) (hv.more [_, _, _])
  clear h2
  go_enter Try.func17, Try.ntmps17
  go_wp2_with fail
  refine hJ.mono ?_
  rintro _ w2 ⟨a2, d2, rfl, h4⟩
  have h5 := Sat.front [_] h4
  have x3 : w2.cell? ⟨g, 3, none⟩ = some (.slice wa s.wait.length wc) := h5.cell 3 rfl
  have f3 := h5.frozen 3
  have h6 := h5.set 3 (.slice a2 (s.wait.length + k.length) d2)
  simp only [List.setIfInBounds_toArray, List.set_cons_zero, List.set_cons_succ] at h6
  have h7 : RsS w0 (w2.setCell ⟨g, 3, none⟩ (.slice a2 (s.wait.length + k.length) d2)) L g { s with wait := s.wait ++ k, back := [] } := by
    refine ⟨a2, d2, ta, tc, ?_⟩
    show Sat w0 _ (Blk g (rsO { s with wait := s.wait ++ k, back := [] } (.slice a2 (s.wait ++ k).length d2) (.slice ta s.dest.ip.length tc)) :: OwnB 5 (.slice a2 (s.wait ++ k).length d2) (s.wait ++ k) :: OwnB 5 (.slice ta s.dest.ip.length tc) s.dest.ip :: L)
    rw [List.length_append]
    exact Sat.drop (Sat.re [2, 0, 1, 3] [_, _, _, _] h6)
  obtain ⟨t1, ht1⟩ : ∃ t : SoM, { s with wait := s.wait ++ k, back := [] } = t := ⟨_, rfl⟩
  have hb1 : t1.back = [] := by rw [← ht1]
  have hs1 : t1.state = s.state := by rw [← ht1]
  have hw1 : t1.wait.length ≤ 1000000 := by rw [← ht1]; show (s.wait ++ k).length ≤ _; rw [List.length_append]; omega
  have HT := hid_ (show s.feed k = (SoM.left 4 t1).pre [] by
    have h1 : SoM.left 4 t1 = SoM.run 4 t1 := if_neg (by omega)
    rw [h1, ← ht1]
    rfl)
  rw [ht1] at h7
  have HB1 := hid_ hb1
  clear ht1 h1 h4 h5 h6 c2 c3 n4 n5 hJ hb1
  go_wp2_with fail
  clear x3 f3
  generalize w2.setCell ⟨g, 3, none⟩ (.slice a2 (s.wait.length + k.length) d2) = W3 at *
  go_loopg [6] 5 (fun gg v6 wr => ∃ (n : Nat) (t : SoM) (acc : List UInt8), n + 1 ≤ gg ∧ n ≤ 4 ∧ Hid (t.back = []) ∧ (0 ≤ t.state ∧ t.state ≤ 3 ∧ 3 - t.state < n ∨ t.state = 5) ∧ Hid (s.feed k = (SoM.left n t).pre acc) ∧ t.wait.length ≤ 1000000 ∧ acc.length + 10 * n ≤ 40 ∧ RsS w0 wr (OwnB 5 v6 acc :: L) g t)
  case atStart => exact ⟨4, t1, [], by omega, by omega, HB1, .inl ⟨by omega, by omega, by omega⟩, HT, hw1, by simp, h7.nilI⟩
  case round =>
    obtain ⟨n, t, acc, hgg, hn4, hbk, hstt, hF, hwt, hacc, h8⟩ := hrel
    have h9 := h8
    obtain ⟨wa1, wc1, ta1, tc1, h9⟩ := h9
    unfold rsO at h9
    have c2 : wr.cell? ⟨g, 2, none⟩ = some (.int .i64 t.state) := h9.cell 2 rfl
    have c3 : wr.cell? ⟨g, 3, none⟩ = some (.slice wa1 t.wait.length wc1) := h9.cell 3 rfl
    obtain ⟨a6, d6, rfl, -⟩ := OwnB.slice (Sat.front [_, _, _] h9)
    clear h9 HT h7
    rcases (show t.state = 0 ∨ t.state = 1 ∨ t.state = 2 ∨ t.state = 3 ∨ t.state = 5 by omega) with hst | hst | hst | hst | hst
    · have e1 : t.step = t.greet := by unfold SoM.step; rw [if_pos hst]
      have hc := step_three (SoM.greet_step [] hst) (by omega) (show 3 - t.state < (n : Int) by omega)
      have hxb := t.greet_back
      have hwl := t.greet_wait
      have H := rs_greet hbk.out hwt h8
      rw [e1] at hc
      rw [hbk.out] at hxb
      obtain ⟨p, hp⟩ : ∃ p, t.greet.2 = p := ⟨_, rfl⟩
      rw [hp] at hc hxb H hwl
      have hx10 : p.back.length ≤ 10 := by simpa using hxb
      have hn1 : 4 ≤ n := by omega
      clear hp e1 hxb
      have HS := hid_ hst
      have c2' := c2
      rw [hst] at c2'
      clear hst c2 c3 hstt
      have z3 : (0 : Int) < 3 := by decide
      go_wp2_with fail
      refine H.mono ?_
      rintro _ w5 ⟨v8, rfl, h10⟩
      have hsrc := h10.rdb
      obtain ⟨a8, d8, hv8, -⟩ := hsrc.form
      subst hv8
      obtain ⟨G, hG, hK⟩ := RsS.app h10.swap2
      clear c2' H h8
      go_wp2_with (at_builtin; refine wpList_append_b (w0 := w0) rfl _ _ 22 rfl rfl hG rfl (slSrc hsrc) (acc ++ p.back) (acc.length + p.back.length) rfl (by simp) (by omega) ?_)
      intro a9 d9 w6 h11
      have h12 := (hK _ _ _ h11).swap2.drop
      clear hG hK h10 h11 hsrc
      have h13 := h12
      obtain ⟨wa2, wc2, ta2, tc2, h13⟩ := h13
      unfold rsO at h13
      have c2 : w6.cell? ⟨g, 2, none⟩ = some (.int .i64 p.state) := h13.cell 2 rfl
      have c3 : w6.cell? ⟨g, 3, none⟩ = some (.slice wa2 p.wait.length wc2) := h13.cell 3 rfl
      clear h13
      rcases hc with ⟨p2, p3, p4, p5⟩ | ⟨p2, p5⟩ | ⟨p2, p5⟩
      · have hne : (p.state == 0) = false := by rw [beq_eq_false_iff_ne]; have := HS.out; omega
        have HP := hid_ (left_on hF.out (by rw [HS.out]; decide) (by omega) p5)
        have hs0 := HS.out
        clear p5 hF
        go_wp2_with fail
        go_roundg (gk - 1)
        case rel => exact ⟨n - 1, p.nb, acc ++ p.back, by omega, by omega, hid_ rfl, .inl ⟨by show 0 ≤ p.state; omega, p3, by show 3 - p.state < _; omega⟩, HP, by show p.wait.length ≤ _; omega, by rw [List.length_append]; omega, h12⟩
        case measure => omega
      · have hne : (p.state == 0) = false := by rw [p2]; rfl
        have HP := hid_ (left_shut (m := n - 1) hF.out (by rw [HS.out]; decide) p2 p5)
        have hpw : p.wait.length ≤ 1000000 := by omega
        have HP2 := hid_ p2
        have hs0 := HS.out
        clear p5 hF p2
        go_wp2_with fail
        go_roundg (gk - 1)
        case rel => exact ⟨n - 1, p.nb, acc ++ p.back, by omega, by omega, hid_ rfl, .inr HP2.out, HP, hpw, by rw [List.length_append]; omega, h12⟩
        case measure => omega
      · have hps : p.state = 0 := by rw [p2]; exact HS.out
        have hF2 : s.feed k = t.pre acc := by
          have h1 : SoM.left n t = SoM.run n t := if_neg (by rw [HS.out]; decide)
          rw [hF.out, h1, p5]
        have HF2 := hid_ hF2
        have hx0 : p.back = [] := by rw [p2]; exact hbk.out
        have HP2 := hid_ p2
        have HX0 := hid_ hx0
        rw [hps] at c2
        clear p2 p5 hF hF2 hps hx0
        go_wp2_with fail
        (try rw [Exit.noGoto_ret])
        go_ret2
        rw [HF2.out]
        have hbb : (t.pre acc).back = acc := by show acc ++ t.back = acc; rw [hbk.out, List.append_nil]
        rw [HP2.out, hbk.out, List.append_nil] at h12
        rw [hbb]
        exact ⟨a9, d9, by rw [HX0.out]; rfl, h12⟩
    · have e1 : t.step = t.name := by unfold SoM.step; rw [if_neg (by omega), if_pos hst]
      have hc := step_three (SoM.name_step [] hst) (by omega) (show 3 - t.state < (n : Int) by omega)
      have hxb := t.name_back
      have hwl := t.name_wait
      have H := rs_name hbk.out hwt h8
      rw [e1] at hc
      rw [hbk.out] at hxb
      obtain ⟨p, hp⟩ : ∃ p, t.name.2 = p := ⟨_, rfl⟩
      rw [hp] at hc hxb H hwl
      have hx10 : p.back.length ≤ 10 := by simpa using hxb
      have hn1 : 3 ≤ n := by omega
      clear hp e1 hxb
      have HS := hid_ hst
      have c2' := c2
      rw [hst] at c2'
      clear hst c2 c3 hstt
      have z3 : (1 : Int) < 3 := by decide
      go_wp2_with fail
      refine H.mono ?_
      rintro _ w5 ⟨v8, rfl, h10⟩
      have hsrc := h10.rdb
      obtain ⟨a8, d8, hv8, -⟩ := hsrc.form
      subst hv8
      obtain ⟨G, hG, hK⟩ := RsS.app h10.swap2
      clear c2' H h8
      go_wp2_with (at_builtin; refine wpList_append_b (w0 := w0) rfl _ _ 22 rfl rfl hG rfl (slSrc hsrc) (acc ++ p.back) (acc.length + p.back.length) rfl (by simp) (by omega) ?_)
      intro a9 d9 w6 h11
      have h12 := (hK _ _ _ h11).swap2.drop
      clear hG hK h10 h11 hsrc
      have h13 := h12
      obtain ⟨wa2, wc2, ta2, tc2, h13⟩ := h13
      unfold rsO at h13
      have c2 : w6.cell? ⟨g, 2, none⟩ = some (.int .i64 p.state) := h13.cell 2 rfl
      have c3 : w6.cell? ⟨g, 3, none⟩ = some (.slice wa2 p.wait.length wc2) := h13.cell 3 rfl
      clear h13
      rcases hc with ⟨p2, p3, p4, p5⟩ | ⟨p2, p5⟩ | ⟨p2, p5⟩
      · have hne : (p.state == 1) = false := by rw [beq_eq_false_iff_ne]; have := HS.out; omega
        have HP := hid_ (left_on hF.out (by rw [HS.out]; decide) (by omega) p5)
        have hs0 := HS.out
        clear p5 hF
        go_wp2_with fail
        go_roundg (gk - 1)
        case rel => exact ⟨n - 1, p.nb, acc ++ p.back, by omega, by omega, hid_ rfl, .inl ⟨by show 0 ≤ p.state; omega, p3, by show 3 - p.state < _; omega⟩, HP, by show p.wait.length ≤ _; omega, by rw [List.length_append]; omega, h12⟩
        case measure => omega
      · have hne : (p.state == 1) = false := by rw [p2]; rfl
        have HP := hid_ (left_shut (m := n - 1) hF.out (by rw [HS.out]; decide) p2 p5)
        have hpw : p.wait.length ≤ 1000000 := by omega
        have HP2 := hid_ p2
        have hs0 := HS.out
        clear p5 hF p2
        go_wp2_with fail
        go_roundg (gk - 1)
        case rel => exact ⟨n - 1, p.nb, acc ++ p.back, by omega, by omega, hid_ rfl, .inr HP2.out, HP, hpw, by rw [List.length_append]; omega, h12⟩
        case measure => omega
      · have hps : p.state = 1 := by rw [p2]; exact HS.out
        have hF2 : s.feed k = t.pre acc := by
          have h1 : SoM.left n t = SoM.run n t := if_neg (by rw [HS.out]; decide)
          rw [hF.out, h1, p5]
        have HF2 := hid_ hF2
        have hx0 : p.back = [] := by rw [p2]; exact hbk.out
        have HP2 := hid_ p2
        have HX0 := hid_ hx0
        rw [hps] at c2
        clear p2 p5 hF hF2 hps hx0
        go_wp2_with fail
        (try rw [Exit.noGoto_ret])
        go_ret2
        rw [HF2.out]
        have hbb : (t.pre acc).back = acc := by show acc ++ t.back = acc; rw [hbk.out, List.append_nil]
        rw [HP2.out, hbk.out, List.append_nil] at h12
        rw [hbb]
        exact ⟨a9, d9, by rw [HX0.out]; rfl, h12⟩
    · have e1 : t.step = t.ask := by unfold SoM.step; rw [if_neg (by omega), if_neg (by omega), if_pos hst]
      have hc := step_three (SoM.ask_step [] hst) (by omega) (show 3 - t.state < (n : Int) by omega)
      have hxb := t.ask_back
      have hwl := t.ask_wait
      have H := rs_ask hbk.out hwt h8
      rw [e1] at hc
      rw [hbk.out] at hxb
      obtain ⟨p, hp⟩ : ∃ p, t.ask.2 = p := ⟨_, rfl⟩
      rw [hp] at hc hxb H hwl
      have hx10 : p.back.length ≤ 10 := by simpa using hxb
      have hn1 : 2 ≤ n := by omega
      clear hp e1 hxb
      have HS := hid_ hst
      have c2' := c2
      rw [hst] at c2'
      clear hst c2 c3 hstt
      have z3 : (2 : Int) < 3 := by decide
      go_wp2_with fail
      refine H.mono ?_
      rintro _ w5 ⟨v8, rfl, h10⟩
      have hsrc := h10.rdb
      obtain ⟨a8, d8, hv8, -⟩ := hsrc.form
      subst hv8
      obtain ⟨G, hG, hK⟩ := RsS.app h10.swap2
      clear c2' H h8
      go_wp2_with (at_builtin; refine wpList_append_b (w0 := w0) rfl _ _ 22 rfl rfl hG rfl (slSrc hsrc) (acc ++ p.back) (acc.length + p.back.length) rfl (by simp) (by omega) ?_)
      intro a9 d9 w6 h11
      have h12 := (hK _ _ _ h11).swap2.drop
      clear hG hK h10 h11 hsrc
      have h13 := h12
      obtain ⟨wa2, wc2, ta2, tc2, h13⟩ := h13
      unfold rsO at h13
      have c2 : w6.cell? ⟨g, 2, none⟩ = some (.int .i64 p.state) := h13.cell 2 rfl
      have c3 : w6.cell? ⟨g, 3, none⟩ = some (.slice wa2 p.wait.length wc2) := h13.cell 3 rfl
      clear h13
      rcases hc with ⟨p2, p3, p4, p5⟩ | ⟨p2, p5⟩ | ⟨p2, p5⟩
      · have hne : (p.state == 2) = false := by rw [beq_eq_false_iff_ne]; have := HS.out; omega
        have HP := hid_ (left_on hF.out (by rw [HS.out]; decide) (by omega) p5)
        have hs0 := HS.out
        clear p5 hF
        go_wp2_with fail
        go_roundg (gk - 1)
        case rel => exact ⟨n - 1, p.nb, acc ++ p.back, by omega, by omega, hid_ rfl, .inl ⟨by show 0 ≤ p.state; omega, p3, by show 3 - p.state < _; omega⟩, HP, by show p.wait.length ≤ _; omega, by rw [List.length_append]; omega, h12⟩
        case measure => omega
      · have hne : (p.state == 2) = false := by rw [p2]; rfl
        have HP := hid_ (left_shut (m := n - 1) hF.out (by rw [HS.out]; decide) p2 p5)
        have hpw : p.wait.length ≤ 1000000 := by omega
        have HP2 := hid_ p2
        have hs0 := HS.out
        clear p5 hF p2
        go_wp2_with fail
        go_roundg (gk - 1)
        case rel => exact ⟨n - 1, p.nb, acc ++ p.back, by omega, by omega, hid_ rfl, .inr HP2.out, HP, hpw, by rw [List.length_append]; omega, h12⟩
        case measure => omega
      · have hps : p.state = 2 := by rw [p2]; exact HS.out
        have hF2 : s.feed k = t.pre acc := by
          have h1 : SoM.left n t = SoM.run n t := if_neg (by rw [HS.out]; decide)
          rw [hF.out, h1, p5]
        have HF2 := hid_ hF2
        have hx0 : p.back = [] := by rw [p2]; exact hbk.out
        have HP2 := hid_ p2
        have HX0 := hid_ hx0
        rw [hps] at c2
        clear p2 p5 hF hF2 hps hx0
        go_wp2_with fail
        (try rw [Exit.noGoto_ret])
        go_ret2
        rw [HF2.out]
        have hbb : (t.pre acc).back = acc := by show acc ++ t.back = acc; rw [hbk.out, List.append_nil]
        rw [HP2.out, hbk.out, List.append_nil] at h12
        rw [hbb]
        exact ⟨a9, d9, by rw [HX0.out]; rfl, h12⟩
    · have hF2 : s.feed k = (if 4096 < t.wait.length then t.close [] else t).pre acc := by
        have h1 : SoM.left n t = SoM.run n t := if_neg (by omega)
        obtain ⟨m, rfl⟩ : ∃ m, n = m + 1 := ⟨n - 1, by omega⟩
        have e1 : t.step = if 4096 < t.wait.length then (false, t.close []) else (false, t) := by unfold SoM.step; rw [if_neg (by omega), if_neg (by omega), if_neg (by omega), if_pos hst]
        rw [hF.out, h1]
        congr 1
        split
        · rename_i hl
          rw [if_pos hl] at e1
          exact SoM.run_stop e1
        · rename_i hl
          rw [if_neg hl] at e1
          exact SoM.run_stop e1
      have hbc : (t.close []).back = [] := bk_close hbk.out _
      have c2' := c2
      rw [hst] at c2'
      clear c2 hst hstt hF
      by_cases hl : 4096 < t.wait.length
      · rw [if_pos hl] at hF2
        have HF2 := hid_ hF2
        have z1 : (4096 : Int) < (t.wait.length : Int) := by omega
        have HBC := hid_ hbc
        clear hF2 hbc hl
        go_wp2_with fail
        refine (rs_close h8).mono ?_
        rintro _ w5 ⟨rfl, h9⟩
        go_wp2_with fail
        (try rw [Exit.noGoto_ret])
        go_ret2
        rw [HF2.out]
        have hbb : ((t.close []).pre acc).back = acc := by show acc ++ (t.close []).back = acc; rw [HBC.out, List.append_nil]
        rw [hbb]
        exact ⟨a6, d6, rfl, h9 []⟩
      · rw [if_neg hl] at hF2
        have HF2 := hid_ hF2
        have z1 : ¬ (4096 : Int) < (t.wait.length : Int) := by omega
        clear hF2 hbc hl
        go_wp2_with fail
        (try rw [Exit.noGoto_ret])
        go_ret2
        rw [HF2.out]
        have hbb : (t.pre acc).back = acc := by show acc ++ t.back = acc; rw [hbk.out, List.append_nil]
        rw [hbb]
        exact ⟨a6, d6, rfl, h8⟩
    · have hF2 : s.feed k = t.pre acc := by
        have h1 : SoM.left n t = t := if_pos hst
        rw [hF.out, h1]
      have HF2 := hid_ hF2
      have c2' := c2
      rw [hst] at c2'
      clear c2 hst hstt hF hF2
      go_wp2_with fail
      (try rw [Exit.noGoto_ret])
      go_ret2
      rw [HF2.out]
      have hbb : (t.pre acc).back = acc := by show acc ++ t.back = acc; rw [hbk.out, List.append_nil]
      rw [hbb]
      exact ⟨a6, d6, rfl, h8⟩
end
end Go.Proofs.Ythfdejgckcoohaa
