/- The document's Socks: Feed when open or closed, Reply; walked; what a run leaves. -/
import Derived.Test.YthfdejgckcoohaaRsE
namespace Go.Proofs.Ythfdejgckcoohaa
open Go Go.RowKit
set_option linter.unusedVariables false
set_option linter.unusedSimpArgs false

theorem SoM.step_wait (s : SoM) : s.step.2.wait.length ≤ s.wait.length := by
  unfold SoM.step
  split
  · exact s.greet_wait
  · split
    · exact s.name_wait
    · split
      · exact s.ask_wait
      · split
        · split
          · exact s.close_wait _
          · exact Nat.le_refl _
        · exact Nat.le_refl _
theorem SoM.run_wait : ∀ (n : Nat) (s : SoM), (SoM.run n s).wait.length ≤ s.wait.length
  | 0, s => Nat.le_refl _
  | n + 1, s => by
    have e : SoM.run (n + 1) s = if s.step.1 then SoM.run n s.step.2 else s.step.2 := rfl
    have h := s.step_wait
    rw [e]
    split
    · have := SoM.run_wait n s.step.2
      omega
    · omega
theorem SoM.feed_wait (s : SoM) (k : List UInt8) : (s.feed k).wait.length ≤ s.wait.length + k.length := by
  have h := SoM.run_wait 4 { s with wait := s.wait ++ k, back := [] }
  have h2 : ({ s with wait := s.wait ++ k, back := [] } : SoM).wait.length = s.wait.length + k.length := List.length_append
  rw [h2] at h
  exact h
theorem SoM.step_state {s : SoM} (h0 : 0 ≤ s.state) (h3 : s.state ≤ 3) : s.step.2.state = 5 ∨ (0 ≤ s.step.2.state ∧ s.step.2.state ≤ 3) := by
  have key : ∀ h : SoStep s [], s.step.2.state = 5 ∨ (0 ≤ s.step.2.state ∧ s.step.2.state ≤ 3) := by
    intro h
    cases h with
    | on s' h1 h2 h3 h4 h5 => rw [h1]; exact .inr ⟨by show 0 ≤ s'.state; omega, h4⟩
    | shut s' h1 h2 h3 => rw [h1]; exact .inl h3
    | more h1 => rw [h1]; exact .inr ⟨h0, h3⟩
  rcases (show s.state = 0 ∨ s.state = 1 ∨ s.state = 2 ∨ s.state = 3 by omega) with h | h | h | h
  · exact key (SoM.greet_step [] h)
  · exact key (SoM.name_step [] h)
  · exact key (SoM.ask_step [] h)
  · unfold SoM.step
    rw [if_neg (by omega), if_neg (by omega), if_neg (by omega), if_pos h]
    split
    · exact .inl rfl
    · exact .inr ⟨h0, h3⟩
theorem SoM.step_five {s : SoM} (h : s.state = 5) : s.step = (false, s) := by
  unfold SoM.step
  rw [if_neg (by omega), if_neg (by omega), if_neg (by omega), if_neg (by omega)]
theorem SoM.run_state : ∀ (n : Nat) (s : SoM), 0 ≤ s.state → s.state ≤ 3 → (SoM.run n s).state = 5 ∨ (0 ≤ (SoM.run n s).state ∧ (SoM.run n s).state ≤ 3)
  | 0, s, h0, h3 => .inr ⟨h0, h3⟩
  | n + 1, s, h0, h3 => by
    have e : SoM.run (n + 1) s = if s.step.1 then SoM.run n s.step.2 else s.step.2 := rfl
    rw [e]
    rcases SoM.step_state h0 h3 with h | h
    · split
      · have h5 : ∀ n, SoM.run n s.step.2 = s.step.2 := by
          intro n
          cases n with
          | zero => rfl
          | succ n => exact SoM.run_stop (SoM.step_five h)
        rw [h5]
        exact .inl h
      · exact .inl h
    · split
      · exact SoM.run_state n _ h.1 h.2
      · exact .inr h
theorem SoM.feed_state {s : SoM} (h0 : 0 ≤ s.state) (h3 : s.state ≤ 3) (k : List UInt8) : (s.feed k).state = 5 ∨ (0 ≤ (s.feed k).state ∧ (s.feed k).state ≤ 3) := SoM.run_state 4 { s with wait := s.wait ++ k, back := [] } h0 h3
theorem SoM.feed_dest {s : SoM} (h : s.dest.ip.length ≤ 16) (k : List UInt8) : (s.feed k).dest.ip.length ≤ 16 := SoM.run_dest 4 { s with wait := s.wait ++ k, back := [] } h
section
variable {w0 w w' : World} {L M : List Assn} {A : Assn} {g : Nat} {s : SoM}
theorem rs_feed_shut {v : Value} (h5 : s.state = 5) (hs : RsS w0 w L g s) : Calls Try.prog 17 #[.pointer (some ⟨g, 0, none⟩), v] w fun e w' => e = .returned (.tuple #[.slice none 0 0, .slice none 0 0]) ∧ w = w' := by
  obtain ⟨wa, wc, ta, tc, h8⟩ := hs
  have c2 : w.cell? ⟨g, 2, none⟩ = some (.int .i64 s.state) := h8.cell 2 rfl
  rw [h5] at c2
  clear h8 h5
  go_enter Try.func17, Try.ntmps17
  go_wp2_with fail
  go_ret2
  exact ⟨rfl, rfl⟩
theorem rs_feed_open {v : Value} {k : List UInt8} (h4 : s.state = 4) (hl : k.length ≤ 1000000) (hs : RsS w0 w L g s) (hv : RdB w v k) : Calls Try.prog 17 #[.pointer (some ⟨g, 0, none⟩), v] w fun e w' => ∃ a c, e = .returned (.tuple #[.slice none 0 0, .slice a k.length c]) ∧ Sat w w' [OwnB 5 (.slice a k.length c) k] := by
  obtain ⟨wa, wc, ta, tc, h8⟩ := hs
  have c2 : w.cell? ⟨g, 2, none⟩ = some (.int .i64 s.state) := h8.cell 2 rfl
  rw [h4] at c2
  clear h8 h4
  have h1 := OwnB.nilI (t := 5) (Sat.refl w)
  go_enter Try.func17, Try.ntmps17
  go_wp2_with (at_builtin; refine wpList_append_b (w0 := w) rfl _ _ 22 rfl rfl h1 rfl (slSrc hv) k k.length rfl rfl (by omega) ?_)
  intro a c w1 h2
  go_wp2_with fail
  go_ret2
  exact ⟨a, c, rfl, h2⟩
theorem rs_reply_no {c : Int} (h : s.state ≠ 3 ∨ c < 0 ∨ 8 < c) (hs : RsS w0 w L g s) : Calls Try.prog 19 #[.pointer (some ⟨g, 0, none⟩), .int .i64 c] w fun e w' => e = .returned (.tuple #[.slice none 0 0, .slice none 0 0]) ∧ w = w' := by
  obtain ⟨wa, wc, ta, tc, h8⟩ := hs
  have c2 : w.cell? ⟨g, 2, none⟩ = some (.int .i64 s.state) := h8.cell 2 rfl
  clear h8
  by_cases h3 : s.state = 3
  · rw [h3] at c2
    by_cases h0 : c < 0
    · clear h h3
      go_enter Try.func19, Try.ntmps19
      go_wp2_with fail
      go_ret2
      exact ⟨rfl, rfl⟩
    · have h8 : 8 < c := by omega
      clear h h3
      go_enter Try.func19, Try.ntmps19
      go_wp2_with fail
      go_ret2
      exact ⟨rfl, rfl⟩
  · have z : ((s.state : Int) != 3) = true := by rw [bne_iff_ne]; exact h3
    clear h h3
    go_enter Try.func19, Try.ntmps19
    go_wp2_with fail
    go_ret2
    exact ⟨rfl, rfl⟩
theorem rs_reply_shut {c : Int} {k : Nat} (hk : c = (k : Int)) (h3 : s.state = 3) (h0 : c ≠ 0) (h1 : 0 ≤ c) (h8 : c ≤ 8) (hs : RsS w0 w L g s) :
    Calls Try.prog 19 #[.pointer (some ⟨g, 0, none⟩), .int .i64 c] w fun e w' => ∃ a d, e = .returned (.tuple #[.slice a 10 d, .slice none 0 0]) ∧ RsS w0 w' (OwnB 5 (.slice a 10 d) (replyB k) :: L) g (s.close []) := by
  have hs1 := hs
  obtain ⟨wa1, wc1, ta1, tc1, h8'⟩ := hs1
  have c2 : w.cell? ⟨g, 2, none⟩ = some (.int .i64 s.state) := h8'.cell 2 rfl
  rw [h3] at c2
  have z0 : (c == 0) = false := by rw [beq_eq_false_iff_ne]; exact h0
  have z1 : (c != 0) = true := by rw [bne_iff_ne]; exact h0
  have HK := hid_ hk
  clear h8' h3 h0 hk
  go_enter Try.func19, Try.ntmps19
  go_wp2_with fail
  refine (rs_reply HK.out).mono ?_
  rintro _ w2 ⟨a, d, rfl, h6⟩
  go_wp2_with fail
  refine (rs_close (hs.add h6)).mono ?_
  rintro _ w3 ⟨rfl, h7⟩
  go_wp2_with fail
  go_ret2
  exact ⟨a, d, rfl, h7 []⟩
theorem rs_reply_done (h3 : s.state = 3) (hs : RsS w0 w L g s) :
    Calls Try.prog 19 #[.pointer (some ⟨g, 0, none⟩), .int .i64 0] w fun e w' => ∃ a d a2 d2, e = .returned (.tuple #[.slice a 10 d, .slice a2 s.wait.length d2]) ∧
      RsS w0 w' (OwnB 5 (.slice a 10 d) (replyB 0) :: OwnB 5 (.slice a2 s.wait.length d2) s.wait :: L) g { s with state := 4, wait := [] } := by
  obtain ⟨wa, wc, ta, tc, h1⟩ := hs
  unfold rsO at h1
  have c2 : w.cell? ⟨g, 2, none⟩ = some (.int .i64 s.state) := h1.cell 2 rfl
  rw [h3] at c2
  have c3 : w.cell? ⟨g, 3, none⟩ = some (.slice wa s.wait.length wc) := h1.cell 3 rfl
  have f2 := h1.frozen 2
  have f3 := h1.frozen 3
  have h2 := (h1.set 3 (.slice none 0 0)).set 2 (.int .i64 4)
  simp only [List.setIfInBounds_toArray, List.set_cons_zero, List.set_cons_succ] at h2
  have h4 : RsS w0 ((w.setCell ⟨g, 3, none⟩ (.slice none 0 0)).setCell ⟨g, 2, none⟩ (.int .i64 4)) (OwnB 5 (.slice wa s.wait.length wc) s.wait :: L) g { s with state := 4, wait := [] } :=
    ⟨none, 0, ta, tc, Sat.re [1, 0, 3, 2] [_, _, _, _] (OwnB.nilI (t := 5) h2)⟩
  clear h1 h2 h3
  go_enter Try.func19, Try.ntmps19
  go_wp2_with fail
  refine (rs_reply (code := 0) rfl).mono ?_
  rintro _ w2 ⟨a, d, rfl, h6⟩
  have h7 := h4.add h6
  go_wp2_with fail
  go_ret2
  exact ⟨a, d, wa, wc, rfl, h7⟩
end
end Go.Proofs.Ythfdejgckcoohaa
