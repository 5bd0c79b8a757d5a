/- Who answers SOCKS: Reply; walked. -/
import Derived.Test.YthfdejgckcoohaaSoR
namespace Go.Proofs.Ythfdejgckcoohaa
open Go Go.RowKit
set_option linter.unusedVariables false
set_option linter.unusedSimpArgs false

section
variable {w0 w w' : World} {L M : List Assn} {A : Assn} {g : Nat} {s : SoM}
theorem so_Reply_nil (c : Int) : Calls Try.prog 18 #[.pointer none, .int .i64 c] w fun e w' => e = .returned (.tuple #[.slice none 0 0, .slice none 0 0]) ∧ w = w' := by
  go_enter Try.func18, Try.ntmps18
  go_wp2_with fail
  go_ret2
  exact ⟨rfl, rfl⟩
theorem so_reply_no {c : Int} (h : s.state ≠ 3 ∨ c < 0 ∨ 8 < c) (hs : SoS w0 w L g s) : Calls Try.prog 18 #[.pointer (some ⟨g, 0, none⟩), .int .i64 c] w fun e w' => e = .returned (.tuple #[.slice none 0 0, .slice none 0 0]) ∧ w = w' := by
  obtain ⟨wa1, wc1, ta1, tc1, ba1, bc1, h8⟩ := hs
  have c2 : w.cell? ⟨g, 2, none⟩ = some (.int .i64 s.state) := h8.cell 2 rfl
  clear h8
  by_cases h3 : s.state = 3
  · rw [h3] at c2
    by_cases h0 : c < 0
    · clear h h3
      go_enter Try.func18, Try.ntmps18
      go_wp2_with fail
      go_ret2
      exact ⟨rfl, rfl⟩
    · have h8 : 8 < c := by omega
      clear h h3
      go_enter Try.func18, Try.ntmps18
      go_wp2_with fail
      go_ret2
      exact ⟨rfl, rfl⟩
  · have z : ((s.state : Int) != 3) = true := by rw [bne_iff_ne]; exact h3
    clear h h3
    go_enter Try.func18, Try.ntmps18
    go_wp2_with fail
    go_ret2
    exact ⟨rfl, rfl⟩
theorem so_reply_shut {c : Int} {k : Nat} (hk : c = (k : Int)) (h3 : s.state = 3) (h0 : c ≠ 0) (h1 : 0 ≤ c) (h8 : c ≤ 8) (hb : s.back.length ≤ 90000) (hs : SoS w0 w L g s) :
    Calls Try.prog 18 #[.pointer (some ⟨g, 0, none⟩), .int .i64 c] w fun e w' => ∃ a d, e = .returned (.tuple #[.slice a 10 d, .slice none 0 0]) ∧ SoS w0 w' (OwnB 5 (.slice a 10 d) (replyB k) :: L) g (s.close []) := by
  have hs1 := hs
  obtain ⟨wa1, wc1, ta1, tc1, ba1, bc1, h8'⟩ := hs1
  have c2 : w.cell? ⟨g, 2, none⟩ = some (.int .i64 s.state) := h8'.cell 2 rfl
  rw [h3] at c2
  have z0 : (c == 0) = false := by rw [beq_eq_false_iff_ne]; exact h0
  have z1 : (c != 0) = true := by rw [bne_iff_ne]; exact h0
  have HK := hid_ hk
  have H := so_close (k := []) (v := .slice none 0 0) (by show s.back.length + 0 ≤ 100000; omega) hs Vw.nil
  clear h8' h3 h0 hk
  go_enter Try.func18, Try.ntmps18
  go_wp2_with fail
  refine H.mono ?_
  rintro _ w1 ⟨rfl, h5⟩
  go_wp2_with fail
  refine (so_reply HK.out (Sat.refl w1)).mono ?_
  rintro _ w2 ⟨a, d, rfl, h6⟩
  have h7 := h5.add h6
  go_wp2_with fail
  go_ret2
  exact ⟨a, d, rfl, h7⟩
theorem so_reply_done (h3 : s.state = 3) (hs : SoS w0 w L g s) :
    Calls Try.prog 18 #[.pointer (some ⟨g, 0, none⟩), .int .i64 0] w fun e w' => ∃ a d a2 d2, e = .returned (.tuple #[.slice a 10 d, .slice a2 s.wait.length d2]) ∧
      SoS w0 w' (OwnB 5 (.slice a 10 d) (replyB 0) :: OwnB 5 (.slice a2 s.wait.length d2) s.wait :: L) g { s with state := 4, wait := [] } := by
  obtain ⟨wa, wc, ta, tc, ba, bc, h1⟩ := hs
  unfold soO at h1
  have c2 : w.cell? ⟨g, 2, none⟩ = some (.int .i64 s.state) := h1.cell 2 rfl
  rw [h3] at c2
  have c3 : w.cell? ⟨g, 3, none⟩ = some (.slice wa s.wait.length wc) := h1.cell 3 rfl
  have f2 := h1.frozen 2
  have f3 := h1.frozen 3
  have h2 := (h1.set 2 (.int .i64 4)).set 3 (.slice none 0 0)
  simp only [List.setIfInBounds_toArray, List.set_cons_zero, List.set_cons_succ] at h2
  have h4 : SoS w0 ((w.setCell ⟨g, 2, none⟩ (.int .i64 4)).setCell ⟨g, 3, none⟩ (.slice none 0 0)) (OwnB 5 (.slice wa s.wait.length wc) s.wait :: L) g { s with state := 4, wait := [] } :=
    ⟨none, 0, ta, tc, ba, bc, Sat.re [1, 0, 3, 4, 2] [_, _, _, _, _] (OwnB.nilI (t := 5) h2)⟩
  clear h1 h2 h3
  go_enter Try.func18, Try.ntmps18
  go_wp2_with fail
  refine (so_reply (code := 0) rfl (Sat.refl _)).mono ?_
  rintro _ w2 ⟨a, d, rfl, h6⟩
  have h7 := h4.add h6
  go_wp2_with fail
  go_ret2
  exact ⟨a, d, wa, wc, rfl, h7⟩
end
end Go.Proofs.Ythfdejgckcoohaa
