/- Who answers SOCKS in memory; close, goes: walked. -/
import Derived.BigRegion
import Derived.Test.YthfdejgckcoohaaSoM
import Derived.Test.YthfdejgckcoohaaVw
namespace Go.Proofs.Ythfdejgckcoohaa
open Go Go.RowKit
set_option linter.unusedVariables false
set_option linter.unusedSimpArgs false

/-- Its cells. -/
def soO (s : SoM) (wv tv bv : Value) : Obj := .cells #[.string s.user, .string s.pass, .int .i64 s.state, wv, .int .i64 s.dest.kind, tv, .string s.dest.name, .int .i64 s.dest.port, bv] 54 (0, 0)
/-- It, with all that it owns. -/
def SoS (w0 w : World) (L : List Assn) (g : Nat) (s : SoM) : Prop :=
  ∃ wa wc ta tc ba bc, Sat w0 w (Blk g (soO s (.slice wa s.wait.length wc) (.slice ta s.dest.ip.length tc) (.slice ba s.back.length bc)) :: OwnB 5 (.slice wa s.wait.length wc) s.wait :: OwnB 5 (.slice ta s.dest.ip.length tc) s.dest.ip :: OwnB 5 (.slice ba s.back.length bc) s.back :: L)
section
variable {w0 w : World} {L : List Assn}
set_option maxRecDepth 100000 in
set_option maxHeartbeats 1000000 in
theorem so_close {g : Nat} {s : SoM} {v : Value} {k : List UInt8} (hb : s.back.length + k.length ≤ 100000) (hs : SoS w0 w L g s) (hv : Vw w0 L v k) :
    Calls Try.prog 25 #[.pointer (some ⟨g, 0, none⟩), v] w fun e w' => e = .returned (.tuple #[]) ∧ SoS w0 w' L g (s.close k) := by
  obtain ⟨wa, wc, ta, tc, ba, bc, h1⟩ := hs
  unfold soO at h1
  have c5 : w.cell? ⟨g, 8, none⟩ = some (.slice ba s.back.length bc) := h1.cell 8 rfl
  have hrd := hv w [_, _, _, _] h1
  go_enter Try.func25, Try.ntmps25
  go_wp2_with (at_builtin; refine wpList_append_b (w0 := w0) rfl _ _ 22 rfl rfl (Sat.front [_, _, _] h1) rfl (slSrc hrd) (s.back ++ k) (s.back.length + k.length) rfl (by simp) (by omega) ?_)
  intro a2 c2 w2 h2
  replace h2 := h2.swap
  have x2 : w2.cell? ⟨g, 2, none⟩ = some (.int .i64 s.state) := h2.cell 2 rfl
  have x3 : w2.cell? ⟨g, 3, none⟩ = some (.slice wa s.wait.length wc) := h2.cell 3 rfl
  have x4 : w2.cell? ⟨g, 4, none⟩ = some (.int .i64 s.dest.kind) := h2.cell 4 rfl
  have x5 : w2.cell? ⟨g, 5, none⟩ = some (.slice ta s.dest.ip.length tc) := h2.cell 5 rfl
  have x6 : w2.cell? ⟨g, 6, none⟩ = some (.string s.dest.name) := h2.cell 6 rfl
  have x7 : w2.cell? ⟨g, 7, none⟩ = some (.int .i64 s.dest.port) := h2.cell 7 rfl
  have x8 : w2.cell? ⟨g, 8, none⟩ = some (.slice ba s.back.length bc) := h2.cell 8 rfl
  obtain ⟨-, -, f2, f3, f4, f5, f6, f7, f8⟩ := (⟨h2.frozen 0, h2.frozen 1, h2.frozen 2, h2.frozen 3, h2.frozen 4, h2.frozen 5, h2.frozen 6, h2.frozen 7, h2.frozen 8⟩ : _ ∧ _ ∧ _ ∧ _ ∧ _ ∧ _ ∧ _ ∧ _ ∧ _)
  have h3 := ((((((h2.set 8 (.slice a2 (s.back.length + k.length) c2)).set 2 (.int .i64 5)).set 3 (.slice none 0 0)).set 4 (.int .i64 0)).set 5 (.slice none 0 0)).set 6 (.string ⟨#[]⟩)).set 7 (.int .i64 0)
  simp only [List.setIfInBounds_toArray, List.set_cons_zero, List.set_cons_succ] at h3
  clear c5 hrd h1
  go_wp2_with fail
  refine bodyPost_end (v := .tuple #[]) (by simp [results, Try.results25, go_sem]) rfl ?_
  refine ⟨rfl, none, 0, none, 0, a2, c2, ?_⟩
  have h5 := (Sat.front [_, _] (Sat.front [_, _, _] h3).drop).drop
  have h6 := Sat.front [_, _] (OwnB.nilI (t := 5) (OwnB.nilI (t := 5) h5))
  show Sat w0 _ (Blk g (soO (s.close k) (.slice none 0 0) (.slice none 0 0) (.slice a2 (s.back ++ k).length c2)) :: OwnB 5 (.slice none 0 0) [] :: OwnB 5 (.slice none 0 0) [] :: OwnB 5 (.slice a2 (s.back ++ k).length c2) (s.back ++ k) :: L)
  rw [List.length_append]
  exact h6

set_option maxRecDepth 100000 in
set_option maxHeartbeats 1000000 in
theorem so_goes {g n : Nat} {st ni : Int} {s : SoM} {v : Value} {k : List UInt8} (hni : ni = (n : Int)) (hn : n ≤ s.wait.length) (hw : 0 < s.wait.length) (hb : s.back.length + k.length ≤ 100000) (hs : SoS w0 w L g s) (hv : Vw w0 L v k) :
    Calls Try.prog 35 #[.pointer (some ⟨g, 0, none⟩), .int .i64 st, .int .i64 ni, v] w fun e w' => e = .returned (.bool true) ∧ SoS w0 w' L g (s.goes st n k) := by
  subst hni
  obtain ⟨wa, wc, ta, tc, ba, bc, h1⟩ := hs
  unfold soO at h1
  have c5 : w.cell? ⟨g, 8, none⟩ = some (.slice ba s.back.length bc) := h1.cell 8 rfl
  have f8 : w.frozen? ⟨g, 8, none⟩ = false := h1.frozen 8
  have hrd := hv w [_, _, _, _] h1
  obtain ⟨b0, o0, c0, he, -, hcc, hcm, -⟩ := (OwnB.rd (Sat.front [_] h1)).at hw
  injection he with he1 hel he3
  subst he1 he3
  clear hel
  go_enter Try.func35, Try.ntmps35
  go_wp2_with (at_builtin; refine wpList_append_b (w0 := w0) rfl _ _ 22 rfl rfl (Sat.front [_, _, _] h1) rfl (slSrc hrd) (s.back ++ k) (s.back.length + k.length) rfl (by simp) (by omega) ?_)
  intro a2 c2 w2 h2
  replace h2 := h2.swap
  have x8 : w2.cell? ⟨g, 8, none⟩ = some (.slice ba s.back.length bc) := h2.cell 8 rfl
  have g8 : w2.frozen? ⟨g, 8, none⟩ = false := h2.frozen 8
  have h3 := h2.set 8 (.slice a2 (s.back.length + k.length) c2)
  simp only [List.setIfInBounds_toArray, List.set_cons_zero, List.set_cons_succ] at h3
  obtain ⟨W3, hW3⟩ : ∃ W, w2.setCell ⟨g, 8, none⟩ (.slice a2 (s.back.length + k.length) c2) = W := ⟨_, rfl⟩
  rw [hW3] at h3
  have HW := hid_ hW3
  clear hW3 c5 hrd h1 f8
  go_upto_region 2 with fail
  rw [HW.out]
  clear HW x8 g8 h2
  have z1 : 0 ≤ (n : Int) ∧ (n : Int) ≤ (s.wait.length : Int) ∧ (s.wait.length : Int) ≤ (wc : Int) := by omega
  have x2 : W3.cell? ⟨g, 2, none⟩ = some (.int .i64 s.state) := h3.cell 2 rfl
  have x3 : W3.cell? ⟨g, 3, none⟩ = some (.slice (some ⟨b0, o0, none⟩) s.wait.length wc) := h3.cell 3 rfl
  have f2 : W3.frozen? ⟨g, 2, none⟩ = false := h3.frozen 2
  have f3 : W3.frozen? ⟨g, 3, none⟩ = false := h3.frozen 3
  by_cases hcap : n = wc
  · subst hcap
    have hlen : s.wait.length - n = 0 := by omega
    have hln : s.wait.length = n := by omega
    have H := hid_ hln
    clear hln
    have h4 := (h3.set 2 (.int .i64 st)).set 3 (.slice (some ⟨b0, o0, none⟩) 0 0)
    simp only [List.setIfInBounds_toArray, List.set_cons_zero, List.set_cons_succ] at h4
    have h5 := Sat.re [1, 0, 3, 2] [_, _, _, _] (OwnB.cutAll (Sat.front [_, _] h4) H.out)
    go_region
    all_goals
      go_wp2_with fail
      go_ret
      refine ⟨rfl, some ⟨b0, o0, none⟩, 0, ta, tc, a2, c2, ?_⟩
      show Sat w0 _ (Blk g (soO (s.goes st n k) (.slice (some ⟨b0, o0, none⟩) (s.wait.drop n).length 0) (.slice ta s.dest.ip.length tc) (.slice a2 (s.back ++ k).length c2)) :: OwnB 5 (.slice (some ⟨b0, o0, none⟩) (s.wait.drop n).length 0) (s.wait.drop n) :: OwnB 5 (.slice ta s.dest.ip.length tc) s.dest.ip :: OwnB 5 (.slice a2 (s.back ++ k).length c2) (s.back ++ k) :: L)
      rw [List.length_drop, List.length_append, hlen]
      first | exact h5.drew | exact h5
  · have z2 : (n : Int) < (wc : Int) := by omega
    have h4 := (h3.set 2 (.int .i64 st)).set 3 (.slice (some ⟨b0, o0 + n, none⟩) (s.wait.length - n : Nat) (wc - n))
    simp only [List.setIfInBounds_toArray, List.set_cons_zero, List.set_cons_succ] at h4
    have h5 := Sat.re [1, 0, 3, 2] [_, _, _, _] (OwnB.cut (Sat.front [_, _] h4) hn)
    go_region
    all_goals
      go_wp2_with fail
      go_ret
      refine ⟨rfl, some ⟨b0, o0 + n, none⟩, wc - n, ta, tc, a2, c2, ?_⟩
      show Sat w0 _ (Blk g (soO (s.goes st n k) (.slice (some ⟨b0, o0 + n, none⟩) (s.wait.drop n).length (wc - n)) (.slice ta s.dest.ip.length tc) (.slice a2 (s.back ++ k).length c2)) :: OwnB 5 (.slice (some ⟨b0, o0 + n, none⟩) (s.wait.drop n).length (wc - n)) (s.wait.drop n) :: OwnB 5 (.slice ta s.dest.ip.length tc) s.dest.ip :: OwnB 5 (.slice a2 (s.back ++ k).length c2) (s.back ++ k) :: L)
      rw [List.length_drop, List.length_append]
      first | exact h5.drew | exact h5
end
end Go.Proofs.Ythfdejgckcoohaa
