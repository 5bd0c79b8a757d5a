/- The laws of SOCKS: awake; walked. -/
import Derived.Test.YthfdejgckcoohaaSoT
namespace Go.Proofs.Ythfdejgckcoohaa
open Go Go.RowKit
set_option linter.unusedVariables false
set_option linter.unusedSimpArgs false

section
variable {w0 w w' : World} {L M : List Assn} {A : Assn} {g : Nat} {s : SoM}
theorem SoB.add {bv : Value} (h : SoB w0 w L g s bv) (h' : Sat w w' M) : SoB w0 w' (M ++ L) g s bv := by
  obtain ⟨wa, wc, ta, tc, hbv, h1⟩ := h
  refine ⟨wa, wc, ta, tc, hbv, ?_⟩
  have h2 := h1.trans h'
  refine Sat.perm ?_ h2
  show (M ++ ([_, _, _, _] ++ L)).Perm ([_, _, _, _] ++ (M ++ L))
  rw [← List.append_assoc, ← List.append_assoc]
  exact List.Perm.append_right L List.perm_append_comm
theorem SoB.drop {bv : Value} (h : SoB w0 w (A :: L) g s bv) : SoB w0 w L g s bv := by
  obtain ⟨wa, wc, ta, tc, hbv, h1⟩ := h
  exact ⟨wa, wc, ta, tc, hbv, (Sat.front [_, _, _, _] h1).drop⟩
theorem SoB.re {bv : Value} {L' : List Assn} (hp : L.Perm L') (h : SoB w0 w L g s bv) : SoB w0 w L' g s bv := by
  obtain ⟨wa, wc, ta, tc, hbv, h1⟩ := h
  exact ⟨wa, wc, ta, tc, hbv, Sat.perm (List.Perm.append_left [_, _, _, _] hp) h1⟩
theorem SoB.rd {t : TypeId} {bv v : Value} {l : List UInt8} (h : SoB w0 w (OwnB t v l :: L) g s bv) : RdB w v l := by
  obtain ⟨wa, wc, ta, tc, hbv, h1⟩ := h
  exact OwnB.rd (Sat.front [_, _, _, _] h1)
theorem SoB.back {bv : Value} (h : SoB w0 w L g s bv) : RdB w bv s.back := by
  obtain ⟨wa, wc, ta, tc, hbv, h1⟩ := h
  exact OwnB.rd (Sat.front [_, _, _] h1)
theorem SoB.form {bv : Value} (h : SoB w0 w L g s bv) : ∃ a c, bv = .slice a s.back.length c := by
  obtain ⟨wa, wc, ta, tc, ⟨ba, bc, e⟩, h1⟩ := h
  exact ⟨ba, bc, e⟩
theorem SoS.rest (h : SoS w0 w L g s) : Sat w0 w L := by
  obtain ⟨wa, wc, ta, tc, ba, bc, h1⟩ := h
  exact h1.drop.drop.drop.drop
theorem str_conv {v : Value} {l : List UInt8} (h : RdB w v l) : (convert 22 9 v).run Try.prog w = .ok (.string (strOf l)) w := conv_rd Try.underlying22 Try.underlying5 Try.underlying9 h

theorem fld_port (k v n p : Value) (W : World) : (Instr.field 33 (.agg #[k, v, n, p]) 3).run Try.prog W = .ok p W := by kernel_rfl
def aw1 : SoM := SoM.fresh ⟨#[]⟩ ⟨#[]⟩
def aw2 : SoM := ⟨⟨#[]⟩, ⟨#[]⟩, 2, [], AdM.zero, [5, 0]⟩
def aw3 : SoM := ⟨⟨#[]⟩, ⟨#[]⟩, 3, [], ⟨1, [1, 2, 3, 4], ⟨#[]⟩, 80⟩, []⟩
theorem aw12 : aw1.feed [5, 1, 0] = aw2 := by kernel_rfl
theorem aw23 : aw2.feed [5, 1, 0, 1, 1, 2, 3, 4, 0, 80] = aw3 := by kernel_rfl
set_option maxRecDepth 100000 in
set_option maxHeartbeats 2000000 in
theorem so_awake (hs : Sat w0 w L) : Calls Try.prog 10 #[] w fun e w' => e = .returned (.bool true) ∧ Sat w0 w' L := by
  have e50 : ((strOf [5, 0]).toList == [5, 0]) = true := by decide +kernel
  go_enter Try.func10, Try.ntmps10
  go_wp2_with fail
  refine (so_New ⟨#[]⟩ ⟨#[]⟩ hs).mono ?_
  rintro _ w1 ⟨g, rfl, h1⟩
  obtain ⟨bv, h2⟩ := SoB.of (h1.add (OwnB.ofNew (l := [5, 1, 0]) (n := 3) ((Sat.refl w1).alloc (.cells #[.int .u8 5, .int .u8 1, .int .u8 0] 5 (0, 0))) rfl rfl (by omega)))
  clear h1
  go_wp2_with fail
  refine (so_feed_on (s := aw1) (by decide) (by decide) (by decide) h2 (Vw.own (L := L) [])).mono ?_
  rintro _ w2 ⟨b2, rfl, h3⟩
  rw [aw12] at h3
  replace h3 := h3.drop.drop
  obtain ⟨a2, c2, hf2⟩ := h3.form
  replace hf2 : b2 = .slice a2 2 c2 := hf2
  subst hf2
  have h4 := h3.add (OwnB.ofNew (l := [5, 1, 0, 1, 1, 2, 3, 4, 0, 80]) (n := 10) ((Sat.refl w2).alloc (.cells #[.int .u8 5, .int .u8 1, .int .u8 0, .int .u8 1, .int .u8 1, .int .u8 2, .int .u8 3, .int .u8 4, .int .u8 0, .int .u8 80] 5 (0, 0))) rfl rfl (by omega))
  clear h2 h3
  go_wp2_with fail
  refine (so_feed_on (s := aw2) (by decide) (by decide) (by decide) h4 (Vw.own (L := L) [])).mono ?_
  rintro _ w3 ⟨b3, rfl, h5⟩
  rw [aw23] at h5
  have hc : (convert 22 9 (.slice a2 2 c2)).run Try.prog w3 = .ok (.string (strOf [5, 0])) w3 := str_conv h5.rd
  obtain ⟨a3, c3, hf3⟩ := h5.form
  replace hf3 : b3 = .slice a3 0 c3 := hf3
  subst hf3
  replace h5 := h5.drop.drop.to
  have hS := so_State h5
  rw [show aw3.state = 3 from rfl] at hS
  have hA := so_Addr (by decide) h5
  rw [show aw3.dest = ⟨1, [1, 2, 3, 4], ⟨#[]⟩, 80⟩ from rfl] at hA
  dsimp only at hA
  clear h4
  have hfd := fun (v : Value) (W : World) => fld_port (.int .i64 1) v (.string ⟨#[]⟩) (.int .i64 80) W
  go_wp2_with fail
  refine hS.mono ?_
  rintro _ _ ⟨rfl, rfl⟩
  go_wp2_with fail
  refine hA.mono ?_
  rintro _ w4 ⟨a, c, rfl, h6⟩
  have h7 := h5.rest.trans h6
  go_wp2_with fail
  go_ret
  exact ⟨rfl, h7.drop⟩
end
end Go.Proofs.Ythfdejgckcoohaa
