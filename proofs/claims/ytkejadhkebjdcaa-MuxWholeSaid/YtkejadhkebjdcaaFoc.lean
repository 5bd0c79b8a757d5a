/- One element of an owned list of elements, taken out and put back; general. -/
import Derived.Test.YtkejadhkebjdcaaFrM
namespace Go.Proofs.Ytkejadhkebjdcaa
open Go Go.RowKit
set_option linter.unusedVariables false
set_option linter.unusedSimpArgs false
section
variable {w0 w : World} {L : List Assn}
theorem OwnL.focus {α : Type} {e : TypeId} {sz : Nat} {El : α → List Value → Assn} {v : Value} {l : List α} (h : Sat w0 w (OwnL e sz El v l :: L)) {i : Nat} {x : α} (hi : l[i]? = some x) :
    ∃ b off cap cs R, v = .slice (some ⟨b, off, none⟩) l.length cap ∧ cs.length = sz ∧ (∀ (W : World) (L' : List Assn), Sat w0 W (L' ++ (El x cs :: (R ++ L))) → ∀ j u, cs[j]? = some u → W.cell? ⟨b, off + i * sz + j, none⟩ = some u) ∧
      Sat w0 w (El x cs :: (R ++ L)) ∧ ∀ (W : World) (N : List Assn), Sat w0 W (El x cs :: (R ++ N)) → Sat w0 W (OwnL e sz El v l :: N) := by
  obtain ⟨css, h2, h3, h4⟩ := OwnL.opn h
  have hil : i < l.length := (List.getElem?_eq_some_iff.1 hi).1
  obtain ⟨b, off, cap, rfl, hb, _, hc, _⟩ := OwnS.cells h4 (by omega)
  have hci : css[i]? = some css[i] := List.getElem?_eq_getElem (by omega)
  have hz : (List.zipWith El l css)[i]? = some (El x css[i]) := by
    rw [List.getElem?_zipWith, hi, hci]
  have hsp : List.zipWith El l css = (List.zipWith El l css).take i ++ El x css[i] :: (List.zipWith El l css).drop (i + 1) := by
    have hz2 : (List.zipWith El l css)[i]'((List.getElem?_eq_some_iff.1 hz).1) = El x css[i] := (List.getElem?_eq_some_iff.1 hz).2
    rw [← hz2, List.getElem_cons_drop, List.take_append_drop]
  generalize hA : (List.zipWith El l css).take i = A at hsp
  generalize hB : (List.zipWith El l css).drop (i + 1) = B at hsp
  have hcl : css[i].length = sz := h3 _ (List.getElem_mem _)
  refine ⟨b, off, cap, css[i], OwnS e sz (.slice (some ⟨b, off, none⟩) l.length cap) l.length css.flatten :: (A ++ B), rfl, hcl, ?_, ?_, ?_⟩
  · intro W L' hW j u hj
    have hjl : j < sz := by
      have := (List.getElem?_eq_some_iff.1 hj).1
      rw [hcl] at this
      exact this
    have h5 : Sat w0 W (OwnS e sz (.slice (some ⟨b, off, none⟩) l.length cap) l.length css.flatten :: ((L' ++ [El x css[i]]) ++ ((A ++ B) ++ L))) := by
      refine Sat.front (L' ++ [El x css[i]]) ?_
      simpa using hW
    obtain ⟨b', off', cap', he, _, _, hc', _⟩ := OwnS.cells h5 (by omega)
    injection he with he _ _
    injection he with he
    injection he with e1 e2 _
    subst e1 e2
    rw [Nat.add_assoc]
    exact hc' _ u ((flatten_get h3 hci hjl).trans hj)
  · rw [hsp] at h4
    have h5 : Sat w0 w ((OwnS e sz (.slice (some ⟨b, off, none⟩) l.length cap) l.length css.flatten :: A) ++ El x css[i] :: (B ++ L)) := by simpa using h4
    have h6 := Sat.front _ h5
    simpa using h6
  · intro W N hW
    refine OwnL.shut h2 h3 ?_
    rw [hsp]
    have h5 : Sat w0 W (El x css[i] :: ((OwnS e sz (.slice (some ⟨b, off, none⟩) l.length cap) l.length css.flatten :: A) ++ (B ++ N))) := by simpa using hW
    have h6 := Sat.back _ h5
    simpa using h6
/-- A frame of frames that are owned, its bytes laid open. -/
theorem FramesA.focus {v : Value} {l : List FrM} (h : Sat w0 w (FramesA v l :: L)) {i : Nat} {f : FrM} (hi : l[i]? = some f) :
    ∃ b off cap x z c k R, v = .slice (some ⟨b, off, none⟩) l.length cap ∧ (∀ (W : World) (L' : List Assn), Sat w0 W (L' ++ (OwnB 5 (.slice x f.addr.ip.length c) f.addr.ip :: OwnB 5 (.slice z f.data.length k) f.data :: (R ++ L))) → RdFr W b (off + i * 9) f (.slice x f.addr.ip.length c) (.slice z f.data.length k)) ∧
      Sat w0 w (OwnB 5 (.slice x f.addr.ip.length c) f.addr.ip :: OwnB 5 (.slice z f.data.length k) f.data :: (R ++ L)) ∧
      ∀ (W : World) (N : List Assn), Sat w0 W (OwnB 5 (.slice x f.addr.ip.length c) f.addr.ip :: OwnB 5 (.slice z f.data.length k) f.data :: (R ++ N)) → Sat w0 W (FramesA v l :: N) := by
  obtain ⟨b, off, cap, cs, R, rfl, hl, hc, h1, hu⟩ := OwnL.focus h hi
  obtain ⟨ip, d, rfl, h2⟩ := FrE.opn h1
  obtain ⟨x, c, rfl, _, _⟩ := OwnS.form h2
  obtain ⟨z, k, rfl, _, _⟩ := OwnS.form h2.drop
  refine ⟨b, off, cap, x, z, c, k, R, rfl, fun W L' hW => ?_, h2, fun W N hW => hu W N (FrE.shut hW)⟩
  refine ⟨fun j u hj => ?_, OwnB.rd (Sat.front L' hW), OwnB.rd (Sat.front L' (Sat.front L' hW).drop)⟩
  have h3 : Sat w0 W (FrE f (frC f (.slice x f.addr.ip.length c) (.slice z f.data.length k)) :: (L' ++ (R ++ L))) := by
    have h4 := Sat.front L' hW
    have h5 : Sat w0 W (_ :: ((_ :: L') ++ (R ++ L))) := Sat.front (_ :: L') (h4 : Sat w0 W ((_ :: L') ++ _))
    exact FrE.shut h5.swap
  exact hc W L' (Sat.back L' h3) j u hj
end
end Go.Proofs.Ytkejadhkebjdcaa
