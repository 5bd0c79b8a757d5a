/- A contract over pieces tells that all else stays: the frame, made of all that a piece does not own; general. -/
import Derived.Test.YtkejadhkebjdcaaOwn
namespace Go.Proofs.Ytkejadhkebjdcaa
open Go Go.RowKit
set_option linter.unusedVariables false

/-- All of w's blocks from n on that h does not own, as they lie. -/
def Rest (n : Nat) (w : World) (h : Hp) : Assn := fun r => ∀ b, n ≤ b → b < w.heap.size → h b = none → r b = w.heap[b]?
theorem Sat.rest {w0 w : World} {A : Assn} {h : Hp} (hb : Below w0.heap.size w0 w) (hA : A h) (hin : ∀ b o, h b = some o → w.heap[b]? = some o ∧ w0.heap.size ≤ b) : Sat w0 w [A, Rest w0.heap.size w h] := by
  refine ⟨hb, h, hA, fun b o hbo => ⟨(hin b o hbo).1, fun hX => ?_⟩, fun b => if w0.heap.size ≤ b ∧ h b = none then w.heap[b]? else none, fun b h1 h2 h3 => if_pos ⟨h1, h3⟩, fun b o hbo => ?_, trivial⟩
  · have := (hin b o hbo).2
    have hX : b < w0.heap.size := hX
    omega
  · have hbo : (if w0.heap.size ≤ b ∧ h b = none then w.heap[b]? else none) = some o := hbo
    split at hbo
    · rename_i hc
      refine ⟨hbo, ?_⟩
      rintro (hX | hX)
      · have hX : b < w0.heap.size := hX
        omega
      · exact hX hc.2
    · cases hbo
/-- What is told of the world behind the call. -/
theorem Sat.unrest {w0 w w' : World} {B : Assn} {h : Hp} (hb : Below w0.heap.size w0 w) (hs : Sat w0 w' [B, Rest w0.heap.size w h]) :
    Below w0.heap.size w0 w' ∧ (∀ b, b < w.heap.size → h b = none → w'.heap[b]? = w.heap[b]?) ∧
      ∃ h', B h' ∧ (∀ b o, h' b = some o → w'.heap[b]? = some o ∧ w0.heap.size ≤ b) ∧ ∀ b, h' b ≠ none → h b ≠ none ∨ w.heap.size ≤ b := by
  obtain ⟨hb', h', hB, l1, r, hr, l2, _⟩ := hs
  have key : ∀ b, w0.heap.size ≤ b → b < w.heap.size → h b = none → w'.heap[b]? = w.heap[b]? ∧ h' b = none := by
    intro b h1 h2 h3
    have h4 := hr b h1 h2 h3
    have h5 : w.heap[b]? = some w.heap[b] := Array.getElem?_eq_getElem h2
    rw [h5] at h4
    obtain ⟨h6, h7⟩ := l2 b _ h4
    refine ⟨by rw [h5]; exact h6, ?_⟩
    cases h8 : h' b with
    | none => rfl
    | some o => exact absurd (.inr (by simp [h8])) h7
  refine ⟨hb', fun b h1 h2 => ?_, h', hB, fun b o hbo => ⟨(l1 b o hbo).1, ?_⟩, fun b hbn => ?_⟩
  · rcases Nat.lt_or_ge b w0.heap.size with h3 | h3
    · rw [hb'.block b h3, hb.block b h3]
    · exact (key b h3 h1 h2).1
  · have := (l1 b o hbo).2
    exact Nat.le_of_not_lt fun h => this h
  · rcases Nat.lt_or_ge b w.heap.size with h1 | h1
    · left
      intro h2
      cases h3 : h' b with
      | none => exact hbn h3
      | some o =>
        have h4 : w0.heap.size ≤ b := Nat.le_of_not_lt fun h => (l1 b o h3).2 h
        exact hbn (key b h4 h1 h2).2
    · exact .inr h1
/-- Any pieces beside one: put by, and given back behind what is done with that one. -/
theorem Sat.lift {w0 w : World} {A : Assn} {L : List Assn} (hs : Sat w0 w (A :: L)) : ∃ h, Sat w0 w [A, Rest w0.heap.size w h] ∧ ∀ Z B, Sat w0 Z [B, Rest w0.heap.size w h] → Sat w0 Z (B :: L) := by
  obtain ⟨hb, h, hA, l1, hr⟩ := hs
  refine ⟨h, Sat.rest hb hA fun b o hbo => ⟨(l1 b o hbo).1, Nat.le_of_not_lt fun hlt => (l1 b o hbo).2 hlt⟩, fun Z B hZ => ?_⟩
  obtain ⟨hbZ, hk, h', hB, hin, hd⟩ := Sat.unrest hb hZ
  refine ⟨hbZ, h', hB, fun b o hbo => ⟨(hin b o hbo).1, fun hX => by have hX : b < w0.heap.size := hX; have := (hin b o hbo).2; omega⟩, SatX.mono hr (fun b o hbo hX => ?_) (fun b hbn hX => ?_)⟩
  · have h1 : w.heap[b]? = some o := hbo
    have hlt := (Array.getElem?_eq_some_iff.1 h1).1
    have h2 : h b = none := by
      cases h3 : h b with
      | none => rfl
      | some o' => exact absurd (.inr (by simp [h3])) hX
    exact (hk b hlt h2).trans h1
  · rcases hX with hX | hX
    · exact .inl hX
    · rcases hd b hX with h3 | h3
      · exact .inr h3
      · exfalso
        apply hbn
        unfold lkOf
        rw [Array.getElem?_eq_none]
        exact h3
end Go.Proofs.Ytkejadhkebjdcaa
