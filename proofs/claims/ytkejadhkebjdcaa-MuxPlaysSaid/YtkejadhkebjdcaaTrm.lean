/- Pieces that need blocks of some kinds alone; general. -/
import Derived.Test.YtkejadhkebjdcaaOwn
import Derived.Test.YtkejadhkebjdcaaSeqK
namespace Go.Proofs.Ytkejadhkebjdcaa
open Go Go.RowKit
set_option linter.unusedVariables false

/-- A piece without the blocks that p does not want. -/
def keepP (p : Nat → Obj → Bool) (h : Hp) : Hp := fun b => (h b).filter (p b)
section
variable {p : Nat → Obj → Bool}
theorem keepP_some {h : Hp} {b : Nat} {o : Obj} (hb : keepP p h b = some o) : h b = some o ∧ p b o = true := Option.filter_eq_some_iff.1 hb
theorem keepP_of {h : Hp} {b : Nat} {o : Obj} (hb : h b = some o) (ho : p b o = true) : keepP p h b = some o := Option.filter_eq_some_iff.2 ⟨hb, ho⟩
/-- A piece that needs such blocks alone. -/
def Tr (p : Nat → Obj → Bool) (A : Assn) : Prop := ∀ h, A h → A (keepP p h)
theorem Tr.blk {b : Nat} {o : Obj} (ho : p b o = true) : Tr p (Blk b o) := fun h hh => keepP_of hh ho
theorem Tr.ownS {e : TypeId} (he : ∀ b cs, p b (.cells cs e (0, 0)) = true) (sz : Nat) (v : Value) (n : Nat) (xs : List Value) : Tr p (OwnS e sz v n xs) := by
  rintro h ⟨h1, h2 | ⟨g, off, cap, cur, e1, e2, e3⟩⟩
  · exact ⟨h1, .inl h2⟩
  · exact ⟨h1, .inr ⟨g, off, cap, cur, e1, keepP_of e2 (he _ _), e3⟩⟩
theorem Tr.ex {α : Type} {F : α → Assn} (hF : ∀ x, Tr p (F x)) : Tr p (fun h => ∃ x, F x h) := fun h ⟨x, hx⟩ => ⟨x, hF x h hx⟩
theorem Tr.pure {q : Prop} {A : Assn} (hA : Tr p A) : Tr p (fun h => q ∧ A h) := fun h ⟨hp, hx⟩ => ⟨hp, hA h hx⟩
theorem SatX.keep {lk : Hp} : ∀ {L : List Assn} {X : Nat → Prop}, (∀ A ∈ L, Tr p A) → SatX lk X L → SatX (keepP p lk) X L
  | [], _, _, _ => trivial
  | A :: L, X, hL, ⟨h1, hA, l1, hr⟩ => by
    refine ⟨keepP p h1, hL A (List.mem_cons_self ..) h1 hA, fun b o hb => ?_, (SatX.keep (fun B hB => hL B (List.mem_cons_of_mem _ hB)) hr).anti ?_⟩
    · obtain ⟨h2, h3⟩ := keepP_some hb
      exact ⟨keepP_of (l1 b o h2).1 h3, (l1 b o h2).2⟩
    · rintro b (hX | hn)
      · exact .inl hX
      · right
        intro h0
        apply hn
        unfold keepP
        rw [h0]
        rfl
theorem Tr.star {L : List Assn} (hL : ∀ A ∈ L, Tr p A) : Tr p (Star L) := fun h hh => SatX.keep hL hh
theorem Tr.ownL {α : Type} {e : TypeId} {sz : Nat} {El : α → List Value → Assn} (he : ∀ b cs, p b (.cells cs e (0, 0)) = true) (hE : ∀ a cs, Tr p (El a cs)) (v : Value) (l : List α) : Tr p (OwnL e sz El v l) := by
  rintro h ⟨css, h1, h2⟩
  refine ⟨css, h1, Tr.star (fun A hA => ?_) h h2⟩
  rcases List.mem_cons.1 hA with rfl | hA
  · exact Tr.ownS he _ _ _ _
  · obtain ⟨i, hi, rfl⟩ := List.getElem_of_mem hA
    rw [List.getElem_zipWith]
    exact hE _ _
/-- Pieces stay where such blocks stay. -/
theorem Sat.kelP {w0 X Z : World} {L : List Assn} (h : Sat w0 X L) (hL : ∀ A ∈ L, Tr p A) (hb : Below w0.heap.size X Z) (hk : ∀ b o, X.heap[b]? = some o → p b o = true → Z.heap[b]? = some o) : Sat w0 Z L :=
  ⟨h.1.trans hb, SatX.mono (SatX.keep hL h.2) (fun b o hbo _ => by
    obtain ⟨h1, h2⟩ := keepP_some hbo
    exact hk b o h1 h2) (fun _ _ h => h)⟩
/-- All other blocks from n on, as they lie. -/
def Oth (p : Nat → Obj → Bool) (n : Nat) (X : World) : Assn := fun r => ∀ b o, n ≤ b → X.heap[b]? = some o → p b o = false → r b = some o
theorem Sat.oth {w0 X : World} {L : List Assn} (h : Sat w0 X L) (hL : ∀ A ∈ L, Tr p A) : Sat w0 X (Oth p w0.heap.size X :: L) := by
  refine ⟨h.1, fun b => if w0.heap.size ≤ b then (X.heap[b]?).filter (fun o => !(p b o)) else none, fun b o h1 h2 h3 => ?_, fun b o hb => ?_, ?_⟩
  · show (if w0.heap.size ≤ b then _ else none) = _
    rw [if_pos h1]
    exact Option.filter_eq_some_iff.2 ⟨h2, by rw [h3]; rfl⟩
  · have hb2 : (if w0.heap.size ≤ b then (X.heap[b]?).filter (fun o => !(p b o)) else none) = some o := hb
    by_cases h1 : w0.heap.size ≤ b
    · rw [if_pos h1] at hb2
      exact ⟨(Option.filter_eq_some_iff.1 hb2).1, fun hX => by have hX : b < w0.heap.size := hX; omega⟩
    · rw [if_neg h1] at hb2
      cases hb2
  · have key : ∀ (L : List Assn) (Y : Nat → Prop), SatX (keepP p (lkOf X)) Y L → SatX (lkOf X) (fun b => Y b ∨ (if w0.heap.size ≤ b then (X.heap[b]?).filter (fun o => !(p b o)) else none) ≠ none) L := by
      intro L
      induction L with
      | nil => intro Y _; trivial
      | cons A L ih =>
        rintro Y ⟨h1, hA, l1, hr⟩
        refine ⟨h1, hA, fun b o hb => ?_, (ih _ hr).anti ?_⟩
        · obtain ⟨h2, h3⟩ := l1 b o hb
          obtain ⟨h4, h5⟩ := keepP_some h2
          refine ⟨h4, ?_⟩
          rintro (h6 | h6)
          · exact h3 h6
          · apply h6
            split
            · rw [show X.heap[b]? = some o from h4, Option.filter_some, h5]; rfl
            · rfl
        · rintro b ((h | h) | h)
          · exact .inl (.inl h)
          · exact .inr h
          · exact .inl (.inr h)
    exact key L _ (SatX.keep hL h.2)
/-- What is told of them behind a call. -/
theorem Sat.othO {w0 X Z : World} {L : List Assn} {n : Nat} (h : Sat w0 Z (Oth p n X :: L)) {b : Nat} {o : Obj} (hn : n ≤ b) (hb : X.heap[b]? = some o) (hp : p b o = false) : Z.heap[b]? = some o := by
  obtain ⟨_, r, hr, l1, _⟩ := h
  exact (l1 b o (hr b o hn hb hp)).1
end
end Go.Proofs.Ytkejadhkebjdcaa
