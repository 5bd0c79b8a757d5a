/- What a round keeps that appends to a slice in a box of its own: blocks laid since the loop began, but for that slice's; general. -/
import Derived.Test.YtkejadhkebjdcaaOwn
import Derived.RangeFuncBox
namespace Go.Proofs.Ytkejadhkebjdcaa
open Go Go.RowKit
set_option linter.unusedVariables false

/-- The block of the slice that lies in the box o. -/
def outBlk (o : Nat) (W : World) : Option Nat := (W.cell? ⟨o, 0, none⟩).bind Value.ownBlock
structure KpO (o B : Nat) (W W' : World) : Prop where
  size : W.heap.size ≤ W'.heap.size
  same : ∀ k cs t fr, B ≤ k → W.heap[k]? = some (.cells cs t fr) → outBlk o W ≠ some k → W'.heap[k]? = W.heap[k]?
  out : ∀ k, outBlk o W' = some k → outBlk o W = some k ∨ W.heap.size ≤ k
def SafeO (o B : Nat) (W : World) (k : Nat) : Prop := (∃ cs t fr, W.heap[k]? = some (.cells cs t fr)) ∧ B ≤ k ∧ outBlk o W ≠ some k
theorem KpO.trans {o B : Nat} {X Y Z : World} (h : KpO o B X Y) (h' : KpO o B Y Z) : KpO o B X Z where
  size := Nat.le_trans h.size h'.size
  same := fun k cs t fr hk hc ho => by
    have h1 := h.same k cs t fr hk hc ho
    refine (h'.same k cs t fr hk (h1.trans hc) fun e => ?_).trans h1
    rcases h.out k e with h2 | h2
    · exact ho h2
    · have := (Array.getElem?_eq_some_iff.1 hc).1; omega
  out := fun k e => by
    rcases h'.out k e with h2 | h2
    · exact h.out k h2
    · exact .inr (Nat.le_trans h.size h2)
theorem KpO.safe {o B : Nat} : ∀ W W' k, KpO o B W W' → SafeO o B W k → W'.heap[k]? = W.heap[k]? ∧ SafeO o B W' k := by
  rintro W W' k h ⟨⟨cs, t, fr, hc⟩, hk, ho⟩
  have h1 := h.same k cs t fr hk hc ho
  refine ⟨h1, ⟨cs, t, fr, h1.trans hc⟩, hk, fun e => ?_⟩
  rcases h.out k e with h2 | h2
  · exact ho h2
  · have := (Array.getElem?_eq_some_iff.1 hc).1; omega
theorem kpO_b {o B : Nat} (h1 : o < B) : ∀ (W : World) (l : Nat) (x x' : Obj), B ≤ l → W.heap[l]? = some x → x.isCells = false → x.isWalk = false → KpO o B W (W.putObj l x') := by
  intro W l x x' hl hx hc _
  have e : ∀ k, k ≠ l → (W.putObj l x').heap[k]? = W.heap[k]? := fun k hk => World.putObj_heap_other (by omega)
  have eo : outBlk o (W.putObj l x') = outBlk o W := by
    unfold outBlk
    rw [World.cell?_of_block (a := ⟨o, 0, none⟩) (e o (by omega))]
  refine ⟨by simp, fun k cs t fr hk hcs _ => e k (fun h => ?_), fun k hk => .inl (by rw [eo] at hk; exact hk)⟩
  subst h
  rw [hcs] at hx
  cases hx
  cases hc
theorem safeO_start {o B : Nat} {w : World} (ho : o < w.heap.size) (hB : B = w.heap.size) (hn : outBlk o w = none) : ∀ W1 k cs t fr, Below w.heap.size w W1 → w.heap.size ≤ k → W1.heap[k]? = some (.cells cs t fr) → SafeO o B W1 k := by
  intro W1 k cs t fr hb hk hc
  refine ⟨⟨cs, t, fr, hc⟩, by omega, ?_⟩
  have : outBlk o W1 = outBlk o w := by
    unfold outBlk
    rw [hb.cell (p := ⟨o, 0, none⟩) ho]
  rw [this, hn]
  simp
/-- The round that appends to the slice in the box. -/
theorem KpO.appended {o B : Nat} {W w1 : World} {t : TypeId} {v v' : Value} {tmp : Obj} (hv : Boxed W o t v) (ho : o < B) (hb : Boxed (w1.setCell ⟨o, 0, none⟩ v') o t v')
    (hgrow : (W.alloc tmp).grownBy w1 v.ownBlock) (hat : v'.ownBlock = v.ownBlock ∨ v'.ownBlock = some (W.heap.size + 1)) : KpO o B W (w1.setCell ⟨o, 0, none⟩ v') := by
  have e1 : outBlk o W = v.ownBlock := by unfold outBlk; rw [hv.cell]; rfl
  have e2 : outBlk o (w1.setCell ⟨o, 0, none⟩ v') = v'.ownBlock := by unfold outBlk; rw [hb.cell]; rfl
  have hsz : W.heap.size ≤ w1.heap.size := by have := hgrow.size; simp at this; omega
  refine ⟨by rw [setCell_size]; exact hsz, fun k cs t fr hk hc hne => ?_, fun k hk => ?_⟩
  · rw [e1] at hne
    have hlt : k < W.heap.size := (Array.getElem?_eq_some_iff.1 hc).1
    have h1 : (w1.setCell ⟨o, 0, none⟩ v').heap[k]? = w1.heap[k]? := Below.heap_setCell _ _ _ k (by intro e; simp at e; omega)
    rw [h1, hgrow.block k (by simp; omega) (fun e => hne e.symm)]
    exact Below.heap_alloc _ _ k hlt
  · rw [e2] at hk
    rcases hat with h | h
    · exact .inl (by rw [e1, ← h]; exact hk)
    · rw [h] at hk
      injection hk with hk
      exact .inr (by omega)
/-- What a row owns, as a piece. -/
theorem OwnS.ofRow {w w' : World} {e : TypeId} {sz n : Nat} {v : Value} {xs : List Value} (hb : Below w.heap.size w w') (h : w'.ownsRow w.heap.size e sz v n xs) : Sat w w' [OwnS e sz v n xs] := by
  refine ⟨hb, ?_⟩
  rcases h.2 with ⟨rfl, rfl⟩ | ⟨g, cap, cur, rfl, h1, hg, h2, h3, h4, h5⟩
  · exact ⟨fun _ => none, ⟨h.1, .inl ⟨rfl, rfl⟩⟩, by simp, trivial⟩
  · refine ⟨fun k => if k = g then some (.cells cur e (0, 0)) else none, ⟨h.1, .inr ⟨g, 0, cap, cur, rfl, by simp, h2, h3, by omega, by simpa using h5⟩⟩, fun k o hk => ?_, trivial⟩
    by_cases hkg : k = g
    · subst hkg
      simp at hk
      rw [← hk]
      exact ⟨hg, fun hlt => by have : k < w.heap.size := hlt; omega⟩
    · simp [hkg] at hk
end Go.Proofs.Ytkejadhkebjdcaa
