/- A slice of structs that is handed in, opened: one opener of its elements gives the list of them. -/
import Derived.Test.YtkejadhkebjdcaaChecked
import Derived.Test.YtkejadhkebjdcaaSl
import Derived.Test.YtkejadhkebjdcaaMem
import Derived.ProofKit
import Derived.OpenShut
import Derived.Deep.Slices
import Derived.Deep.Fields
namespace Go.Proofs.Ytkejadhkebjdcaa
open Go Go.RowKit Go.ChangeShapes Go.WideShapes Go.Deep
set_option linter.unusedVariables false
set_option linter.unusedSimpArgs false

theorem choose_listL {α : Type} {n : Nat} {P : Nat → α → Prop} : (∀ i, i < n → ∃ x, P i x) → ∃ l : List α, l.length = n ∧ ∀ i x, l[i]? = some x → P i x := by
  induction n with
  | zero => exact fun _ => ⟨[], rfl, fun i x h => by simp at h⟩
  | succ n ih =>
    intro h
    obtain ⟨l, hl, hp⟩ := ih (fun i hi => h i (by omega))
    obtain ⟨x, hx⟩ := h n (by omega)
    refine ⟨l ++ [x], by simp [hl], fun i y hy => ?_⟩
    by_cases hi : i < l.length
    · rw [List.getElem?_append_left hi] at hy
      exact hp i y hy
    · rw [List.getElem?_append_right (by omega)] at hy
      have : i - l.length = 0 := by
        rcases Nat.eq_zero_or_pos (i - l.length) with h0 | h0
        · exact h0
        · rw [List.getElem?_eq_none (by simp; omega)] at hy; cases hy
      rw [this] at hy
      obtain rfl : x = y := by simpa using hy
      rw [show i = n by omega]
      exact hx

/-- A slice of structs, as it reads: element i's cells. -/
def RdL {α : Type} (sz : Nat) (C : α → List Value) (R : World → α → Prop) (W : World) (a : Option Addr) (cap : Nat) (l : List α) : Prop :=
  l.length ≤ cap ∧ cap ≤ maxLen ∧ ∀ i x, l[i]? = some x → ∃ b off, a = some ⟨b, off, none⟩ ∧ b < W.heap.size ∧ (∀ j u, (C x)[j]? = some u → W.cell? ⟨b, off + i * sz + j, none⟩ = some u) ∧ R W x
theorem RdL.mono {α : Type} {sz : Nat} {C : α → List Value} {R : World → α → Prop} {w w' : World} {a : Option Addr} {cap : Nat} {l : List α} (h : RdL sz C R w a cap l) (hb : Below w.heap.size w w') (hR : ∀ x, R w x → R w' x) : RdL sz C R w' a cap l := by
  obtain ⟨h1, h2, h3⟩ := h
  refine ⟨h1, h2, fun i x hi => ?_⟩
  obtain ⟨b, off, e, hlt, hc, hr⟩ := h3 i x hi
  exact ⟨b, off, e, by have := hb.size; omega, fun j u hj => by rw [hb.cell (p := ⟨b, off + i * sz + j, none⟩) hlt]; exact hc j u hj, hR x hr⟩

section
variable {H : Type} {enc : TypeId × Value → H} {W : World} {held : Bool} {fuel : Nat} {x : DataW H × List MemPlace}
theorem openList {α : Type} {sz : Nat} {C : α → List Value} {R : World → α → Prop} {te e : TypeId} {a : Option Addr} {len cap : Nat} (hu : Try.prog.underlying te = some (.slice e)) (hsz : Try.prog.cellsOf e = sz) (hpos : 0 < sz)
    (hopen : ∀ fuel cs x, DataW.trod enc Try.prog W 0 (fun _ => true) held fuel e cs = some x → ∃ y : α, cs = C y ∧ R W y)
    (hhead : ∀ y b off z v, (C y)[0]? = some v → W.cell? ⟨b, off, some z⟩ ≠ some v)
    (h : DataW.trod enc Try.prog W 0 (fun _ => true) held fuel te [.slice a len cap] = some x) : ∃ l : List α, l.length = len ∧ RdL sz C R W a cap l := by
  rcases open_slice hu h with ⟨e, _⟩ | ⟨a', len', cap', m, n, D, Pl, e, _, hl, hm, hmm, _, hi⟩
  · simp only [List.cons.injEq, and_true, Value.slice.injEq] at e
    obtain ⟨rfl, rfl, rfl⟩ := e
    exact ⟨[], rfl, Nat.le_refl _, Nat.zero_le _, fun i r h => by simp at h⟩
  · simp only [List.cons.injEq, and_true, Value.slice.injEq] at e
    obtain ⟨rfl, rfl, rfl⟩ := e
    rw [hsz] at hi
    have hm' : m = cap := by simpa using hmm
    obtain ⟨b, off, pt⟩ := a'
    have hsp : 0 < len → pt = none := fun h0 => by
      obtain ⟨cs', hc, ht⟩ := hi 0 (by omega)
      obtain ⟨y, rfl, hr⟩ := hopen _ _ _ ht
      obtain ⟨_, hcl, hat⟩ := World.cells?_some hc
      have h6 := hat 0 (by omega)
      rw [Nat.zero_mul] at h6
      unfold Addr.add at h6
      rw [if_pos rfl, if_pos rfl] at h6
      cases pt with
      | none => rfl
      | some z =>
        have h7 : (C y)[0]? = some ((C y)[0]'(by omega)) := List.getElem?_eq_getElem _
        rw [h7] at h6
        exact absurd h6 (hhead y b off z _ h7)
    have hall : ∀ i, i < len → ∃ y : α, b < W.heap.size ∧ (∀ j u, (C y)[j]? = some u → W.cell? ⟨b, off + i * sz + j, none⟩ = some u) ∧ R W y := by
      intro i hil
      obtain rfl := hsp (by omega)
      obtain ⟨cs', hc, ht⟩ := hi i (by omega)
      obtain ⟨y, rfl, hr⟩ := hopen _ _ _ ht
      obtain ⟨_, hcl, hat⟩ := World.cells?_some hc
      have hcell : ∀ j u, (C y)[j]? = some u → W.cell? ⟨b, off + i * sz + j, none⟩ = some u := fun j u hj => by
        have hj7 : j < sz := by rw [← hcl]; exact (List.getElem?_eq_some_iff.1 hj).1
        have := hat j hj7
        rw [addr_add, addr_add, hj] at this
        exact this
      exact ⟨y, World.block_lt_of_cell? W _ (hcell 0 _ (List.getElem?_eq_getElem (by omega))), hcell, hr⟩
    obtain ⟨rs, hrl, hrs⟩ := choose_listL hall
    refine ⟨rs, hrl, by omega, hm, fun i y hiy => ?_⟩
    obtain ⟨h1, h2, h3⟩ := hrs i y hiy
    have hil : i < len := by rw [← hrl]; exact (List.getElem?_eq_some_iff.1 hiy).1
    obtain rfl := hsp (by omega)
    exact ⟨b, off, rfl, h1, h2, h3⟩
end
end Go.Proofs.Ytkejadhkebjdcaa
