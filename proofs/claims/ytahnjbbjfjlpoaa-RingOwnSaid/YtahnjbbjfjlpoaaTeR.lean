/- What spoiling bytes and rules of one's own leaves as it was: plain laws of worlds. -/
import Derived.Test.YtahnjbbjfjlpoaaTeP
namespace Go.Proofs.Ytahnjbbjfjlpoaa
open Go Go.RowKit Go.Shelf
set_option linter.unusedVariables false
set_option linter.unusedSimpArgs false

/-- From X to Z: blocks before M and blocks of tenants stay; bytes stay bytes; of rules the slices stay, or become nil. -/
structure St (M : Nat) (X Z : World) : Prop where
  below : Below M X Z
  ten : ∀ (k : Nat) (cs : Array Value), X.heap[k]? = some (.cells cs 28 (0, 0)) → Z.heap[k]? = some (.cells cs 28 (0, 0))
  byt : ∀ (k : Nat) (cs : Array Value), X.heap[k]? = some (.cells cs 5 (0, 0)) → ∃ cs' : Array Value, Z.heap[k]? = some (.cells cs' 5 (0, 0)) ∧ ∀ (i : Nat) (z : Int), cs[i]? = some (.int .u8 z) → ∃ z' : Int, cs'[i]? = some (.int .u8 z')
  rul : ∀ (k : Nat) (cs : Array Value), X.heap[k]? = some (.cells cs 46 (0, 0)) → ∃ cs' : Array Value, Z.heap[k]? = some (.cells cs' 46 (0, 0)) ∧ cs'.size = cs.size ∧
    (∀ (i : Nat) x m c, cs[i]? = some (.slice x m c) → cs'[i]? = some (.slice x m c) ∨ cs'[i]? = some (.slice none 0 0)) ∧
    (∀ i : Nat, (∀ x m c, cs[i]? ≠ some (.slice x m c)) → ∀ x m c, cs'[i]? ≠ some (.slice x m c))
theorem St.refl (M : Nat) (X : World) : St M X X := ⟨Below.refl _ _, fun _ _ h => h, fun k cs h => ⟨cs, h, fun i z h => ⟨z, h⟩⟩, fun k cs h => ⟨cs, h, rfl, fun i x m c h => .inl h, fun i h => h⟩⟩
theorem St.trans {M : Nat} {X Y Z : World} (h : St M X Y) (h' : St M Y Z) : St M X Z := by
  refine ⟨h.below.trans h'.below, fun k cs hk => h'.ten k cs (h.ten k cs hk), fun k cs hk => ?_, fun k cs hk => ?_⟩
  · obtain ⟨c1, h1, h2⟩ := h.byt k cs hk
    obtain ⟨c2, h3, h4⟩ := h'.byt k c1 h1
    refine ⟨c2, h3, fun i z hz => ?_⟩
    obtain ⟨z1, h5⟩ := h2 i z hz
    exact h4 i z1 h5
  · obtain ⟨c1, h1, s1, a1, b1⟩ := h.rul k cs hk
    obtain ⟨c2, h2, s2, a2, b2⟩ := h'.rul k c1 h1
    refine ⟨c2, h2, s2.trans s1, fun i x m c hi => ?_, fun i hi => b2 i (b1 i hi)⟩
    rcases a1 i x m c hi with h | h
    · exact a2 i x m c h
    · rcases a2 i none 0 0 h with h | h <;> exact .inr h
theorem St.ofBelow {M : Nat} {X Z : World} (hM : M ≤ X.heap.size) (h : Below X.heap.size X Z) : St M X Z := by
  have hk : ∀ (k : Nat) (o : Obj), X.heap[k]? = some o → Z.heap[k]? = some o := fun k o ho => by
    rw [h.block k (Array.getElem?_eq_some_iff.1 ho).1]; exact ho
  exact ⟨h.mono hM, fun k cs h => hk k _ h, fun k cs h => ⟨cs, hk k _ h, fun i z h => ⟨z, h⟩⟩, fun k cs h => ⟨cs, hk k _ h, rfl, fun i x m c h => .inl h, fun i h => h⟩⟩
theorem other_block {X : World} {b k : Nat} {c1 c2 : Array Value} {t1 t2 : TypeId} (h1 : X.heap[b]? = some (.cells c1 t1 (0, 0))) (h2 : X.heap[k]? = some (.cells c2 t2 (0, 0))) (hne : t1 ≠ t2) : k ≠ b := by
  rintro rfl
  rw [h1] at h2
  injection h2 with h2
  injection h2 with _ e _
  exact hne e
theorem St.setU {M : Nat} {X : World} {b i : Nat} {cs : Array Value} (h : X.heap[b]? = some (.cells cs 5 (0, 0))) (hb : M ≤ b) (z : Int) : St M X (X.setCell ⟨b, i, none⟩ (.int .u8 z)) := by
  refine ⟨(Below.refl M X).setCell hb _, fun k c hk => ?_, fun k c hk => ?_, fun k c hk => ?_⟩
  · rw [heap_setCell_other _ (other_block h hk (by decide))]; exact hk
  · by_cases hkb : k = b
    · subst hkb
      rw [h] at hk
      injection hk with hk
      injection hk with e _ _
      subst e
      refine ⟨_, heap_setCell_same X k i _ h, fun j y hj => ?_⟩
      by_cases hij : i = j
      · subst hij
        have hlt := (Array.getElem?_eq_some_iff.1 hj).1
        exact ⟨z, by simp [hlt]⟩
      · exact ⟨y, by rw [Array.getElem?_setIfInBounds_ne hij]; exact hj⟩
    · exact ⟨c, by rw [heap_setCell_other _ hkb]; exact hk, fun i z h => ⟨z, h⟩⟩
  · exact ⟨c, by rw [heap_setCell_other _ (other_block h hk (by decide))]; exact hk, rfl, fun i x m c h => .inl h, fun i h => h⟩
theorem St.setR {M : Nat} {X : World} {b i : Nat} {cs : Array Value} (h : X.heap[b]? = some (.cells cs 46 (0, 0))) (hb : M ≤ b) (v : Value)
    (hv : v = .slice none 0 0 ∧ (∃ x m c, cs[i]? = some (.slice x m c)) ∨ (∀ x m c, v ≠ .slice x m c) ∧ ∀ x m c, cs[i]? ≠ some (.slice x m c)) : St M X (X.setCell ⟨b, i, none⟩ v) := by
  refine ⟨(Below.refl M X).setCell hb _, fun k c hk => ?_, fun k c hk => ?_, fun k c hk => ?_⟩
  · rw [heap_setCell_other _ (other_block h hk (by decide))]; exact hk
  · exact ⟨c, by rw [heap_setCell_other _ (other_block h hk (by decide))]; exact hk, fun i z h => ⟨z, h⟩⟩
  · by_cases hkb : k = b
    · subst hkb
      rw [h] at hk
      injection hk with hk
      injection hk with e _ _
      subst e
      refine ⟨_, heap_setCell_same X k i _ h, by simp, fun j x m c hj => ?_, fun j hj x m c => ?_⟩
      · by_cases hij : i = j
        · subst hij
          have hlt := (Array.getElem?_eq_some_iff.1 hj).1
          rcases hv with ⟨rfl, _⟩ | ⟨_, h2⟩
          · exact .inr (by simp [hlt])
          · exact absurd hj (h2 x m c)
        · exact .inl (by rw [Array.getElem?_setIfInBounds_ne hij]; exact hj)
      · by_cases hij : i = j
        · subst hij
          rcases hv with ⟨rfl, x', m', c', h2⟩ | ⟨h1, _⟩
          · exact absurd h2 (hj x' m' c')
          · intro he
            by_cases hlt : i < cs.size
            · simp [hlt] at he
              exact h1 x m c he
            · rw [Array.getElem?_eq_none (by simp; omega)] at he
              cases he
        · rw [Array.getElem?_setIfInBounds_ne hij]
          exact hj x m c
    · exact ⟨c, by rw [heap_setCell_other _ hkb]; exact hk, rfl, fun i x m c h => .inl h, fun i h => h⟩
/-- Bytes, whatever they are, in a block of bytes at M or behind it. -/
def B8 (M : Nat) (W : World) (a : Option Addr) (n : Nat) : Prop := 0 < n → ∃ (b o : Nat) (cs : Array Value), a = some ⟨b, o, none⟩ ∧ M ≤ b ∧ W.heap[b]? = some (.cells cs 5 (0, 0)) ∧ ∀ i, i < n → ∃ z : Int, cs[o + i]? = some (.int .u8 z)
theorem B8.st {M : Nat} {X Z : World} {a : Option Addr} {n : Nat} (h : B8 M X a n) (hs : St M X Z) : B8 M Z a n := by
  intro hn
  obtain ⟨b, o, cs, h1, h2, h3, h4⟩ := h hn
  obtain ⟨cs', h5, h6⟩ := hs.byt b cs h3
  refine ⟨b, o, cs', h1, h2, h5, fun i hi => ?_⟩
  obtain ⟨z, hz⟩ := h4 i hi
  exact h6 _ z hz
theorem InB.b8 {M : Nat} {W : World} {a : Option Addr} {c : Nat} {l : List UInt8} (h : InB M W (.slice a l.length c) l) : B8 M W a l.length := by
  intro hn
  obtain ⟨a', c', he, _, _, _, h4⟩ := h
  injection he with e1 _ _
  subst e1
  obtain ⟨b, o, cs, h5, h6, h7, h8⟩ := h4 hn
  exact ⟨b, o, cs, h5, h6, h7, fun i hi => ⟨_, h8 i hi⟩⟩
/-- Rules, whatever they are, in a block of rules at M or behind it. -/
def SR (M : Nat) (W : World) (a : Option Addr) (n : Nat) : Prop := ∀ i, i < n → ∃ (b o : Nat) (cs : Array Value) (x : Option Addr) (m c : Nat), a = some ⟨b, o, none⟩ ∧ M ≤ b ∧ W.heap[b]? = some (.cells cs 46 (0, 0)) ∧ o + i * 7 + 7 ≤ cs.size ∧
  cs[o + i * 7 + 2]? = some (.slice x m c) ∧ B8 M W x m ∧ m ≤ maxLen ∧ ∀ j, j < 7 → j ≠ 2 → ∀ x m c, cs[o + i * 7 + j]? ≠ some (.slice x m c)
theorem SR.st {M : Nat} {X Z : World} {a : Option Addr} {n : Nat} (h : SR M X a n) (hs : St M X Z) : SR M Z a n := by
  intro i hi
  obtain ⟨b, o, cs, x, m, c, h1, h2, h3, h4, h5, h6, hm, h7⟩ := h i hi
  obtain ⟨cs', g1, g2, g3, g4⟩ := hs.rul b cs h3
  rcases g3 _ x m c h5 with h8 | h8
  · exact ⟨b, o, cs', x, m, c, h1, h2, g1, by omega, h8, h6.st hs, hm, fun j hj hne => g4 _ (h7 j hj hne)⟩
  · exact ⟨b, o, cs', none, 0, 0, h1, h2, g1, by omega, h8, fun h => absurd h (Nat.lt_irrefl _), Nat.zero_le _, fun j hj hne => g4 _ (h7 j hj hne)⟩
theorem InR.sr {M : Nat} {W : World} {a : Option Addr} {cap : Nat} {rs : List RuleM} (h : InR M W a cap rs) : SR M W a rs.length := by
  intro i hi
  obtain ⟨b, o, cs, x, c, h1, h2, h3, h4, h5, h6⟩ := h.at_ i rs[i] (List.getElem?_eq_getElem hi)
  refine ⟨b, o, cs, x, _, c, h1, h2, h3, ?_, h4 2 _ rfl, h5.b8, ?_, fun j hj hne x m c he => ?_⟩
  · have := (Array.getElem?_eq_some_iff.1 (h4 6 _ rfl)).1
    omega
  · obtain ⟨_, _, he, h7, h8, _⟩ := h5
    omega
  · match j, hj, hne with
    | 0, _, _ => rw [h4 0 _ rfl] at he; injection he with he; cases he
    | 1, _, _ => rw [h4 1 _ rfl] at he; injection he with he; cases he
    | 3, _, _ => rw [h4 3 _ rfl] at he; injection he with he; cases he
    | 4, _, _ => rw [h4 4 _ rfl] at he; injection he with he; cases he
    | 5, _, _ => rw [h4 5 _ rfl] at he; injection he with he; cases he
    | 6, _, _ => rw [h4 6 _ rfl] at he; injection he with he; cases he
/-- The seven cells of a rule, spoilt. -/
theorem St.rule {M : Nat} {X : World} {a : Option Addr} {n i : Nat} (h : SR M X a n) (hi : i < n) {b o : Nat} (ha : a = some ⟨b, o, none⟩) {v0 v1 v3 v4 v5 v6 : Value}
    (hv : ∀ x m c, v0 ≠ .slice x m c ∧ v1 ≠ .slice x m c ∧ v3 ≠ .slice x m c ∧ v4 ≠ .slice x m c ∧ v5 ≠ .slice x m c ∧ v6 ≠ .slice x m c) :
    St M X (((((((X.setCell ⟨b, o + i * 7, none⟩ v0).setCell ⟨b, o + i * 7 + 1, none⟩ v1).setCell ⟨b, o + i * 7 + 2, none⟩ (.slice none 0 0)).setCell ⟨b, o + i * 7 + 3, none⟩ v3).setCell ⟨b, o + i * 7 + 4, none⟩ v4).setCell ⟨b, o + i * 7 + 5, none⟩ v5).setCell ⟨b, o + i * 7 + 6, none⟩ v6) := by
  have key : ∀ (Y : World) (j : Nat) (v : Value), SR M Y a n → j < 7 → j ≠ 2 → (∀ x m c, v ≠ .slice x m c) → St M Y (Y.setCell ⟨b, o + i * 7 + j, none⟩ v) := by
    intro Y j v hY hj hne hv
    obtain ⟨b', o', cs, x, m, c, h1, h2, h3, h4, h5, h6, _, h7⟩ := hY i hi
    rw [ha] at h1
    injection h1 with h1
    injection h1 with e1 e2 _
    subst e1 e2
    exact St.setR h3 h2 v (.inr ⟨hv, h7 j hj hne⟩)
  have key2 : ∀ (Y : World), SR M Y a n → St M Y (Y.setCell ⟨b, o + i * 7 + 2, none⟩ (.slice none 0 0)) := by
    intro Y hY
    obtain ⟨b', o', cs, x, m, c, h1, h2, h3, h4, h5, h6, _, h7⟩ := hY i hi
    rw [ha] at h1
    injection h1 with h1
    injection h1 with e1 e2 _
    subst e1 e2
    exact St.setR h3 h2 _ (.inl ⟨rfl, x, m, c, h5⟩)
  have s0 := key X 0 v0 h (by decide) (by decide) (fun x m c => (hv x m c).1)
  have s1 := s0.trans (key _ 1 v1 (h.st s0) (by decide) (by decide) (fun x m c => (hv x m c).2.1))
  have s2 := s1.trans (key2 _ (h.st s1))
  have s3 := s2.trans (key _ 3 v3 (h.st s2) (by decide) (by decide) (fun x m c => (hv x m c).2.2.1))
  have s4 := s3.trans (key _ 4 v4 (h.st s3) (by decide) (by decide) (fun x m c => (hv x m c).2.2.2.1))
  have s5 := s4.trans (key _ 5 v5 (h.st s4) (by decide) (by decide) (fun x m c => (hv x m c).2.2.2.2.1))
  exact s5.trans (key _ 6 v6 (h.st s5) (by decide) (by decide) (fun x m c => (hv x m c).2.2.2.2.2))
end Go.Proofs.Ytahnjbbjfjlpoaa
