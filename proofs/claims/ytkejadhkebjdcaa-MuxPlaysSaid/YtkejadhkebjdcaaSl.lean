/- A small separation logic over the model's worlds: what a walk owns, as a list of pieces of the heap; general laws, no program in sight. -/
import Derived.WalkKit
import Derived.WalkSpells
import Derived.WalkLawsBesides
import Derived.Deep.QuietTactic
import Derived.BigQuiet
namespace Go.Proofs.Ytkejadhkebjdcaa
open Go Go.RowKit
set_option linter.unusedVariables false
set_option linter.unusedSimpArgs false

/-! ### min and max, as Int has them -/
theorem w_max {P : Program} (w : World) (ts : Array TypeId) (t : TypeId) (k k' : IntKind) (x y : Int) : (Builtin.max_ ts t #[.int k x, .int k' y]).run P w = .ok (.int k (max x y)) w := by
  rw [run_max_int2]
  congr 2
  by_cases h : y > x
  · rw [if_pos h]; omega
  · rw [if_neg h]; omega
theorem w_min {P : Program} (w : World) (ts : Array TypeId) (t : TypeId) (k k' : IntKind) (x y : Int) : (Builtin.min_ ts t #[.int k x, .int k' y]).run P w = .ok (.int k (min x y)) w := by
  rw [run_min_int2]
  congr 2
  by_cases h : y < x
  · rw [if_pos h]; omega
  · rw [if_neg h]; omega
attribute [go_sem high] w_max w_min

/-! ### int(uint64(x) % m) -/
theorem u64_wrap_nonneg (x : Int) : 0 ≤ IntKind.u64.wrap x := by
  unfold IntKind.wrap
  simp only [IntKind.signed, IntKind.bits, Bool.false_and, Bool.false_eq_true, if_false]
  omega
theorem um_bd (x : Int) {m : Int} (h : 0 < m) (h' : m ≤ 9223372036854775807) : 0 ≤ wrap64 ((IntKind.u64.wrap x).tmod m) ∧ wrap64 ((IntKind.u64.wrap x).tmod m) < m := by
  have h1 := u64_wrap_nonneg x
  generalize IntKind.u64.wrap x = y at *
  rw [Int.tmod_eq_emod_of_nonneg h1]
  have h2 := Int.emod_nonneg y (show m ≠ 0 by omega)
  have h3 := Int.emod_lt_of_pos y h
  generalize y % m = z at *
  unfold wrap64
  omega

theorem hid_ {p : Prop} (h : p) : Hid p := h

abbrev Hp := Nat → Option Obj
abbrev Assn := Hp → Prop

/-- Pieces of the heap `lk`, one for each assertion, apart from each other and from `X`. -/
def SatX (lk : Hp) (X : Nat → Prop) : List Assn → Prop
  | [] => True
  | A :: L => ∃ h : Hp, A h ∧ (∀ b o, h b = some o → lk b = some o ∧ ¬ X b) ∧ SatX lk (fun b => X b ∨ h b ≠ none) L

def lkOf (w : World) : Hp := fun b => w.heap[b]?

/-- What was there in w0 is as it was; the pieces lie behind it. -/
def Sat (w0 w : World) (L : List Assn) : Prop := Below w0.heap.size w0 w ∧ SatX (lkOf w) (fun b => b < w0.heap.size) L

theorem SatX.mono {lk lk' : Hp} : ∀ {L : List Assn} {X X' : Nat → Prop}, SatX lk X L → (∀ b o, lk b = some o → ¬ X b → lk' b = some o) → (∀ b, lk b ≠ none → X' b → X b) → SatX lk' X' L
  | [], _, _, _, _, _ => trivial
  | A :: L, X, X', ⟨h, hA, hle, hr⟩, hk, hx => by
    refine ⟨h, hA, fun b o hb => ?_, SatX.mono hr ?_ ?_⟩
    · obtain ⟨h1, h2⟩ := hle b o hb
      exact ⟨hk b o h1 h2, fun hX => h2 (hx b (by simp [h1]) hX)⟩
    · intro b o hb hn
      exact hk b o hb (fun hX => hn (.inl hX))
    · intro b hb hor
      rcases hor with h1 | h1
      · exact .inl (hx b hb h1)
      · exact .inr h1

theorem SatX.anti {lk : Hp} {L : List Assn} {X X' : Nat → Prop} (h : SatX lk X L) (hx : ∀ b, X' b → X b) : SatX lk X' L :=
  SatX.mono h (fun _ _ h _ => h) (fun b _ => hx b)

theorem SatX.swap {lk : Hp} {X : Nat → Prop} {A B : Assn} {L : List Assn} (h : SatX lk X (A :: B :: L)) : SatX lk X (B :: A :: L) := by
  obtain ⟨h1, hA, l1, h2, hB, l2, hr⟩ := h
  refine ⟨h2, hB, fun b o hb => ⟨(l2 b o hb).1, fun hX => (l2 b o hb).2 (.inl hX)⟩, h1, hA, fun b o hb => ⟨(l1 b o hb).1, ?_⟩, hr.anti ?_⟩
  · rintro (hX | hn)
    · exact (l1 b o hb).2 hX
    · cases h3 : h2 b with
      | none => exact hn h3
      | some o' => exact (l2 b o' h3).2 (.inr (by simp [hb]))
  · intro b hb
    rcases hb with (h4 | h4) | h4
    · exact .inl (.inl h4)
    · exact .inr h4
    · exact .inl (.inr h4)

theorem SatX.cons {lk : Hp} {A : Assn} {L L' : List Assn} (hL : ∀ X, SatX lk X L → SatX lk X L') {X : Nat → Prop} (h : SatX lk X (A :: L)) : SatX lk X (A :: L') := by
  obtain ⟨h1, hA, l1, hr⟩ := h
  exact ⟨h1, hA, l1, hL _ hr⟩

theorem SatX.front {lk : Hp} {A : Assn} {L2 : List Assn} : ∀ (L1 : List Assn) {X : Nat → Prop}, SatX lk X (L1 ++ A :: L2) → SatX lk X (A :: (L1 ++ L2))
  | [], _, h => h
  | B :: L1, X, h => by
    have h1 : SatX lk X (B :: A :: (L1 ++ L2)) := SatX.cons (fun X hX => SatX.front L1 hX) h
    exact h1.swap

theorem SatX.back {lk : Hp} {A : Assn} {L2 : List Assn} : ∀ (L1 : List Assn) {X : Nat → Prop}, SatX lk X (A :: (L1 ++ L2)) → SatX lk X (L1 ++ A :: L2)
  | [], _, h => h
  | B :: L1, X, h => by
    have h1 : SatX lk X (B :: A :: (L1 ++ L2)) := h.swap
    exact SatX.cons (fun X hX => SatX.back L1 hX) h1

theorem SatX.perm {lk : Hp} {L L' : List Assn} (hp : L.Perm L') : ∀ {X : Nat → Prop}, SatX lk X L → SatX lk X L' := by
  induction hp with
  | nil => exact fun h => h
  | cons A _ ih => exact fun h => SatX.cons (fun X hX => ih hX) h
  | swap A B L => exact fun h => h.swap
  | trans _ _ h1 h2 => exact fun h => h2 (h1 h)

theorem SatX.drop {lk : Hp} {X : Nat → Prop} {A : Assn} {L : List Assn} (h : SatX lk X (A :: L)) : SatX lk X L := by
  obtain ⟨h1, _, _, hr⟩ := h
  exact hr.anti (fun b hb => .inl hb)

theorem SatX.imp {lk : Hp} {X : Nat → Prop} {A B : Assn} {L : List Assn} (hi : ∀ h, A h → B h) (h : SatX lk X (A :: L)) : SatX lk X (B :: L) := by
  obtain ⟨h1, hA, l1, hr⟩ := h
  exact ⟨h1, hi _ hA, l1, hr⟩

/-- The pieces of a list, joined. -/
def Star (L : List Assn) : Assn := fun h => SatX h (fun _ => False) L
def Emp : Assn := fun _ => True

theorem SatX.unstar_aux {lk : Hp} {X : Nat → Prop} {h : Hp} (hle : ∀ b o, h b = some o → lk b = some o ∧ ¬ X b) {L2 : List Assn} :
    ∀ (L1 : List Assn) (Y : Nat → Prop), SatX h Y L1 → SatX lk (fun b => X b ∨ h b ≠ none) L2 → (∀ b, Y b → h b ≠ none) → SatX lk (fun b => X b ∨ Y b) (L1 ++ L2)
  | [], Y, _, h2, hY => h2.anti (fun b hb => hb.imp id (hY b))
  | A :: L1, Y, ⟨h1, hA, l1, hr⟩, h2, hY => by
    refine ⟨h1, hA, fun b o hb => ⟨(hle b o (l1 b o hb).1).1, ?_⟩, ?_⟩
    · rintro (hX | hy)
      · exact (hle b o (l1 b o hb).1).2 hX
      · exact (l1 b o hb).2 hy
    · refine (SatX.unstar_aux hle L1 _ hr h2 ?_).anti ?_
      · rintro b (hb | hb)
        · exact hY b hb
        · cases h3 : h1 b with
          | none => exact absurd h3 hb
          | some o => rw [(l1 b o h3).1]; simp
      · rintro b ((hb | hb) | hb)
        · exact .inl hb
        · exact .inr (.inl hb)
        · exact .inr (.inr hb)

theorem SatX.unstar {lk : Hp} {X : Nat → Prop} {L1 L2 : List Assn} (h : SatX lk X (Star L1 :: L2)) : SatX lk X (L1 ++ L2) := by
  obtain ⟨h1, hA, l1, hr⟩ := h
  exact (SatX.unstar_aux l1 L1 _ hA hr (by simp)).anti (by simp)

theorem SatX.split {lk : Hp} {L2 : List Assn} : ∀ (L1 : List Assn) {X : Nat → Prop}, SatX lk X (L1 ++ L2) →
    ∃ h : Hp, (∀ b o, h b = some o → lk b = some o ∧ ¬ X b) ∧ SatX h X L1 ∧ SatX lk (fun b => X b ∨ h b ≠ none) L2
  | [], X, h => ⟨fun _ => none, by simp, trivial, h.anti (by simp)⟩
  | A :: L1, X, ⟨h1, hA, l1, hr⟩ => by
    obtain ⟨h2, l2, s2, t2⟩ := SatX.split L1 hr
    refine ⟨fun b => (h1 b).or (h2 b), ?_, ⟨h1, hA, ?_, ?_⟩, ?_⟩
    · intro b o hb
      cases h3 : h1 b with
      | none => simp [h3] at hb; exact ⟨(l2 b o hb).1, fun hX => (l2 b o hb).2 (.inl hX)⟩
      | some o' => simp [h3] at hb; subst hb; exact l1 b _ h3
    · intro b o hb
      exact ⟨by simp [hb], (l1 b o hb).2⟩
    · refine s2.mono ?_ (fun _ _ h => h)
      intro b o hb hn
      cases h3 : h1 b with
      | none => simpa [h3] using hb
      | some o' => exact absurd (.inr (by simp [h3])) hn
    · refine t2.anti ?_
      rintro b (hb | hb)
      · exact .inl (.inl hb)
      · cases h3 : h1 b with
        | none => simp [h3] at hb; exact .inr hb
        | some o' => exact .inl (.inr (by simp [h3]))

theorem SatX.star {lk : Hp} {X : Nat → Prop} {L1 L2 : List Assn} (h : SatX lk X (L1 ++ L2)) : SatX lk X (Star L1 :: L2) := by
  obtain ⟨h1, l1, s1, r1⟩ := SatX.split L1 h
  exact ⟨h1, s1.anti (by simp), l1, r1⟩

/-! ### Worlds -/
section
variable {w0 w w' : World} {A B : Assn} {L L' L1 L2 : List Assn}

theorem Sat.below (h : Sat w0 w L) : Below w0.heap.size w0 w := h.1
theorem Sat.refl (w : World) : Sat w w [] := ⟨Below.refl _ _, trivial⟩
theorem Sat.swap (h : Sat w0 w (A :: B :: L)) : Sat w0 w (B :: A :: L) := ⟨h.1, h.2.swap⟩
theorem Sat.perm (hp : L.Perm L') (h : Sat w0 w L) : Sat w0 w L' := ⟨h.1, h.2.perm hp⟩
theorem Sat.front (L1 : List Assn) (h : Sat w0 w (L1 ++ A :: L2)) : Sat w0 w (A :: (L1 ++ L2)) := ⟨h.1, SatX.front L1 h.2⟩
theorem Sat.back (L1 : List Assn) (h : Sat w0 w (A :: (L1 ++ L2))) : Sat w0 w (L1 ++ A :: L2) := ⟨h.1, SatX.back L1 h.2⟩
theorem Sat.drop (h : Sat w0 w (A :: L)) : Sat w0 w L := ⟨h.1, h.2.drop⟩
theorem Sat.d2 (h : Sat w0 w (A :: B :: L)) : Sat w0 w (A :: L) := h.swap.drop
theorem Sat.imp (hi : ∀ h, A h → B h) (h : Sat w0 w (A :: L)) : Sat w0 w (B :: L) := ⟨h.1, h.2.imp hi⟩
theorem Sat.unstar (h : Sat w0 w (Star L1 :: L2)) : Sat w0 w (L1 ++ L2) := ⟨h.1, h.2.unstar⟩
theorem Sat.star (h : Sat w0 w (L1 ++ L2)) : Sat w0 w (Star L1 :: L2) := ⟨h.1, h.2.star⟩
theorem Sat.ex {α : Type} {F : α → Assn} (h : Sat w0 w ((fun h => ∃ x, F x h) :: L)) : ∃ x, Sat w0 w (F x :: L) := by
  obtain ⟨hb, h1, ⟨x, hx⟩, l1, hr⟩ := h
  exact ⟨x, hb, h1, hx, l1, hr⟩
theorem Sat.exI {α : Type} {F : α → Assn} (x : α) (h : Sat w0 w (F x :: L)) : Sat w0 w ((fun h => ∃ x, F x h) :: L) := h.imp (fun _ hh => ⟨x, hh⟩)
theorem Sat.pure {p : Prop} (h : Sat w0 w ((fun h => p ∧ A h) :: L)) : p ∧ Sat w0 w (A :: L) := by
  obtain ⟨hb, h1, ⟨hp, hx⟩, l1, hr⟩ := h
  exact ⟨hp, hb, h1, hx, l1, hr⟩
theorem Sat.pureI {p : Prop} (hp : p) (h : Sat w0 w (A :: L)) : Sat w0 w ((fun h => p ∧ A h) :: L) := h.imp (fun _ hh => ⟨hp, hh⟩)
theorem Sat.know {p : Prop} (hi : ∀ h, A h → p) (h : Sat w0 w (A :: L)) : p := by
  obtain ⟨hb, h1, hA, l1, hr⟩ := h
  exact hi _ hA
theorem Sat.empI (h : Sat w0 w L) : Sat w0 w (Emp :: L) := ⟨h.1, fun _ => none, trivial, by simp, h.2.anti (by simp)⟩

/-- The first pieces in another order, by their places. -/
theorem Sat.re (p : List Nat) (L1 : List Assn) (h : Sat w0 w (L1 ++ L)) (hl : p.length = L1.length := by rfl) (hp : p.Perm (List.range p.length) := by decide) : Sat w0 w (p.map (fun i => L1.getD i Emp) ++ L) := by
  have e : (List.range L1.length).map (fun i => L1.getD i Emp) = L1 := by
    apply List.ext_getElem?
    intro i
    by_cases hi : i < L1.length
    · simp [hi, List.getD]
    · simp [hi]
  refine Sat.perm ?_ h
  refine List.Perm.append_right L ?_
  have h2 := hp.map (fun i => L1.getD i Emp)
  rw [hl, e] at h2
  exact h2.symm

/-- Nothing of what was there in w has changed: the pieces stay, what is new joins them. -/
theorem Sat.trans (h : Sat w0 w L) (h' : Sat w w' L') : Sat w0 w' (L' ++ L) := by
  obtain ⟨hb, hs⟩ := h
  obtain ⟨hb', hs'⟩ := h'
  have hsz := hb.size
  refine ⟨hb.trans (hb'.mono hsz), ?_⟩
  -- L' lies at or behind w's end, L below it
  have key : ∀ (L' : List Assn) (Y : Nat → Prop), SatX (lkOf w') Y L' → (∀ b, b < w.heap.size → Y b) → ∀ (Z : Nat → Prop), (∀ b, Z b → b < w0.heap.size ∨ w.heap.size ≤ b) → (∀ b, Z b → Y b) → SatX (lkOf w') Z (L' ++ L) := by
    intro L'
    induction L' with
    | nil =>
      intro Y _ hY Z hZ _
      refine hs.mono ?_ ?_
      · intro b o hbo _
        have hlt : b < w.heap.size := (Array.getElem?_eq_some_iff.1 hbo).1
        exact (hb'.block b hlt).trans hbo
      · intro b hbn hz
        rcases hZ b hz with h1 | h1
        · exact h1
        · exfalso; apply hbn; unfold lkOf; rw [Array.getElem?_eq_none]; exact h1
    | cons A L' ih =>
      intro Y hsA hY Z hZ hZY
      obtain ⟨h1, hA, l1, hr⟩ := hsA
      refine ⟨h1, hA, fun b o hbo => ⟨(l1 b o hbo).1, fun hz => (l1 b o hbo).2 (hZY b hz)⟩, ih _ hr (fun b hb => .inl (hY b hb)) _ ?_ ?_⟩
      · rintro b (hz | hn)
        · exact hZ b hz
        · right
          cases h3 : h1 b with
          | none => exact absurd h3 hn
          | some o =>
            have := (l1 b o h3).2
            rcases Nat.lt_or_ge b w.heap.size with h4 | h4
            · exact absurd (hY b h4) this
            · exact h4
      · rintro b (hz | hn)
        · exact .inl (hZY b hz)
        · exact .inr hn
  exact key L' _ hs' (fun b hb => hb) _ (fun b hb => .inl hb) (fun b hb => Nat.lt_of_lt_of_le hb hsz)

theorem Sat.under (h : Sat w0 w L) (hb : Below w.heap.size w w') : Sat w0 w' L := h.trans (L' := []) ⟨hb, trivial⟩

/-- One piece changes; the rest stays. -/
theorem Sat.step (hs : Sat w0 w (A :: L)) (hos : w'.os = w.os) (htape : w'.tape = w.tape) (hout : w'.output = w.output) (hsz : w.heap.size ≤ w'.heap.size)
    (hU : ∀ h, A h → (∀ b o, h b = some o → w.heap[b]? = some o) → (∀ b, b < w.heap.size → h b = none → w'.heap[b]? = w.heap[b]?) ∧
      ∃ h', B h' ∧ (∀ b o, h' b = some o → w'.heap[b]? = some o) ∧ (∀ b, h' b ≠ none → h b ≠ none ∨ w.heap.size ≤ b)) : Sat w0 w' (B :: L) := by
  obtain ⟨hb, h1, hA, l1, hr⟩ := hs
  obtain ⟨hk, h', hB, l', hd⟩ := hU h1 hA (fun b o hbo => (l1 b o hbo).1)
  have hlow : ∀ b, b < w0.heap.size → h1 b = none := by
    intro b hlt
    cases h3 : h1 b with
    | none => rfl
    | some o => exact absurd hlt (l1 b o h3).2
  have hsz0 := hb.size
  refine ⟨⟨hos.trans hb.os, htape.trans hb.tape, hout.trans hb.output, Nat.le_trans hsz0 hsz, fun k hk0 => (hk k (by omega) (hlow k hk0)).trans (hb.block k hk0)⟩, h', hB, ?_, ?_⟩
  · intro b o hbo
    refine ⟨l' b o hbo, fun hlt => ?_⟩
    rcases hd b (by simp [hbo]) with h3 | h3
    · exact h3 (hlow b hlt)
    · have : b < w0.heap.size := hlt
      omega
  · refine hr.mono ?_ ?_
    · intro b o hbo hn
      have hlt : b < w.heap.size := (Array.getElem?_eq_some_iff.1 hbo).1
      have hnone : h1 b = none := by
        cases h3 : h1 b with
        | none => rfl
        | some o => exact absurd (.inr (by simp [h3])) hn
      exact (hk b hlt hnone).trans hbo
    · rintro b hbn (h3 | h3)
      · exact .inl h3
      · rcases hd b h3 with h4 | h4
        · exact .inr h4
        · exfalso; apply hbn; unfold lkOf; rw [Array.getElem?_eq_none]; exact h4

/-! ### One block -/
def Blk (b : Nat) (o : Obj) : Assn := fun h => h b = some o

theorem Sat.blk {b : Nat} {o : Obj} (h : Sat w0 w (Blk b o :: L)) : w.heap[b]? = some o ∧ w0.heap.size ≤ b := by
  obtain ⟨_, h1, hA, l1, _⟩ := h
  obtain ⟨h2, h3⟩ := l1 b o hA
  exact ⟨h2, Nat.le_of_not_lt h3⟩

theorem Sat.lt {b : Nat} {o : Obj} (h : Sat w0 w (Blk b o :: L)) : b < w.heap.size := (Array.getElem?_eq_some_iff.1 h.blk.1).1

theorem cell_at {b : Nat} {cs : Array Value} {t : TypeId} {fr : Nat × Nat} (h : w.heap[b]? = some (.cells cs t fr)) (i : Nat) : w.cell? ⟨b, i, none⟩ = cs[i]? := by
  unfold World.cell?; simp [h]
theorem frozen_at {b : Nat} {cs : Array Value} {t : TypeId} (h : w.heap[b]? = some (.cells cs t (0, 0))) (i : Nat) : w.frozen? ⟨b, i, none⟩ = false := by
  unfold World.frozen?; simp [h]

theorem Sat.cell {b : Nat} {cs : Array Value} {t : TypeId} (h : Sat w0 w (Blk b (.cells cs t (0, 0)) :: L)) (i : Nat) {v : Value} (hv : cs[i]? = some v) : w.cell? ⟨b, i, none⟩ = some v :=
  (cell_at h.blk.1 i).trans hv
theorem Sat.frozen {b : Nat} {cs : Array Value} {t : TypeId} (h : Sat w0 w (Blk b (.cells cs t (0, 0)) :: L)) (i : Nat) : w.frozen? ⟨b, i, none⟩ = false := frozen_at h.blk.1 i

theorem heap_setCell_same (w : World) (b i : Nat) (v : Value) {cs : Array Value} {t : TypeId} {fr : Nat × Nat} (h : w.heap[b]? = some (.cells cs t fr)) :
    (w.setCell ⟨b, i, none⟩ v).heap[b]? = some (.cells (cs.setIfInBounds i v) t fr) := by
  have hlt := (Array.getElem?_eq_some_iff.1 h).1
  unfold World.setCell
  simp only [Array.getElem?_modify, h, if_true]
  simp

theorem Sat.set {b : Nat} {cs : Array Value} {t : TypeId} (h : Sat w0 w (Blk b (.cells cs t (0, 0)) :: L)) (i : Nat) (v : Value) :
    Sat w0 (w.setCell ⟨b, i, none⟩ v) (Blk b (.cells (cs.setIfInBounds i v) t (0, 0)) :: L) := by
  refine h.step rfl rfl rfl (by simp [World.setCell]) ?_
  intro h1 hA l1
  refine ⟨fun k hk hn => Below.heap_setCell w ⟨b, i, none⟩ v k (fun e => ?_), fun k => if k = b then some (.cells (cs.setIfInBounds i v) t (0, 0)) else none, by simp [Blk], ?_, ?_⟩
  · subst e
    rw [hA] at hn
    cases hn
  · intro k o hk
    by_cases e : k = b
    · subst e
      simp at hk
      subst hk
      exact heap_setCell_same w k i v (l1 k _ hA)
    · simp [e] at hk
  · intro k hk
    by_cases e : k = b
    · subst e
      left
      rw [hA]
      simp
    · simp [e] at hk

theorem Sat.alloc (h : Sat w0 w L) (o : Obj) : Sat w0 (w.alloc o) (Blk w.heap.size o :: L) := by
  have h2 : Sat w (w.alloc o) [Blk w.heap.size o] := by
    refine ⟨(Below.refl _ _).alloc (Nat.le_refl _) _, fun k => if k = w.heap.size then some o else none, by simp [Blk], ?_, trivial⟩
    intro k o' hk
    by_cases e : k = w.heap.size
    · subst e
      simp at hk
      subst hk
      exact ⟨heap_alloc_new w _, by simp⟩
    · simp [e] at hk
  exact h.trans h2
theorem Sat.alloc_ (h : Sat w0 w L) (o : Obj) : Sat w0 (w.alloc o) L := (h.alloc o).drop
theorem Sat.alloc2 (h : Sat w0 w L) (o p : Obj) : Sat w0 ((w.alloc o).alloc p) (Blk (w.heap.size + 1) p :: Blk w.heap.size o :: L) := by
  have h1 := (h.alloc o).alloc p
  have e : (w.alloc o).heap.size = w.heap.size + 1 := by simp
  rw [e] at h1
  exact h1
theorem Sat.drew (h : Sat w0 w L) : Sat w0 w.drew L := ⟨h.1.drew, h.2⟩
theorem Sat.drewN (h : Sat w0 w L) (n : Nat) : Sat w0 (w.drewN n) L := h.under ⟨rfl, rfl, rfl, Nat.le_refl _, fun _ _ => rfl⟩

/-- A callee that leaves the world alone, in a region that draws its order. -/
theorem quiet_same {P : Program} {f : FuncId} {args : Array Value} {w : World} {n : Nat} {v : Value}
    (h : Calls P f args (w.drewN n) fun e w' => e = .returned v ∧ w.drewN n = w') : Calls P f args (w.drewN n) fun e w'' => e = .returned v ∧ ∃ m, w'' = w.drewN m :=
  h.mono fun _ _ ⟨he, hm⟩ => ⟨he, n, hm.symm⟩

theorem Sat.ne {b c : Nat} {o o' : Obj} (h : Sat w0 w (Blk b o :: Blk c o' :: L)) : b ≠ c := by
  obtain ⟨_, h1, hA, l1, h2, hB, l2, _⟩ := h
  rintro rfl
  exact (l2 b o' hB).2 (.inr (by rw [hA]; simp))
end
end Go.Proofs.Ytkejadhkebjdcaa
