/- A range over a function whose iterator tells, of each value that it hands over, how it reads in the world of that very call; general. -/
import Derived.RangeFuncNested
import Derived.RangeFuncBox
import Derived.RangeFuncCalls
import Derived.RangeFuncLeaves
import Derived.Below
import Derived.Test.YtkejadhkebjdcaaProg
namespace Go.Proofs.Ytkejadhkebjdcaa
open Go Go.RowKit
set_option linter.unusedVariables false

/-- What a loop's own book-keeping leaves as it lay: all cells, and whatever lies below B. -/
structure Kel (B : Nat) (X Z : World) : Prop where
  os : Z.os = X.os
  tape : Z.tape = X.tape
  output : Z.output = X.output
  size : X.heap.size ≤ Z.heap.size
  same : ∀ (k : Nat) (o : Obj), X.heap[k]? = some o → (o.isCells = true ∨ k < B) → Z.heap[k]? = some o
theorem Kel.refl (B : Nat) (X : World) : Kel B X X := ⟨rfl, rfl, rfl, Nat.le_refl _, fun _ _ h _ => h⟩
theorem Kel.trans {B : Nat} {X Y Z : World} (h : Kel B X Y) (h' : Kel B Y Z) : Kel B X Z :=
  ⟨h'.os.trans h.os, h'.tape.trans h.tape, h'.output.trans h.output, Nat.le_trans h.size h'.size, fun k o hk ho => h'.same k o (h.same k o hk ho) ho⟩
theorem Kel.ofBelow {B : Nat} {X Z : World} (h : Below X.heap.size X Z) : Kel B X Z :=
  ⟨h.os, h.tape, h.output, h.size, fun k o hk _ => (h.block k (Array.getElem?_eq_some_iff.1 hk).1).trans hk⟩
theorem Kel.put {B l : Nat} {X : World} {o o' : Obj} (hl : X.heap[l]? = some o) (ho : o.isCells = false) (hB : B ≤ l) : Kel B X (X.putObj l o') := by
  refine ⟨rfl, rfl, rfl, by simp, fun k q hk hq => ?_⟩
  have hne : k ≠ l := by
    rintro rfl
    rw [hk] at hl
    injection hl with hl
    subst hl
    rcases hq with h | h
    · rw [ho] at h; cases h
    · omega
  exact (World.putObj_heap_other hne).trans hk
theorem Kel.below {B n : Nat} {X Z : World} (h : Kel B X Z) (hn : n ≤ B) (hs : n ≤ X.heap.size) : Below n X Z :=
  ⟨h.os, h.tape, h.output, h.size, fun k hk => by
    have hx : X.heap[k]? = some X.heap[k] := Array.getElem?_eq_getElem (by omega)
    rw [hx]
    exact h.same k _ hx (.inr (by omega))⟩
theorem Kel.cell {B : Nat} {X Z : World} (h : Kel B X Z) {p : Addr} {v : Value} (hc : X.cell? p = some v) : Z.cell? p = some v := by
  obtain ⟨o, ho, hk⟩ := cells_of_cell hc
  exact (World.cell?_of_block ((h.same _ o ho (.inl hk)).trans ho.symm)).trans hc

/-- What an iterator owes to a body: it calls yield N times; what it hands over at its k-th call is as Y k tells. A round that goes on must keep what Kp tells. -/
def SeqK (n : Nat) (P : Program) (g : Nat) (lb : Array Value) (N : Nat) (Y : Nat → Array Value → World → Prop) (Kp : World → World → Prop) (w : World) : Prop :=
  ∀ (l : Nat) (J Jx : Nat → World → Prop) (W : World), Below w.heap.size w W → (∀ k X Z, J k X → Below X.heap.size X Z → J k Z) →
    (∀ k args X, k < N → J k X → Y k args X → YieldAt Fence.wide (n - 1) P l args X fun e Z => (e = .returned (.bool true) ∧ J (k + 1) Z ∧ Kp X Z) ∨ (e = .returned (.bool false) ∧ Jx (k + 1) Z)) →
    J 0 W → CallsIn Fence.wide n P g (#[.func (.yield l) #[] #[]] ++ lb) W fun e Z => (∃ v, e = .returned v) ∧ (J N Z ∨ ∃ k, k < N ∧ Jx (k + 1) Z)

/-- What is no cells, from B on, lies as it lay (nothing is told of the heap's end). -/
def KeepsNC (B : Nat) (X Z : World) : Prop := ∀ (k : Nat) (o : Obj), B ≤ k → X.heap[k]? = some o → o.isCells = false → Z.heap[k]? = some o
theorem KeepsFrom.nc {B : Nat} {X Z : World} (h : KeepsFrom B X Z) : KeepsNC B X Z := h.same
theorem KeepsNC.refl (B : Nat) (X : World) : KeepsNC B X X := fun _ _ _ h _ => h
/-- How a round may be left. -/
def kPost (B : Nat) (Kp : World → World → Prop) (I : Nat → World → Prop) (Ix : Code → Nat → World → Prop) (k : Nat) (X : World) : Exit → Act → World → Prop
  | .normal, _, Z => KeepsNC B X Z ∧ Kp X Z ∧ I k Z
  | .ret, _, Z => KeepsNC B X Z ∧ Ix .ret k Z
  | .exit id, _, Z => KeepsNC B X Z ∧ Ix (.exit id) k Z
  | _, _, _ => False

variable {n : Nat} {P : Program}
theorem wpIn_seqK {g : Operand} {ps : Array Tmp} {assign body : Code} {Q : Exit → Act → World → Prop} {a : Act} {w : World} (h1 : 1 ≤ n) {gf : Nat} {lb : Array Value} (hg : a.eval g = .func (.func gf) #[] lb)
    (eg : ∀ args w, (callFunc gf args).run P w = .ok (.enter gf args) w) {N : Nat} {Y : Nat → Array Value → World → Prop} {Kp : World → World → Prop} {w0 : World} (hseq : SeqK (n - 1) P gf lb N Y Kp w0) (hb0 : Below w0.heap.size w0 w) (hKt : ∀ {X Y Z}, Kp X Y → Kp Y Z → Kp X Z) (hKk : ∀ X Z, w.heap.size ≤ X.heap.size → Kel w.heap.size X Z → Kp X Z)
    (hps : ∀ k args X, Y k args X → args.size = ps.size) (I : Nat → World → Prop) (Ix : Code → Nat → World → Prop) (hI : ∀ k X Z, I k X → Kel w.heap.size X Z → I k Z) (hIx : ∀ c k X Z, Ix c k X → Kel w.heap.size X Z → Ix c k Z) (h0 : I 0 w)
    (hround : ∀ l k args X, k < N → w.heap.size ≤ l → w.heap.size ≤ X.heap.size → I k X → Y k args X →
      assign.wpIn (Fence.wide.inRound l) (n - 1 - 1) P (Exit.then (fun a1 X1 => KeepsNC w.heap.size X X1 ∧ Kp X X1 ∧ ∀ X2, Kel w.heap.size X1 X2 → body.wpIn (Fence.wide.inRound l) (n - 1 - 1) P (kPost w.heap.size Kp I Ix (k + 1) X2) a1 X2) (fun _ _ _ => False))
        { tmps := (ps.zip args).foldl (fun t (p, v) => t.setIfInBounds p v) a.tmps, defers := [] } X)
    (hdone : ∀ D W, w.heap.size ≤ D → I N W → W.heap[D]? = some (.deferred (some [])) → Q .normal { a with defers := { target := .collected D, args := #[] } :: a.defers } W)
    (hstop : ∀ D c k W, w.heap.size ≤ D → k < N → Ix c (k + 1) W → W.heap[D]? = some (.deferred (some [])) → c.wpIn Fence.wide n P Q { a with defers := { target := .collected D, args := #[] } :: a.defers } W) :
    (Code.rangeFunc g ps assign body).wpIn Fence.wide n P Q a w := by
  refine wpIn_rangeFunc ?_
  intro fn hfn
  rw [show Fence.wide.round = none from rfl]
  obtain ⟨D, hD⟩ : ∃ D, w.heap.size = D := ⟨_, rfl⟩
  rw [hD] at hI hIx hround hKk
  obtain ⟨R, hR⟩ : ∃ R : LoopState → Option Code → Loop, R = fun st pe => { state := st, pending := pe, fn, tmps := a.tmps, params := ps, assign, body, defers := D } := ⟨_, rfl⟩
  have hRst : ∀ st pe, (R st pe).state = st := by intro st pe; rw [hR]
  have hRup : ∀ st pe st' pe', { R st pe with state := st', pending := pe' } = R st' pe' := by intro st pe st' pe'; rw [hR]
  have hRup1 : ∀ st pe st', { R st pe with state := st' } = R st' pe := by intro st pe st'; rw [hR]
  let Bk (st : LoopState) (pe : Option Code) (X : World) : Prop := X.heap[D + 1]? = some (.loop (R st pe)) ∧ X.heap[D]? = some (.deferred (some []))
  have hBkK : ∀ st pe X Z, Bk st pe X → KeepsNC D X Z → Bk st pe Z := fun st pe X Z h hk => ⟨hk _ _ (by omega) h.1 rfl, hk _ _ (Nat.le_refl _) h.2 rfl⟩
  have hBkB : ∀ st pe X Z, Bk st pe X → Below X.heap.size X Z → Bk st pe Z := fun st pe X Z h hb =>
    ⟨(hb.block _ (Array.getElem?_eq_some_iff.1 h.1).1).trans h.1, (hb.block _ (Array.getElem?_eq_some_iff.1 h.2).1).trans h.2⟩
  have hBkP : ∀ st pe st' pe' X, Bk st pe X → Bk st' pe' (X.putObj (D + 1) (.loop (R st' pe'))) := fun st pe st' pe' X h =>
    ⟨World.putObj_heap_same (Array.getElem?_eq_some_iff.1 h.1).1, (World.putObj_heap_other (by omega)).trans h.2⟩
  have hKelP : ∀ st pe X o', Bk st pe X → Kel D X (X.putObj (D + 1) o') := fun st pe X o' h => Kel.put h.1 rfl (by omega)
  obtain ⟨W1, hW1⟩ : ∃ W1, (w.alloc (.deferred (some []))).alloc (.loop (R .ready none)) = W1 := ⟨_, rfl⟩
  have hbW : Below w.heap.size w W1 := by rw [← hW1]; exact ((Below.refl _ w).alloc (Nat.le_refl _) _).alloc (by simp) _
  have hBk1 : Bk .ready none W1 := by
    rw [← hW1]
    refine ⟨?_, ?_⟩
    · have := World.alloc_heap_new (w.alloc (.deferred (some []))) (.loop (R .ready none))
      rwa [World.size_alloc, hD] at this
    · have := World.alloc_heap_new w (.deferred (some []))
      rw [hD] at this
      exact (Below.heap_alloc _ _ _ (by simp; omega)).trans this
  refine ⟨D + 1, [{ target := .collected D, args := #[] }], W1, { target := .fn (.func gf) lb, args := #[.func (.yield (D + 1)) #[] #[]] }, W1, gf, #[.func (.yield (D + 1)) #[] #[]] ++ lb, W1, ?_, ?_, ?_, ?_, fun _ => h1, ?_⟩
  · have := run_enterLoop_outer (w := w) (P := P) fn a.tmps ps assign body
    rw [hD] at this
    rw [this, ← hW1, hR]
  · simp only [resolve, hg]
    simp [go_sem]
  · intro f' _; trivial
  · simp [invoke, go_sem, eg]
  · refine (hseq (D + 1) (fun k X => I k X ∧ Bk .ready none X ∧ D ≤ X.heap.size) (fun k X => ∃ c, Ix c k X ∧ Bk .done (some c) X) W1 (hb0.trans (hbW.mono hb0.size))
      (fun k X Z h hb => ⟨hI k X Z h.1 (Kel.ofBelow hb), hBkB _ _ X Z h.2.1 hb, Nat.le_trans h.2.2 hb.size⟩) ?_ ⟨hI 0 w W1 h0 (Kel.ofBelow hbW), hBk1, by rw [← hD]; exact hbW.size⟩).mono ?_
    · rintro k args X hk ⟨hi, hbk, hsz⟩ hy
      have hyl := run_yield (P := P) (args := args) hbk.1 (by rw [hR]; exact hps k args X hy)
      have e1 : (R .ready none).params = ps := by rw [hR]
      have e2 : (R .ready none).tmps = a.tmps := by rw [hR]
      have e3 : (R .ready none).fn = fn := by rw [hR]
      have e4 : (R .ready none).assign = assign := by rw [hR]
      have e5 : (R .ready none).body = body := by rw [hR]
      rw [e1, e2, e3, e4, e5] at hyl
      refine ⟨fn, _, assign, body, hyl, roundIn_of_wpIn hfn (wpIn_mono (hround (D + 1) k args X hk (by omega) (by omega) hi hy) ?_)⟩
      rintro e a1 X1 hp
      cases e with
      | normal =>
        obtain ⟨hkf, hbm, hbody⟩ := hp
        have hbk1 := hBkK _ _ X X1 hbk hkf
        have hbr := run_beginRound (P := P) hbk1.1 (hRst _ _)
        rw [hRup1] at hbr
        have hbk2 := hBkP .ready none .busy none X1 hbk1
        have hk12 := hKelP .ready none X1 (.loop (R .busy none)) hbk1
        refine ⟨_, hbr, wpIn_mono (hbody _ hk12) ?_⟩
        have hmX : D ≤ X1.heap.size := by have := (Array.getElem?_eq_some_iff.1 hbk1.2).1; omega
        have hb12 := hKk _ _ hmX hk12
        rintro e2 a3 Z hp2
        have fin : ∀ (jump : Option Code), KeepsNC D (X1.putObj (D + 1) (.loop (R .busy none))) Z → (Instr.endRound (D + 1) jump).run P Z = .ok (.bool jump.isNone) (Z.putObj (D + 1) (.loop (R (if jump.isNone then .ready else .done) jump))) ∧
            Bk (if jump.isNone then .ready else .done) jump (Z.putObj (D + 1) (.loop (R (if jump.isNone then .ready else .done) jump))) ∧ Kel D Z (Z.putObj (D + 1) (.loop (R (if jump.isNone then .ready else .done) jump))) ∧ D ≤ Z.heap.size := fun jump hkz => by
          have hbz := hBkK _ _ _ Z hbk2 hkz
          have h3 := run_endRound (P := P) jump hbz.1
          rw [hRup] at h3
          exact ⟨h3, hBkP _ _ _ _ Z hbz, hKelP _ _ Z _ hbz, by have := (Array.getElem?_eq_some_iff.1 hbz.2).1; omega⟩
        cases e2 with
        | normal =>
          obtain ⟨hkz, hbz, hiz⟩ := hp2
          obtain ⟨hr, hbk4, hk4, hsz4⟩ := fin none hkz
          refine ⟨_, _, hr, .inl ⟨rfl, ⟨hI _ _ _ hiz hk4, hbk4, Nat.le_trans hsz4 hk4.size⟩, ?_⟩⟩
          exact hKt hbm (hKt hb12 (hKt hbz (hKk _ _ hsz4 hk4)))
        | ret =>
          obtain ⟨hkz, hiz⟩ := hp2
          obtain ⟨hr, hbk4, hk4, _⟩ := fin (some .ret) hkz
          exact ⟨_, _, hr, .inr ⟨rfl, .ret, hIx _ _ _ _ hiz hk4, hbk4⟩⟩
        | exit id =>
          obtain ⟨hkz, hiz⟩ := hp2
          obtain ⟨hr, hbk4, hk4, _⟩ := fin (some (.exit id)) hkz
          exact ⟨_, _, hr, .inr ⟨rfl, .exit id, hIx _ _ _ _ hiz hk4, hbk4⟩⟩
        | goto t => exact hp2.elim
        | panic ch => exact hp2.elim
        | outgrown => exact hp2.elim
      | ret => exact hp
      | exit id => exact hp
      | goto t => exact hp
      | panic ch => exact hp
      | outgrown => exact hp
    · rintro e W2 ⟨⟨v, rfl⟩, (⟨hi, hbk, hsz⟩ | ⟨k, hk, c, hix, hbk⟩)⟩
      · have hr := run_endLoop (P := P) hbk.1 (by rw [hRst]; simp)
        have e1 : (R .ready none).pending = none := by rw [hR]
        rw [hRup1, e1] at hr
        exact ⟨none, _, hr, hdone D _ (by omega) (hI _ _ _ hi (hKelP _ _ _ _ hbk)) ((World.putObj_heap_other (by omega)).trans hbk.2)⟩
      · have hr := run_endLoop (P := P) hbk.1 (by rw [hRst]; simp)
        have e1 : (R .done (some c)).pending = some c := by rw [hR]
        rw [hRup1, e1] at hr
        exact ⟨some c, _, hr, hstop D c k _ (by omega) hk (hIx _ _ _ _ hix (hKelP _ _ _ _ hbk)) ((World.putObj_heap_other (by omega)).trans hbk.2)⟩
end Go.Proofs.Ytkejadhkebjdcaa
