/- The law StreamOrder in plain Lean: what a round of its loops keeps. -/
import Derived.Test.YtinlemeogdnanaaStreamT
namespace Go.Proofs.Ytinlemeogdnanaa
open Go Go.RowKit
set_option linter.unusedVariables false
set_option linter.unusedSimpArgs false

/-- Two ends in step; what was sent is what was told and what waits. -/
structure OrdI (c n : Nat) (a b : StM) (s0 s1 g0 g1 : List UInt8) : Prop where
  pr : PairI 5 c a b
  d0 : s0 = g0 ++ a.wait
  d1 : s1 = g1 ++ b.wait
  l0 : s0.length ≤ 2000 * n
  l1 : s1.length ≤ 2000 * n
theorem OrdI.symm {c n : Nat} {a b : StM} {s0 s1 g0 g1 : List UInt8} (h : OrdI c n a b s0 s1 g0 g1) : OrdI c n b a s1 s0 g1 g0 := ⟨h.pr.symm, h.d1, h.d0, h.l1, h.l0⟩
theorem OrdI.fin {c n : Nat} {a b : StM} {s0 s1 g0 g1 : List UInt8} (h : OrdI c n a b s0 s1 g0 g1) : OrdI c n a.fin b s0 s1 g0 g1 :=
  ⟨h.pr.fin, by rw [h.d0]; unfold StM.fin; split <;> rfl, h.d1, h.l0, h.l1⟩
theorem OrdI.send {c n : Nat} {a b : StM} {s0 s1 g0 g1 : List UInt8} (h : OrdI c n a b s0 s1 g0 g1) {p : List UInt8} (hs : a.sendB p = true) (hp : p.length ≤ 2000) : OrdI c (n + 1) (a.send p) b (s0 ++ p) s1 g0 g1 := by
  refine ⟨h.pr.send p, ?_, h.d1, ?_, ?_⟩
  · rw [h.d0, List.append_assoc]
    unfold StM.send
    rw [if_pos hs]
  · have := h.l0; rw [List.length_append]; omega
  · have := h.l1; omega
theorem OrdI.sendNo {a : StM} {p : List UInt8} (hs : a.sendB p = false) : a.send p = a := by
  unfold StM.send
  rw [if_neg (by rw [hs]; exact Bool.false_ne_true)]
theorem OrdI.more {c n : Nat} {a b : StM} {s0 s1 g0 g1 : List UInt8} (h : OrdI c n a b s0 s1 g0 g1) : OrdI c (n + 1) a b s0 s1 g0 g1 := ⟨h.pr, h.d0, h.d1, by have := h.l0; omega, by have := h.l1; omega⟩

/-- What a pass of the one end does to all. -/
theorem OrdI.pass {c n : Nat} {a b : StM} {s0 s1 g0 g1 : List UInt8} (h : OrdI c n a b s0 s1 g0 g1) : OrdI c n (passFr c a) (passTo c a b) s0 s1 (g0 ++ a.wait.take c) g1 := by
  refine ⟨h.pr.pass, ?_, h.d1, h.l0, h.l1⟩
  rw [h.d0, List.append_assoc]
  show g0 ++ a.wait = g0 ++ (a.wait.take c ++ a.wait.drop c)
  rw [List.take_append_drop]
theorem passTo_told (c : Nat) (a b : StM) : (passTo c a b).told = b.told := rfl
theorem passTo_wait (c : Nat) (a b : StM) : (passTo c a b).wait = b.wait := rfl
theorem passFr_told (c : Nat) (a : StM) : (passFr c a).told = (a.told || passFin c a) := rfl
theorem passFr_wait (c : Nat) (a : StM) : (passFr c a).wait = a.wait.drop c := rfl

/-- What a pass shows, by cases: it is told already; its end is told now; neither. -/
theorem OrdI.cases {c n : Nat} {a b : StM} {s0 s1 g0 g1 : List UInt8} (h : OrdI c n a b s0 s1 g0 g1) :
    (a.told = true ∧ passFin c a = false ∧ (passFr c a).told = true ∧ g0 ++ a.wait.take c = g0) ∨
    (a.told = false ∧ passFin c a = true ∧ (passFr c a).told = true ∧ g0 ++ a.wait.take c = s0) ∨
    (a.told = false ∧ passFin c a = false ∧ (passFr c a).told = false ∧ g0 ++ a.wait.take c = s0.take (g0 ++ a.wait.take c).length) := by
  cases ht : a.told
  · cases hf : passFin c a
    · refine .inr (.inr ⟨rfl, rfl, by rw [passFr_told, ht, hf]; rfl, ?_⟩)
      rw [h.d0]
      conv => rhs; rw [← List.take_append_drop c a.wait, ← List.append_assoc]
      rw [List.take_left']
      rw [List.take_append_drop]
    · refine .inr (.inl ⟨rfl, rfl, by rw [passFr_told, ht, hf]; rfl, ?_⟩)
      have hw : a.wait.length ≤ c := by unfold passFin at hf; simp at hf; exact hf.1.1
      rw [List.take_of_length_le hw, h.d0]
  · obtain ⟨hw, _⟩ := h.pr.stold ht
    have hf : passFin c a = false := by unfold passFin; rw [ht]; simp
    exact .inl ⟨rfl, hf, by rw [passFr_told, ht]; rfl, by rw [hw]; simp⟩
theorem OrdI.le {c n : Nat} {a b : StM} {s0 s1 g0 g1 : List UInt8} (h : OrdI c n a b s0 s1 g0 g1) : g0.length ≤ s0.length ∧ s0.take g0.length = g0 := by
  rw [h.d0]
  exact ⟨by simp, by simp⟩

section
variable {w0 w : World} {L : List Assn}
/-- append of bytes in a region that draws its order. -/
theorem step_append_bytes {ops : Array Oper} {o : Oper} {a : Act} {K : Act → World → Prop} {Q : Exit → Act → World → Prop} (hgd : o.guard = none) (s x : Operand)
    (ho : o.op = .call { callee := .builtin .append, args := #[s, x], argTypes := #[22, 22] })
    {v vx : Value} {p q : List UInt8} (hv : a.eval s = v) (hs : Sat w0 w (OwnB 5 v p :: L)) (hx : a.eval x = vx) (hsrc : RdB w vx q) (h63 : p.length + q.length ≤ 140737488355328)
    (h : ∀ r a' c' w', Hid (r = p ++ q) → Sat w0 w' (OwnB 5 (.slice a' r.length c') r :: L) → K (a.put o.dst (.slice a' r.length c')) w') :
    if Region.wanted o (yielded ops a.tmps) = true then o.wp Try.prog a w K Q else K (a.put o.dst undef) w := by
  rw [if_pos (by simp [Region.wanted, hgd])]
  obtain ⟨i0, hi0, hz0, hz1, hz2⟩ := info_u8
  obtain ⟨v', w', hr, h2, _⟩ := run_append_sat (P := Try.prog) (ty := o.type) Try.underlying22 hi0 hz0 hz1 hz2 rfl hs (RdB.src (l := q) Try.underlying22 hsrc) (by simp only [maxLen]; omega) (by omega)
  unfold Oper.wp execOp
  simp only [ho, resolve, invoke, builtin, Sem.run_bind, Sem.run_pure, Result.andThen_ok, List.map_toArray, List.map_cons, List.map_nil, hv, hx, hr]
  obtain ⟨a', c', rfl, _, _⟩ := OwnS.form h2
  simp only [← bytesC_append, ← List.length_append] at h2 ⊢
  exact h _ a' c' w' (hid_ rfl) h2
end
theorem RdB.pre {w : World} {x : Option Addr} {k n : Nat} {s : List UInt8} (h : RdB w (.slice x s.length k) s) (hn : n ≤ s.length) : RdB w (.slice x n k) (s.take n) := by
  obtain ⟨a, cap, he, g1, g2, g3, g4⟩ := h
  injection he with he _ hc
  subst hc
  subst he
  have hl : (s.take n).length = n := by rw [List.length_take]; omega
  refine ⟨x, k, by rw [hl], by omega, g2, g3, fun h0 => ?_⟩
  obtain ⟨b, off, hb, g5, g6⟩ := g4 (by omega)
  refine ⟨b, off, hb, g5, fun i hi => ?_⟩
  rw [g6 i (by omega)]
  congr 3
  have hx : (s.take n)[i]? = s[i]? := by rw [List.getElem?_take, if_pos (by omega)]
  simp only [List.getD, hx]
theorem send_told (a : StM) (p : List UInt8) : (a.send p).told = a.told := by unfold StM.send; split <;> rfl
theorem fin_told (a : StM) : a.fin.told = a.told := by unfold StM.fin; split <;> rfl
end Go.Proofs.Ytinlemeogdnanaa
