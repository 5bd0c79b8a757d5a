/- Rules as what an append takes, cut; which rules an appended list allows; light: walked. -/
import Derived.Test.YtmnjaaeljpleeaaOpnA
namespace Go.Proofs.Ytmnjaaeljpleeaa
open Go Go.RowKit
set_option linter.unusedVariables false
set_option linter.unusedSimpArgs false

/-- Which one matches first, in plain Lean. -/
def allowsR (a : AdM) : List RuleM → Bool
  | [] => false
  | r :: rs => if r.hit a then r.allow else allowsR a rs
theorem hits_shift (r : RuleM) (rs : List RuleM) (a : AdM) (n : Nat) : hitsTo (r :: rs) a (n + 1) = (if r.hit a then [0] else []) ++ (hitsTo rs a n).map (· + 1) := by
  induction n with
  | zero =>
    unfold hitsTo
    have : hitAt (r :: rs) a 0 = r.hit a := by unfold hitAt; rfl
    cases hh : r.hit a <;> simp [List.range_succ, this, hh]
  | succ n ih =>
    rw [hitsTo_succ, ih, hitsTo_succ, List.map_append, List.append_assoc]
    congr 2
    have : hitAt (r :: rs) a (n + 1) = hitAt rs a n := by unfold hitAt; rfl
    rw [this]
    cases hitAt rs a n <;> rfl
theorem allows_eq (rs : List RuleM) (a : AdM) : allowsM rs a = allowsR a rs := by
  induction rs with
  | nil => rfl
  | cons r rs ih =>
    unfold allowsM at ih ⊢
    unfold allowsR
    rw [List.length_cons, hits_shift]
    cases hh : r.hit a with
    | true => rfl
    | false =>
      rw [if_neg (by decide), List.nil_append, if_neg (by decide), ← ih]
      cases hitsTo rs a rs.length with
      | nil => rfl
      | cons k t => rfl
theorem allowsR_app (a : AdM) (rs more : List RuleM) : allowsR a (rs ++ more) = if rs.all (fun r => !r.hit a) then allowsR a more else allowsR a rs := by
  induction rs with
  | nil => rfl
  | cons r rs ih =>
    rw [List.cons_append, List.all_cons]
    show (if r.hit a then r.allow else allowsR a (rs ++ more)) = if (!r.hit a && rs.all (fun r => !r.hit a)) = true then allowsR a more else (if r.hit a then r.allow else allowsR a rs)
    cases hh : r.hit a with
    | true => rfl
    | false => exact ih
/-- Where none matches. -/
theorem none_hits {rs : List RuleM} {a : AdM} (h : hitsTo rs a rs.length = []) : ∀ (i : Nat) (r : RuleM), rs[i]? = some r → r.hit a = false := by
  intro i r hi
  rw [Bool.eq_false_iff]
  intro hh
  have hl : i < rs.length := (List.getElem?_eq_some_iff.1 hi).1
  have : i ∈ hitsTo rs a rs.length := by
    unfold hitsTo
    rw [List.mem_filter, List.mem_range]
    exact ⟨hl, by unfold hitAt; rw [hi]; exact hh⟩
  rw [h] at this
  cases this
theorem before_hits {rs : List RuleM} {a : AdM} {k : Nat} (h : hitsTo rs a k = []) : ∀ (i : Nat) (r : RuleM), i < k → rs[i]? = some r → r.hit a = false := by
  intro i r hik hi
  rw [Bool.eq_false_iff]
  intro hh
  have : i ∈ hitsTo rs a k := by
    unfold hitsTo
    rw [List.mem_filter, List.mem_range]
    exact ⟨hik, by unfold hitAt; rw [hi]; exact hh⟩
  rw [h] at this
  cases this
theorem allows_none {rs more : List RuleM} {a : AdM} (h : hitsTo rs a rs.length = []) : allowsM (rs ++ more) a = allowsM more a := by
  rw [allows_eq, allows_eq, allowsR_app, if_pos]
  rw [List.all_eq_true]
  intro r hr
  obtain ⟨i, hi⟩ := List.getElem?_of_mem hr
  rw [none_hits h i r hi]
  rfl
theorem allows_some {rs more : List RuleM} {a : AdM} {k : Nat} {r : RuleM} (hr : rs[k]? = some r) (hh : r.hit a = true) : allowsM (rs ++ more) a = allowsM rs a := by
  rw [allows_eq, allows_eq, allowsR_app, if_neg]
  rw [List.all_eq_true]
  intro h
  have := h r (List.mem_of_getElem? hr)
  rw [hh] at this
  cases this
theorem allows_drop {rs : List RuleM} {a : AdM} {k : Nat} {r : RuleM} (hr : rs[k]? = some r) (hh : r.hit a = true) : allowsM (rs.drop k) a = r.allow := by
  have hl : k < rs.length := (List.getElem?_eq_some_iff.1 hr).1
  rw [allows_eq, ← List.getElem_cons_drop hl]
  have : rs[k] = r := (List.getElem?_eq_some_iff.1 hr).2
  unfold allowsR
  rw [this, if_pos hh]
theorem hit_may {r : RuleM} {a : AdM} (h : r.hit a = true) : a.may = true := by
  unfold RuleM.hit at h
  simp only [Bool.and_eq_true] at h
  exact h.1.1.1.2

section
variable {w0 w : World} {L : List Assn}
/-- A cut of rules. -/
theorem RdRus.cut {b off cap k : Nat} {rs : List RuleM} (h : RdRus w (some ⟨b, off, none⟩) cap rs) (hk : k ≤ rs.length) : RdRus w (some ⟨b, off + k * 7, none⟩) (cap - k) (rs.drop k) := by
  refine ⟨by rw [List.length_drop]; have := h.le; omega, by have := h.cap; omega, fun i r hi => ?_⟩
  rw [List.getElem?_drop] at hi
  obtain ⟨b', off', x, c, he, h2, h3, h4⟩ := h.at_ _ r hi
  injection he with he
  injection he with he1 he2
  subst he1 he2
  refine ⟨b, off + k * 7, x, c, rfl, h2, fun j u hj => ?_, h4⟩
  have := h3 j u hj
  rw [show off + k * 7 + i * 7 + j = off + (k + i) * 7 + j by omega]
  exact this
/-- Their cells, one behind the other. -/
theorem RdRus.css {la : Option Addr} {cap : Nat} {rs : List RuleM} (h : RdRus w la cap rs) : ∃ css : List (List Value), css.length = rs.length ∧ (∀ cs ∈ css, cs.length = 7) ∧
    (∀ (i : Nat) (r : RuleM) (cs : List Value), rs[i]? = some r → css[i]? = some cs → ∃ x c, cs = ruC r (.slice x r.net.length c) ∧ RdRu w r x c) ∧ ∀ b off, la = some ⟨b, off, none⟩ → ∀ j u, css.flatten[j]? = some u → w.cell? ⟨b, off + j, none⟩ = some u := by
  have key : ∀ i, i < rs.length → ∃ cs : List Value, ∃ r x c, rs[i]? = some r ∧ cs = ruC r (.slice x r.net.length c) ∧ RdRu w r x c ∧ ∀ b off, la = some ⟨b, off, none⟩ → ∀ j u, cs[j]? = some u → w.cell? ⟨b, off + i * 7 + j, none⟩ = some u := by
    intro i hi
    obtain ⟨b, off, x, c, h1, h2, h3, h4⟩ := h.at_ i rs[i] (List.getElem?_eq_getElem hi)
    refine ⟨_, rs[i], x, c, List.getElem?_eq_getElem hi, rfl, h4, fun b' off' he j u hj => ?_⟩
    rw [h1] at he
    injection he with he
    injection he with he1 he2
    subst he1 he2
    exact h3 j u hj
  obtain ⟨css, hl, hp⟩ := choose_list key
  have h7 : ∀ cs ∈ css, cs.length = 7 := by
    intro cs hcs
    obtain ⟨i, hi⟩ := List.getElem?_of_mem hcs
    obtain ⟨r, x, c, _, he, _⟩ := hp i cs hi
    rw [he]
    rfl
  refine ⟨css, hl, h7, ?_, ?_⟩
  · intro i r cs hr hcs
    obtain ⟨r', x, c, hr', he, hru, _⟩ := hp i cs hcs
    rw [hr] at hr'
    injection hr' with hr'
    subst hr'
    exact ⟨x, c, he, hru⟩
  · intro b off he j u hj
    have hjl : j < css.length * 7 := by
      have := (List.getElem?_eq_some_iff.1 hj).1
      rw [flatten_len h7] at this
      exact this
    have hi : j / 7 < css.length := by omega
    obtain ⟨r, x, c, _, _, _, hc⟩ := hp (j / 7) css[j / 7] (List.getElem?_eq_getElem hi)
    have hf := flatten_get h7 (i := j / 7) (j := j % 7) (List.getElem?_eq_getElem hi) (by omega)
    rw [show j / 7 * 7 + j % 7 = j by omega, hj] at hf
    have := hc b off he (j % 7) u hf.symm
    rw [show off + j / 7 * 7 + j % 7 = off + j by omega] at this
    exact this
theorem ruC_one (r : RuleM) {x : Option Addr} {c : Nat} : ∀ u ∈ ruC r (.slice x r.net.length c), u.oneCell' = true := by
  intro u hu
  simp only [ruC, List.mem_cons, List.not_mem_nil, or_false] at hu
  rcases hu with rfl | rfl | rfl | rfl | rfl | rfl | rfl <;> rfl
/-- What an append of rules takes. -/
theorem RdRus.src {w' : World} {la : Option Addr} {cap : Nat} {rs : List RuleM} (h : RdRus w la cap rs) (hb : Below w.heap.size w w') : ∃ css : List (List Value), css.length = rs.length ∧ (∀ cs ∈ css, cs.length = 7) ∧
    (∀ (i : Nat) (r : RuleM) (cs : List Value), rs[i]? = some r → css[i]? = some cs → ∃ x c, cs = ruC r (.slice x r.net.length c) ∧ RdRu w r x c) ∧ Src Try.prog 7 22 (.slice la rs.length cap) rs.length css.flatten w' := by
  obtain ⟨css, h1, h2, h3, h4⟩ := h.css
  refine ⟨css, h1, h2, h3, ?_⟩
  have hone : ∀ u ∈ css.flatten, u.oneCell' = true := by
    intro u hu
    obtain ⟨cs, hcs, hu⟩ := List.mem_flatten.1 hu
    obtain ⟨i, hi⟩ := List.getElem?_of_mem hcs
    have hil : i < rs.length := by have := (List.getElem?_eq_some_iff.1 hi).1; omega
    obtain ⟨x, c, he, _⟩ := h3 i rs[i] cs (List.getElem?_eq_getElem hil) hi
    rw [he] at hu
    exact ruC_one _ u hu
  cases la with
  | none =>
    have hn : rs = [] := by
      cases rs with
      | nil => rfl
      | cons r rs =>
        obtain ⟨_, _, _, _, he, _⟩ := h.at_ 0 r rfl
        cases he
    subst hn
    have hc : css = [] := List.eq_nil_of_length_eq_zero (by simpa using h1)
    subst hc
    exact Src.ofNil w' Try.underlying22 cap
  | some ad =>
    refine Src.ofSlice w' Try.underlying22 _ _ cap _ (by rw [flatten_len h2, h1]) (fun j u hj => ?_) hone
    by_cases hr : rs = []
    · subst hr
      have hc : css = [] := List.eq_nil_of_length_eq_zero (by simpa using h1)
      subst hc
      simp at hj
    · obtain ⟨r, hr0⟩ : ∃ r, rs[0]? = some r := by
        cases rs with
        | nil => exact absurd rfl hr
        | cons r rs => exact ⟨r, rfl⟩
      obtain ⟨b, off, _, _, he, _⟩ := h.at_ 0 r hr0
      injection he with he
      subst he
      rw [addr_add]
      have h5 := h4 b off rfl j u hj
      rw [hb.cell (p := ⟨b, off + j, none⟩) (World.block_lt_of_cell? w _ h5)]
      exact h5
/-- Owned cells of rules, as they read. -/
theorem RdRus.own {a : Option Addr} {c : Nat} {rs : List RuleM} {css : List (List Value)} {v : Value} (hs : Sat w0 w (OwnS 30 7 (.slice a rs.length c) rs.length css.flatten :: L)) (h1 : css.length = rs.length) (h2 : ∀ cs ∈ css, cs.length = 7)
    (h3 : ∀ (i : Nat) (r : RuleM) (cs : List Value), rs[i]? = some r → css[i]? = some cs → ∃ x c, cs = ruC r (.slice x r.net.length c) ∧ RdRu w r x c) : RdRus w a c rs := by
  obtain ⟨a', cap, he, hle, hcm⟩ := OwnS.form hs
  injection he with e1 e2 e3
  subst e1 e3
  refine ⟨hle, hcm, fun i r hi => ?_⟩
  have hil : i < rs.length := (List.getElem?_eq_some_iff.1 hi).1
  obtain ⟨b, off, cap', he, _, hlt, hcells, _⟩ := OwnS.cells hs (by omega)
  injection he with e1 _ e3
  subst e1 e3
  obtain ⟨x, c', hcs, hru⟩ := h3 i r css[i] hi (List.getElem?_eq_getElem (by omega))
  refine ⟨b, off, x, c', rfl, hlt, fun j u hj => ?_, hru⟩
  have hj7 : j < 7 := by
    have := (List.getElem?_eq_some_iff.1 hj).1
    exact this
  have hf := flatten_get h2 (i := i) (j := j) (List.getElem?_eq_getElem (show i < css.length by omega)) hj7
  rw [hcs, hj] at hf
  rw [Nat.add_assoc]
  exact hcells _ u hf
end
end Go.Proofs.Ytmnjaaeljpleeaa
