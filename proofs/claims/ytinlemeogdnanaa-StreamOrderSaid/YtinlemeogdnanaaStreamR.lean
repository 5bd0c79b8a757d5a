/- Two ends of one stream that hand on to each other: what a pass does, in plain Lean. -/
import Derived.Test.YtinlemeogdnanaaStreamQ
namespace Go.Proofs.Ytinlemeogdnanaa
open Go Go.RowKit
set_option linter.unusedVariables false
set_option linter.unusedSimpArgs false

theorem chunk_flat (l : List UInt8) : (chunk l).flatten = l := by
  induction h : l.length using Nat.strongRecOn generalizing l with
  | _ n ih =>
    by_cases h0 : l.length = 0
    · rw [List.eq_nil_of_length_eq_zero h0, chunk_nil]; rfl
    · rw [chunk_cons (by omega), List.flatten_cons, ih (l.drop 1000).length (by rw [List.length_drop]; omega) _ rfl, List.take_append_drop]

/-- A piece is heard, its credit comes back. -/
theorem step_data {x : PassS} {id : Int} {p : List UInt8} (h1 : 1 ≤ id) (h2 : id ≤ 65535) (hf : x.fr.id = id) (ht : x.to.id = id) (hc : x.to.cut = false) (ho : x.to.over = false)
    (hp1 : 1 ≤ p.length) (hp2 : p.length ≤ 1000) (hp3 : (p.length : Int) ≤ x.to.others) (hm : x.fr.may + p.length ≤ 65536) :
    x.step (FrM.dataF id p) = { x with fr := if x.fr.done then x.fr else { x.fr with may := x.fr.may + p.length }, got := x.got ++ p } := by
  have k1 : x.to.hears (FrM.dataF id p) = true := by
    unfold StM.hears StM.done
    rw [dataF_may h1 h2 hp1 (by omega), hc, ho, ht]
    simp [FrM.dataF, FrM.of]
  have k2 : x.to.wrong (FrM.dataF id p) = false := by
    unfold StM.wrong
    have hd : decide (x.to.others < ((FrM.dataF id p).data.length : Int)) = false := decide_eq_false (by show ¬ _ < (p.length : Int); omega)
    rw [ho, hd]
    simp [FrM.dataF, FrM.of]
  have e1 : x.to.gotL (FrM.dataF id p) = [FrM.winF id p.length] := by unfold StM.gotL; rw [k1, k2, ht]; simp [FrM.dataF, FrM.of]
  have e2 : x.to.got (FrM.dataF id p) = x.to := by unfold StM.got StM.heard; rw [k1, k2]; simp [FrM.dataF, FrM.of]
  have e3 : x.to.gotD (FrM.dataF id p) = p := by unfold StM.gotD; rw [k1, k2]; simp [FrM.dataF, FrM.of]
  have e4 : x.to.gotK (FrM.dataF id p) = 0 := by unfold StM.gotK; rw [k1, k2]; simp [FrM.dataF, FrM.of]
  have b1 : x.fr.hears (FrM.winF id p.length) = !x.fr.done := by
    unfold StM.hears
    rw [winF_may h1 h2 (by omega) (by omega), hf]
    simp [FrM.winF, FrM.of]
  have hg : giveB x.fr.may p.length = true := by unfold giveB; simp; omega
  have b2 : x.fr.wrong (FrM.winF id p.length) = false := by unfold StM.wrong; simp [FrM.winF, FrM.of, hg]
  have b3 : x.fr.gotK (FrM.winF id p.length) = 0 := by unfold StM.gotK; rw [b2]; simp [FrM.winF, FrM.of]
  have b4 : x.fr.got (FrM.winF id p.length) = if x.fr.done then x.fr else { x.fr with may := x.fr.may + p.length } := by
    unfold StM.got StM.heard
    rw [b1, b2]
    cases x.fr.done
    · simp [FrM.winF, FrM.of, giveC, hg]
    · simp
  unfold PassS.step
  rw [e1, List.foldl_cons, List.foldl_nil]
  unfold PassS.back PassS.fwd
  simp only [e2, e3, e4, b3, b4]
  rfl

theorem step_fin {x : PassS} {id : Int} (h1 : 1 ≤ id) (h2 : id ≤ 65535) (ht : x.to.id = id) (hc : x.to.cut = false) (ho : x.to.over = false) :
    x.step (FrM.finF id) = { x with to := { x.to with over := true }, e := 1 } := by
  have k1 : x.to.hears (FrM.finF id) = true := by
    unfold StM.hears StM.done
    rw [finF_may h1 h2, hc, ho, ht]
    simp [FrM.finF, FrM.of]
  have k2 : x.to.wrong (FrM.finF id) = false := by
    unfold StM.wrong
    rw [ho]
    simp [FrM.finF, FrM.of]
  have e1 : x.to.gotL (FrM.finF id) = [] := by unfold StM.gotL; rw [k1, k2]; simp [FrM.finF, FrM.of]
  have e2 : x.to.got (FrM.finF id) = { x.to with over := true } := by unfold StM.got StM.heard; rw [k1, k2]; simp [FrM.finF, FrM.of]
  have e3 : x.to.gotD (FrM.finF id) = [] := by unfold StM.gotD; rw [k1, k2]; simp [FrM.finF, FrM.of]
  have e4 : x.to.gotK (FrM.finF id) = 1 := by unfold StM.gotK; rw [k1, k2]; simp [FrM.finF, FrM.of]
  unfold PassS.step
  rw [e1, List.foldl_nil]
  unfold PassS.fwd
  simp only [e2, e3, e4, List.append_nil]
  rfl

theorem pass_data {id : Int} (h1 : 1 ≤ id) (h2 : id ≤ 65535) : ∀ (ps : List (List UInt8)) (x : PassS), x.fr.id = id → x.to.id = id → x.to.cut = false → x.to.over = false →
    (∀ p ∈ ps, 1 ≤ p.length ∧ p.length ≤ 1000 ∧ (p.length : Int) ≤ x.to.others) → x.fr.may + sumLen ps ≤ 65536 →
    (ps.map (FrM.dataF id)).foldl PassS.step x = { x with fr := if x.fr.done then x.fr else { x.fr with may := x.fr.may + sumLen ps }, got := x.got ++ ps.flatten }
  | [], x, _, _, _, _, _, _ => by
    simp [sumLen]
  | p :: ps, x, hf, ht, hc, ho, hp, hm => by
    obtain ⟨p1, p2, p3⟩ := hp p (List.mem_cons_self ..)
    have hs : sumLen (p :: ps) = p.length + sumLen ps := by simp [sumLen]
    rw [hs] at hm ⊢
    rw [List.map_cons, List.foldl_cons, step_data h1 h2 hf ht hc ho p1 p2 p3 (by omega)]
    cases hd : x.fr.done
    · simp only [Bool.false_eq_true, if_false]
      rw [pass_data h1 h2 ps ⟨{ x.fr with may := x.fr.may + p.length }, x.to, x.got ++ p, x.e⟩ hf ht hc ho (fun q hq => hp q (List.mem_cons_of_mem _ hq)) (by simp only; omega)]
      have hd2 : ({ x.fr with may := x.fr.may + p.length } : StM).done = false := hd
      simp only [hd2, Bool.false_eq_true, if_false, List.flatten_cons, List.append_assoc]
      congr 2
      omega
    · simp only [if_true]
      rw [pass_data h1 h2 ps ⟨x.fr, x.to, x.got ++ p, x.e⟩ hf ht hc ho (fun q hq => hp q (List.mem_cons_of_mem _ hq)) (by simp only; omega)]
      simp only [hd, if_true, List.flatten_cons, List.append_assoc]

theorem le_sumLen {p : List UInt8} : ∀ {l : List (List UInt8)}, p ∈ l → p.length ≤ sumLen l
  | q :: l, h => by
    have hs : sumLen (q :: l) = q.length + sumLen l := by simp [sumLen]
    rcases List.mem_cons.1 h with rfl | h
    · omega
    · have := le_sumLen h; omega

/-- Two ends in step. -/
structure PairI (id : Int) (c : Nat) (s t : StM) : Prop where
  i1 : 1 ≤ id
  i2 : id ≤ 65535
  c1 : 1 ≤ c
  c2 : c ≤ 65536
  sid : s.id = id
  tid : t.id = id
  scut : s.cut = false
  tcut : t.cut = false
  soth : s.others = c
  toth : t.others = c
  sover : s.over = t.told
  tover : t.over = s.told
  stold : s.told = true → s.wait = [] ∧ s.ended = true
  ttold : t.told = true → t.wait = [] ∧ t.ended = true
  smay : s.told = false → s.may = c
  tmay : t.told = false → t.may = c
  smay0 : 0 ≤ s.may ∧ s.may ≤ c
  tmay0 : 0 ≤ t.may ∧ t.may ≤ c
theorem PairI.symm {id : Int} {c : Nat} {s t : StM} (h : PairI id c s t) : PairI id c t s :=
  ⟨h.i1, h.i2, h.c1, h.c2, h.tid, h.sid, h.tcut, h.scut, h.toth, h.soth, h.tover, h.sover, h.ttold, h.stold, h.tmay, h.smay, h.tmay0, h.smay0⟩

/-- The pass ends with the end being told. -/
def passFin (c : Nat) (s : StM) : Bool := decide (s.wait.length ≤ c) && s.ended && !s.told
def passFr (c : Nat) (s : StM) : StM :=
  { s with wait := s.wait.drop c, told := s.told || passFin c s, may := if s.told then s.may else if (passFin c s && s.over) then s.may - min s.wait.length c else c }
def passTo (c : Nat) (s t : StM) : StM := { t with over := t.over || passFin c s }

theorem passM_pair {id : Int} {c : Nat} {s t : StM} (h : PairI id c s t) (got : List UInt8) :
    passM s t got = ⟨passFr c s, passTo c s t, got ++ s.wait.take c, if passFin c s then 1 else 0⟩ := by
  have hc := hid_ h.scut
  unfold passM
  rw [StM.next_of hc, StM.nextL_of hc]
  cases hst : s.told
  · have hmay := h.smay hst
    have hsent : s.sent = min s.wait.length c := by unfold StM.sent takeC; rw [hmay]; omega
    have hto : t.over = false := by rw [h.tover, hst]
    have hwd : s.wait.drop (min s.wait.length c) = s.wait.drop c := by
      by_cases hw : s.wait.length ≤ c
      · rw [Nat.min_eq_left hw, List.drop_of_length_le (Nat.le_refl _), List.drop_of_length_le hw]
      · rw [Nat.min_eq_right (by omega)]
    have hwt : s.wait.take (min s.wait.length c) = s.wait.take c := by
      by_cases hw : s.wait.length ≤ c
      · rw [Nat.min_eq_left hw, List.take_of_length_le (Nat.le_refl _), List.take_of_length_le hw]
      · rw [Nat.min_eq_right (by omega)]
    have hfin : s.mid.finNow = passFin c s := by
      unfold StM.finNow StM.mid passFin
      rw [hsent, hwd]
      simp only [List.length_drop]
      congr 2
      by_cases hw : s.wait.length ≤ c
      · simp [hw]
      · simp only [hw, decide_false, beq_eq_false_iff_ne, ne_eq]; omega
    rw [hfin, hsent, hwt, List.foldl_append, h.sid]
    have hps : ∀ p ∈ chunk (s.wait.take c), 1 ≤ p.length ∧ p.length ≤ 1000 ∧ (p.length : Int) ≤ t.others := by
      intro p hp
      obtain ⟨q1, q2⟩ := chunk_all _ p hp
      refine ⟨q1, q2, ?_⟩
      have hsum := sumLen_chunk (s.wait.take c)
      have : p.length ≤ sumLen (chunk (s.wait.take c)) := le_sumLen hp
      rw [hsum, List.length_take] at this
      rw [h.toth]
      omega
    have hsl : sumLen (chunk (s.wait.take c)) = min s.wait.length c := by rw [sumLen_chunk, List.length_take]; try omega
    have hmid : s.mid.may = c - min s.wait.length c := by unfold StM.mid; rw [hsent, hmay]
    have hmc := h.c2
    rw [pass_data h.i1 h.i2 _ _ (by exact h.sid) h.tid h.tcut hto hps (by simp only; rw [hsl, hmid]; omega), chunk_flat]
    have hdone : ({ s.mid with told := s.told || passFin c s } : StM).done = (passFin c s && s.over) := by
      unfold StM.done StM.mid
      rw [h.scut, hst]
      simp
    simp only [hst] at hdone ⊢
    rw [hdone, hsl]
    cases hpf : passFin c s
    · simp only [Bool.false_eq_true, if_false, List.foldl_nil, Bool.false_and, Bool.or_false]
      unfold passFr passTo
      rw [hpf, hst]
      simp only [Bool.false_eq_true, if_false, Bool.false_and, Bool.or_false]
      unfold StM.mid
      simp only [hsent, hwd, hmay]
      congr 2
      omega
    · simp only [if_true, List.foldl_cons, List.foldl_nil, Bool.true_and, Bool.false_or]
      rw [step_fin h.i1 h.i2 (by exact h.tid) (by exact h.tcut) (by exact hto)]
      unfold passFr passTo
      rw [hpf, hst, hto]
      simp only [Bool.false_eq_true, if_false, Bool.true_and, Bool.or_true, Bool.false_or]
      cases hso : s.over
      · unfold StM.mid
        simp only [hsent, hwd, hmay, Bool.false_eq_true, if_false, hso]
        congr 2
        omega
      · unfold StM.mid
        simp only [hsent, hwd, hmay, if_true, hso]
  · obtain ⟨hw, he⟩ := h.stold hst
    have hsent : s.sent = 0 := by unfold StM.sent takeC; rw [hw]; simp; have := h.smay0; omega
    have hpf : passFin c s = false := by unfold passFin; rw [hst]; simp
    have hfn : s.mid.finNow = false := by unfold StM.finNow StM.mid; simp [hst]
    rw [hsent, hfn, hpf, hw]
    simp only [List.take_nil, chunk_nil, List.map_nil, Bool.false_eq_true, if_false, List.append_nil, List.foldl_nil]
    unfold passFr passTo
    rw [hpf, hst]
    simp only [if_true, Bool.or_false, hw, List.drop_nil]
    unfold StM.mid
    simp only [hsent, hw, List.drop_nil]
    simp
end Go.Proofs.Ytinlemeogdnanaa
