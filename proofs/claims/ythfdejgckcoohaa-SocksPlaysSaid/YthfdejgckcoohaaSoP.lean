/- SOCKS in plain Lean: bytes in pieces do what they do together. -/
import Derived.Test.YthfdejgckcoohaaSoM
namespace Go.Proofs.Ythfdejgckcoohaa
open Go Go.RowKit
set_option linter.unusedVariables false
set_option linter.unusedSimpArgs false

def SoM.put (s : SoM) (m : List UInt8) : SoM := { s with wait := s.wait ++ m }
def SoM.pre (p : List UInt8) (s : SoM) : SoM := { s with back := p ++ s.back }
theorem SoM.pre_close (p k : List UInt8) (s : SoM) : (s.pre p).close k = (s.close k).pre p := by unfold SoM.pre SoM.close; simp
theorem SoM.pre_goes (p k : List UInt8) (st : Int) (n : Nat) (s : SoM) : (s.pre p).goes st n k = (s.goes st n k).pre p := by unfold SoM.pre SoM.goes; simp
theorem SoM.pre_ite {c : Prop} [Decidable c] (p : List UInt8) (a b : Bool × SoM) : ((if c then a else b).1, (if c then a else b).2.pre p) = if c then (a.1, a.2.pre p) else (b.1, b.2.pre p) := by split <;> rfl
theorem SoM.greet_pre (p : List UInt8) (s : SoM) : (s.pre p).greet = (s.greet.1, s.greet.2.pre p) := by
  unfold SoM.greet
  simp only [SoM.pre_ite, SoM.pre_close, SoM.pre_goes]
  rfl
theorem SoM.name_pre (p : List UInt8) (s : SoM) : (s.pre p).name = (s.name.1, s.name.2.pre p) := by
  unfold SoM.name
  simp only [SoM.pre_ite, SoM.pre_close, SoM.pre_goes]
  show (if s.wait.length = 0 then _ else _) = _
  congr 1
  show (if bAt s.wait 0 ≠ 1 then _ else _) = _
  congr 1
  show (match fieldM (s.wait.drop 1) with | none => _ | some (u, n) => _) = _
  cases fieldM (s.wait.drop 1) with
  | none => rfl
  | some x =>
    obtain ⟨u, n⟩ := x
    simp only []
    show (match fieldM (s.wait.drop (1 + n)) with | none => _ | some (u, n) => _) = _
    cases fieldM (s.wait.drop (1 + n)) with
    | none => rfl
    | some y =>
      obtain ⟨v, m⟩ := y
      simp only [SoM.pre_ite]
      rfl
theorem SoM.ask_pre (p : List UInt8) (s : SoM) : (s.pre p).ask = (s.ask.1, s.ask.2.pre p) := by
  have e : ∀ (d : AdM) (st : Int) (n : Nat) (k : List UInt8), ({ s.pre p with dest := d } : SoM).goes st n k = (({ s with dest := d } : SoM).goes st n k).pre p := by
    intro d st n k
    unfold SoM.pre SoM.goes
    simp
  unfold SoM.ask
  simp only [SoM.pre_ite, SoM.pre_close, e]
  rfl
theorem SoM.step_pre (p : List UInt8) (s : SoM) : (s.pre p).step = (s.step.1, s.step.2.pre p) := by
  unfold SoM.step
  simp only [SoM.pre_ite, SoM.greet_pre, SoM.name_pre, SoM.ask_pre, SoM.pre_close]
  rfl
theorem SoM.run_pre (p : List UInt8) : ∀ (n : Nat) (s : SoM), SoM.run n (s.pre p) = (SoM.run n s).pre p
  | 0, _ => rfl
  | n + 1, s => by
    unfold SoM.run
    rw [SoM.step_pre]
    simp only []
    split
    · exact SoM.run_pre p n _
    · rfl

theorem bAt_app {w m : List UInt8} {i : Nat} (h : i < w.length) : bAt (w ++ m) i = bAt w i := by unfold bAt; simp [List.getD, List.getElem?_append_left h]
theorem getD_appL {l r : List UInt8} {i : Nat} (h : i < l.length) : (l ++ r).getD i 0 = l.getD i 0 := by simp [List.getD, List.getElem?_append_left h]
theorem lens_app {b m : List UInt8} (h0 : 0 < b.length) (h : (lensB b).1 ≠ 2) : lensB (b ++ m) = lensB b := by
  unfold lensB at *
  rw [getD_appL h0]
  by_cases k1 : (b.getD 0 0).toNat = 1
  · rw [if_pos k1, if_pos k1]
  rw [if_neg k1] at h ⊢
  rw [if_neg k1]
  by_cases k4 : (b.getD 0 0).toNat = 4
  · rw [if_pos k4, if_pos k4]
  rw [if_neg k4] at h ⊢
  rw [if_neg k4]
  by_cases k3 : (b.getD 0 0).toNat = 3
  · rw [if_pos k3] at h ⊢
    rw [if_pos k3]
    by_cases h2 : b.length < 2
    · rw [if_pos h2] at h
      exact absurd rfl h
    · rw [if_neg h2, if_neg (by rw [List.length_append]; omega), getD_appL (by omega)]
  · rw [if_neg k3, if_neg k3]
theorem cut_app {b m : List UInt8} {n ah : Nat} (h0 : 0 < b.length) (h : 1 + ah + n ≤ b.length) : cutAd (b ++ m) n ah = cutAd b n ah := by
  have h1 := cut_take (l := b ++ m) (k := b.length) h0 h
  rw [List.take_left] at h1
  exact h1.symm
theorem dec_app {b m : List UInt8} (h : (decA b).1 ≠ 2) : decA (b ++ m) = decA b := by
  unfold decA at h ⊢
  by_cases h0 : b.length = 0
  · rw [if_pos h0] at h
    exact absurd rfl h
  rw [if_neg h0] at h ⊢
  rw [if_neg (by rw [List.length_append]; omega)]
  have hl2 : (lensB b).1 ≠ 2 := by
    intro h2
    rw [if_pos (by rw [h2]; simp)] at h
    exact h h2
  rw [lens_app (by omega) hl2]
  by_cases h3 : (lensB b).1 ≠ 0
  · rw [if_pos h3, if_pos h3]
  rw [if_neg h3] at h ⊢
  rw [if_neg h3]
  by_cases h4 : b.length < 1 + (lensB b).2.2 + (lensB b).2.1
  · rw [if_pos h4] at h
    exact absurd rfl h
  rw [if_neg h4] at h ⊢
  rw [if_neg (by rw [List.length_append]; omega), cut_app (by omega) (by omega)]
  by_cases h5 : (cutAd b (lensB b).2.1 (lensB b).2.2).may = false
  · rw [if_pos h5, if_pos h5]
  rw [if_neg h5] at h ⊢
  rw [if_neg h5]
  by_cases h6 : b.length < 1 + (lensB b).2.2 + (lensB b).2.1 + 2
  · rw [if_pos h6] at h
    exact absurd rfl h
  rw [if_neg h6, if_neg (by rw [List.length_append]; omega), getD_appL (by omega), getD_appL (by omega)]
theorem dec_len {b : List UInt8} (h : (decA b).1 = 0) : (decA b).2.2 ≤ b.length := by
  unfold decA at h ⊢
  split
  · simp
  · split
    · simp
    · split
      · simp
      · split
        · simp
        · split
          · simp
          · show 1 + (lensB b).2.2 + (lensB b).2.1 + 2 ≤ b.length
            omega
theorem field_app {b m u : List UInt8} {n : Nat} (h : fieldM b = some (u, n)) : fieldM (b ++ m) = some (u, n) ∧ 1 ≤ n ∧ n ≤ b.length := by
  unfold fieldM at h ⊢
  split at h
  · cases h
  · rename_i h1
    injection h with h
    injection h with h2 h3
    have hb : bAt (b ++ m) 0 = bAt b 0 := bAt_app (by omega)
    rw [if_neg (by rw [List.length_append, hb]; omega), hb]
    refine ⟨?_, by omega, by omega⟩
    rw [← h2, ← h3]
    congr 2
    rw [List.drop_append_of_le_length (by omega), List.take_append_of_le_length (by rw [List.length_drop]; omega)]

/-- What one step makes of more. -/
inductive SoStep (s : SoM) (m : List UInt8) : Prop
  | on (s' : SoM) (h1 : s.step = (true, s')) (h2 : (s.put m).step = (true, s'.put m)) (h3 : s.state < s'.state) (h4 : s'.state ≤ 3) (h5 : s'.wait.length ≤ s.wait.length) : SoStep s m
  | shut (s' : SoM) (h1 : s.step = (false, s')) (h2 : (s.put m).step = (false, s')) (h3 : s'.state = 5) : SoStep s m
  | more (h1 : s.step = (false, s)) : SoStep s m
theorem SoM.put_close (s : SoM) (m k : List UInt8) : (s.put m).close k = s.close k := rfl
theorem SoM.put_goes (s : SoM) (m k : List UInt8) (st : Int) (n : Nat) (h : n ≤ s.wait.length) : (s.put m).goes st n k = (s.goes st n k).put m := by
  unfold SoM.put SoM.goes
  simp only
  rw [List.drop_append_of_le_length h]
theorem SoM.goes_len (s : SoM) (k : List UInt8) (st : Int) (n : Nat) : (s.goes st n k).wait.length ≤ s.wait.length := by
  unfold SoM.goes
  simp only [List.length_drop]
  omega
theorem SoM.greet_step {s : SoM} (m : List UInt8) (hs : s.state = 0) : SoStep s m := by
  have e1 : s.step = s.greet := by unfold SoM.step; rw [if_pos hs]
  have e2 : (s.put m).step = (s.put m).greet := by unfold SoM.step; rw [if_pos (show (s.put m).state = 0 from hs)]
  have ew : (s.put m).wait = s.wait ++ m := rfl
  have hll : (s.wait ++ m).length = s.wait.length + m.length := List.length_append
  by_cases h1 : (1 ≤ s.wait.length ∧ bAt s.wait 0 ≠ 5) ∨ (2 ≤ s.wait.length ∧ bAt s.wait 1 = 0)
  · refine .shut (s.close []) ?_ ?_ rfl
    · rw [e1]; unfold SoM.greet; rw [if_pos h1]
    · rw [e2]
      unfold SoM.greet
      rw [ew, if_pos, SoM.put_close]
      rcases h1 with ⟨h1, h2⟩ | ⟨h1, h2⟩
      · exact .inl ⟨by omega, by rw [bAt_app (by omega)]; exact h2⟩
      · exact .inr ⟨by omega, by rw [bAt_app (by omega)]; exact h2⟩
  · by_cases h2 : 2 ≤ s.wait.length ∧ 2 + bAt s.wait 1 ≤ s.wait.length
    · have hb1 : bAt (s.wait ++ m) 1 = bAt s.wait 1 := bAt_app (by omega)
      have hb0 : bAt (s.wait ++ m) 0 = bAt s.wait 0 := bAt_app (by omega)
      have n1 : ¬ ((1 ≤ (s.wait ++ m).length ∧ bAt (s.wait ++ m) 0 ≠ 5) ∨ (2 ≤ (s.wait ++ m).length ∧ bAt (s.wait ++ m) 1 = 0)) := by
        rw [hb0, hb1]
        intro h
        apply h1
        rcases h with ⟨_, h⟩ | ⟨_, h⟩
        · exact .inl ⟨by omega, h⟩
        · exact .inr ⟨by omega, h⟩
      have n2 : 2 ≤ (s.wait ++ m).length ∧ 2 + bAt (s.wait ++ m) 1 ≤ (s.wait ++ m).length := by rw [hb1]; omega
      have ed : ((s.wait ++ m).drop 2).take (bAt s.wait 1) = (s.wait.drop 2).take (bAt s.wait 1) := by
        rw [List.drop_append_of_le_length (by omega), List.take_append_of_le_length (by rw [List.length_drop]; omega)]
      have em : (s.put m).method = s.method := rfl
      have eu : (s.put m).user = s.user := rfl
      by_cases h3 : s.method ∈ (s.wait.drop 2).take (bAt s.wait 1)
      · refine .on (s.goes (if s.user.size = 0 then 2 else 1) (2 + bAt s.wait 1) [5, s.method]) ?_ ?_ ?_ ?_ (SoM.goes_len _ _ _ _)
        · rw [e1]; unfold SoM.greet; rw [if_neg h1, if_pos h2, if_pos h3]
        · rw [e2]
          unfold SoM.greet
          rw [ew, if_neg n1, if_pos n2, hb1, ed, em, if_pos h3, eu, SoM.put_goes _ _ _ _ _ h2.2]
        · show s.state < (if s.user.size = 0 then 2 else 1)
          split <;> omega
        · show (if s.user.size = 0 then (2 : Int) else 1) ≤ 3
          split <;> omega
      · refine .shut (s.close [5, 255]) ?_ ?_ rfl
        · rw [e1]; unfold SoM.greet; rw [if_neg h1, if_pos h2, if_neg h3]
        · rw [e2]
          unfold SoM.greet
          rw [ew, if_neg n1, if_pos n2, hb1, ed, em, if_neg h3, SoM.put_close]
    · refine .more ?_
      rw [e1]
      unfold SoM.greet
      rw [if_neg h1, if_neg h2]
theorem SoM.name_step {s : SoM} (m : List UInt8) (hs : s.state = 1) : SoStep s m := by
  have e1 : s.step = s.name := by unfold SoM.step; rw [if_neg (by omega), if_pos hs]
  have e2 : (s.put m).step = (s.put m).name := by unfold SoM.step; rw [if_neg (show ¬ (s.put m).state = 0 by show ¬ s.state = 0; omega), if_pos (show (s.put m).state = 1 from hs)]
  have ew : (s.put m).wait = s.wait ++ m := rfl
  have hll : (s.wait ++ m).length = s.wait.length + m.length := List.length_append
  by_cases h0 : s.wait.length = 0
  · refine .more ?_
    rw [e1]; unfold SoM.name; rw [if_pos h0]
  have hb0 : bAt (s.wait ++ m) 0 = bAt s.wait 0 := bAt_app (by omega)
  have n0 : ¬ (s.wait ++ m).length = 0 := by omega
  by_cases h1 : bAt s.wait 0 ≠ 1
  · refine .shut (s.close []) ?_ ?_ rfl
    · rw [e1]; unfold SoM.name; rw [if_neg h0, if_pos h1]
    · rw [e2]; unfold SoM.name; rw [ew, if_neg n0, hb0, if_pos h1, SoM.put_close]
  have d1 : (s.wait ++ m).drop 1 = s.wait.drop 1 ++ m := List.drop_append_of_le_length (by omega)
  cases hf : fieldM (s.wait.drop 1) with
  | none =>
    refine .more ?_
    rw [e1]; unfold SoM.name; rw [if_neg h0, if_neg h1, hf]
  | some x =>
    obtain ⟨u, n⟩ := x
    obtain ⟨g1, g2, g3⟩ := field_app (m := m) hf
    rw [List.length_drop] at g3
    have d2 : (s.wait ++ m).drop (1 + n) = s.wait.drop (1 + n) ++ m := List.drop_append_of_le_length (by omega)
    cases hf2 : fieldM (s.wait.drop (1 + n)) with
    | none =>
      refine .more ?_
      rw [e1]; unfold SoM.name; rw [if_neg h0, if_neg h1, hf]; simp only [hf2]
    | some y =>
      obtain ⟨p, k⟩ := y
      obtain ⟨g4, g5, g6⟩ := field_app (m := m) hf2
      rw [List.length_drop] at g6
      by_cases h2 : u ≠ s.user.data.toList ∨ p ≠ s.pass.data.toList
      · refine .shut (s.close [1, 1]) ?_ ?_ rfl
        · rw [e1]; unfold SoM.name; rw [if_neg h0, if_neg h1, hf]; simp only [hf2]; rw [if_pos h2]
        · rw [e2]; unfold SoM.name; rw [ew, if_neg n0, hb0, if_neg h1, d1, g1]; simp only [d2, g4]
          rw [if_pos (show u ≠ (s.put m).user.data.toList ∨ p ≠ (s.put m).pass.data.toList from h2), SoM.put_close]
      · refine .on (s.goes 2 (1 + n + k) [1, 0]) ?_ ?_ (by show s.state < 2; omega) (by show (2 : Int) ≤ 3; omega) (SoM.goes_len _ _ _ _)
        · rw [e1]; unfold SoM.name; rw [if_neg h0, if_neg h1, hf]; simp only [hf2]; rw [if_neg h2]
        · rw [e2]; unfold SoM.name; rw [ew, if_neg n0, hb0, if_neg h1, d1, g1]; simp only [d2, g4]
          rw [if_neg (show ¬ (u ≠ (s.put m).user.data.toList ∨ p ≠ (s.put m).pass.data.toList) from h2), SoM.put_goes _ _ _ _ _ (by omega)]
theorem SoM.ask_step {s : SoM} (m : List UInt8) (hs : s.state = 2) : SoStep s m := by
  have e1 : s.step = s.ask := by unfold SoM.step; rw [if_neg (by omega), if_neg (by omega), if_pos hs]
  have e2 : (s.put m).step = (s.put m).ask := by
    unfold SoM.step
    rw [if_neg (show ¬ (s.put m).state = 0 by show ¬ s.state = 0; omega), if_neg (show ¬ (s.put m).state = 1 by show ¬ s.state = 1; omega), if_pos (show (s.put m).state = 2 from hs)]
  have ew : (s.put m).wait = s.wait ++ m := rfl
  have hll : (s.wait ++ m).length = s.wait.length + m.length := List.length_append
  by_cases h1 : 1 ≤ s.wait.length ∧ bAt s.wait 0 ≠ 5
  · refine .shut (s.close []) ?_ ?_ rfl
    · rw [e1]; unfold SoM.ask; rw [if_pos h1]
    · rw [e2]; unfold SoM.ask; rw [ew, if_pos ⟨by omega, by rw [bAt_app (by omega)]; exact h1.2⟩, SoM.put_close]
  by_cases h3 : s.wait.length < 3
  · refine .more ?_
    rw [e1]; unfold SoM.ask; rw [if_neg h1, if_pos h3]
  have b0 : bAt (s.wait ++ m) 0 = bAt s.wait 0 := bAt_app (by omega)
  have b1 : bAt (s.wait ++ m) 1 = bAt s.wait 1 := bAt_app (by omega)
  have b2 : bAt (s.wait ++ m) 2 = bAt s.wait 2 := bAt_app (by omega)
  have n1 : ¬ (1 ≤ (s.wait ++ m).length ∧ bAt (s.wait ++ m) 0 ≠ 5) := by rw [b0]; intro h; exact h1 ⟨by omega, h.2⟩
  have n3 : ¬ (s.wait ++ m).length < 3 := by omega
  by_cases h4 : bAt s.wait 1 ≠ 1
  · refine .shut (s.close (replyB 7)) ?_ ?_ rfl
    · rw [e1]; unfold SoM.ask; rw [if_neg h1, if_neg h3, if_pos h4]
    · rw [e2]; unfold SoM.ask; rw [ew, if_neg n1, if_neg n3, b1, if_pos h4, SoM.put_close]
  by_cases h5 : bAt s.wait 2 ≠ 0
  · refine .shut (s.close (replyB 1)) ?_ ?_ rfl
    · rw [e1]; unfold SoM.ask; rw [if_neg h1, if_neg h3, if_neg h4, if_pos h5]
    · rw [e2]; unfold SoM.ask; rw [ew, if_neg n1, if_neg n3, b1, if_neg h4, b2, if_pos h5, SoM.put_close]
  have d3 : (s.wait ++ m).drop 3 = s.wait.drop 3 ++ m := List.drop_append_of_le_length (by omega)
  by_cases h6 : (decA (s.wait.drop 3)).1 = 2
  · refine .more ?_
    rw [e1]; unfold SoM.ask; rw [if_neg h1, if_neg h3, if_neg h4, if_neg h5, if_pos h6]
  have dd : decA ((s.wait ++ m).drop 3) = decA (s.wait.drop 3) := by rw [d3, dec_app h6]
  by_cases h7 : (decA (s.wait.drop 3)).1 ≠ 0
  · have hn : 3 < s.wait.length := by
      rcases Nat.lt_or_ge 3 s.wait.length with h | h
      · exact h
      · exfalso
        apply h6
        unfold decA
        rw [if_pos (by rw [List.length_drop]; omega)]
    have b3 : bAt (s.wait ++ m) 3 = bAt s.wait 3 := bAt_app hn
    by_cases h8 : bAt s.wait 3 = 1 ∨ bAt s.wait 3 = 4 ∨ bAt s.wait 3 = 3
    · refine .shut (s.close (replyB 1)) ?_ ?_ rfl
      · rw [e1]; unfold SoM.ask; rw [if_neg h1, if_neg h3, if_neg h4, if_neg h5, if_neg h6, if_pos h7, if_pos h8]
      · rw [e2]; unfold SoM.ask; rw [ew, if_neg n1, if_neg n3, b1, if_neg h4, b2, if_neg h5, dd, if_neg h6, if_pos h7, b3, if_pos h8, SoM.put_close]
    · refine .shut (s.close (replyB 8)) ?_ ?_ rfl
      · rw [e1]; unfold SoM.ask; rw [if_neg h1, if_neg h3, if_neg h4, if_neg h5, if_neg h6, if_pos h7, if_neg h8]
      · rw [e2]; unfold SoM.ask; rw [ew, if_neg n1, if_neg n3, b1, if_neg h4, b2, if_neg h5, dd, if_neg h6, if_pos h7, b3, if_neg h8, SoM.put_close]
  · have hle := dec_len (Classical.not_not.1 h7)
    rw [List.length_drop] at hle
    refine .on ({ s with dest := (decA (s.wait.drop 3)).2.1 }.goes 3 (3 + (decA (s.wait.drop 3)).2.2) []) ?_ ?_ (by show s.state < 3; omega) (by show (3 : Int) ≤ 3; omega) (SoM.goes_len _ _ _ _)
    · rw [e1]; unfold SoM.ask; rw [if_neg h1, if_neg h3, if_neg h4, if_neg h5, if_neg h6, if_neg h7]
    · rw [e2]; unfold SoM.ask; rw [ew, if_neg n1, if_neg n3, b1, if_neg h4, b2, if_neg h5, dd, if_neg h6, if_neg h7]
      rw [← SoM.put_goes _ _ _ _ _ (show 3 + (decA (s.wait.drop 3)).2.2 ≤ ({ s with dest := (decA (s.wait.drop 3)).2.1 } : SoM).wait.length by show _ ≤ s.wait.length; omega)]
      rfl
theorem SoM.step_put {s : SoM} (m : List UInt8) (h0 : 0 ≤ s.state) (h3 : s.state ≤ 3) (hl : s.wait.length ≤ 4096) : SoStep s m := by
  rcases (show s.state = 0 ∨ s.state = 1 ∨ s.state = 2 ∨ s.state = 3 by omega) with h | h | h | h
  · exact SoM.greet_step m h
  · exact SoM.name_step m h
  · exact SoM.ask_step m h
  · refine .more ?_
    unfold SoM.step
    rw [if_neg (by omega), if_neg (by omega), if_neg (by omega), if_pos h, if_neg (by omega)]

/-- Enough rounds are enough. -/
theorem SoM.run_fuel : ∀ (n k : Nat) (s : SoM), 0 ≤ s.state → s.state ≤ 3 → s.wait.length ≤ 4096 → 3 - s.state < n → 3 - s.state < k → SoM.run n s = SoM.run k s
  | 0, k, s, h0, h3, hl, hn, hk => by omega
  | n + 1, 0, s, h0, h3, hl, hn, hk => by omega
  | n + 1, k + 1, s, h0, h3, hl, hn, hk => by
    unfold SoM.run
    cases SoM.step_put (s := s) [] h0 h3 hl with
    | on s' e1 _ h5 h6 h7 => rw [e1]; exact SoM.run_fuel n k s' (by omega) h6 (by omega) (by omega) (by omega)
    | shut s' e1 _ _ => rw [e1]; rfl
    | more e1 => rw [e1]; rfl
/-- More, behind a run. -/
theorem SoM.run_put (m : List UInt8) : ∀ (n : Nat) (s : SoM), 0 ≤ s.state → s.state ≤ 3 → s.wait.length + m.length ≤ 4096 → 3 - s.state < n →
    ((SoM.run n s).state = 5 ∧ SoM.run n (s.put m) = SoM.run n s) ∨ (0 ≤ (SoM.run n s).state ∧ (SoM.run n s).state ≤ 3 ∧ (SoM.run n s).wait.length ≤ s.wait.length ∧ SoM.run n (s.put m) = SoM.run 4 ((SoM.run n s).put m))
  | 0, s, h0, h3, hl, hn => by omega
  | n + 1, s, h0, h3, hl, hn => by
    have hp : (s.put m).wait.length ≤ 4096 := by show (s.wait ++ m).length ≤ _; rw [List.length_append]; omega
    cases SoM.step_put (s := s) m h0 h3 (by omega) with
    | on s' e1 e2 h5 h6 h7 =>
      have r1 : SoM.run (n + 1) s = SoM.run n s' := by show (if s.step.1 then _ else _) = _; rw [e1]; rfl
      have r2 : SoM.run (n + 1) (s.put m) = SoM.run n (s'.put m) := by show (if (s.put m).step.1 then _ else _) = _; rw [e2]; rfl
      rw [r1, r2]
      rcases SoM.run_put m n s' (by omega) h6 (by omega) (by omega) with h | ⟨a, b, c, d⟩
      · exact .inl h
      · exact .inr ⟨a, b, by omega, d⟩
    | shut s' e1 e2 h5 =>
      have r1 : SoM.run (n + 1) s = s' := by show (if s.step.1 then _ else _) = _; rw [e1]; rfl
      have r2 : SoM.run (n + 1) (s.put m) = s' := by show (if (s.put m).step.1 then _ else _) = _; rw [e2]; rfl
      rw [r1, r2]
      exact .inl ⟨h5, rfl⟩
    | more e1 =>
      have r1 : SoM.run (n + 1) s = s := by show (if s.step.1 then _ else _) = _; rw [e1]; rfl
      rw [r1]
      exact .inr ⟨h0, h3, Nat.le_refl _, SoM.run_fuel _ _ _ h0 h3 hp hn (by show 3 - s.state < 4; omega)⟩

def SoM.fresh (user pass : ByteArray) : SoM := ⟨user, pass, 0, [], AdM.zero, []⟩
/-- All that has been fed, at once. -/
def SoM.all (u p : ByteArray) (f : List UInt8) : SoM := (SoM.fresh u p).feed f
theorem SoM.all_shape (u p : ByteArray) (f : List UInt8) (hl : f.length ≤ 4096) : (SoM.all u p f).state = 5 ∨ (0 ≤ (SoM.all u p f).state ∧ (SoM.all u p f).state ≤ 3 ∧ (SoM.all u p f).wait.length ≤ f.length) := by
  have h := SoM.run_put [] 4 { SoM.fresh u p with wait := [] ++ f, back := [] } (by show (0 : Int) ≤ 0; omega) (by show (0 : Int) ≤ 3; omega) (by simpa using hl) (by show 3 - (0 : Int) < 4; omega)
  rcases h with ⟨h, _⟩ | ⟨h1, h2, h3, _⟩
  · exact .inl h
  · exact .inr ⟨h1, h2, h3⟩
/-- Bytes in pieces. -/
theorem SoM.all_piece (u p : ByteArray) (f x : List UInt8) (hl : f.length + x.length ≤ 4096) :
    ((SoM.all u p f).state = 5 ∧ SoM.all u p (f ++ x) = SoM.all u p f) ∨ (0 ≤ (SoM.all u p f).state ∧ (SoM.all u p f).state ≤ 3 ∧ SoM.all u p (f ++ x) = ((SoM.all u p f).feed x).pre (SoM.all u p f).back) := by
  have h := SoM.run_put x 4 { SoM.fresh u p with wait := [] ++ f, back := [] } (by show (0 : Int) ≤ 0; omega) (by show (0 : Int) ≤ 3; omega) (by simpa using hl) (by show 3 - (0 : Int) < 4; omega)
  have e : ({ SoM.fresh u p with wait := [] ++ f, back := [] } : SoM).put x = { SoM.fresh u p with wait := (SoM.fresh u p).wait ++ (f ++ x), back := [] } := rfl
  rw [e] at h
  rcases h with ⟨h, h1⟩ | ⟨h1, h2, h3, h4⟩
  · exact .inl ⟨h, h1⟩
  · refine .inr ⟨h1, h2, h4.trans ?_⟩
    unfold SoM.feed
    rw [← SoM.run_pre]
    congr 1
    show _ = ({ SoM.all u p f with wait := _, back := [] } : SoM).pre _
    unfold SoM.pre SoM.put
    simp only [List.append_nil]
    rfl
end Go.Proofs.Ythfdejgckcoohaa
