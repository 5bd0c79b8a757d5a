/- What the filters took, in plain Lean; a map from strings to how often, as a piece. -/
import Derived.Maps.OwnSet
import Derived.Maps.Views
import Derived.Test.YtipkcbphjgmgiaaRepP
namespace Go.Proofs.Ytipkcbphjgmgiaa
open Go Go.RowKit Go.Maps
open Go.WideElems (Fit rd rg pl)
set_option linter.unusedVariables false
set_option linter.unusedSimpArgs false

/-- What was taken is too old by now, or elder than the filter, or kept. -/
def Took (window now : Int) (m : FltM) (T : List MsgM) : Prop :=
  m.window = window ∧ ∀ t ∈ T, t.stamp ≤ now + window ∧ 0 ≤ t.stamp ∧ t.key.length = 32 ∧ (t.stamp ≤ m.since ∨ t.stamp < now - window ∨ t ∈ m.l)
theorem Took.new {window most : Int} (h0 : 0 ≤ window) (h1 : window ≤ 20) : Took window 0 (FltM.new window most 0) [] :=
  ⟨by unfold FltM.new; exact timeC_id h0 (by omega), fun t ht => nomatch ht⟩
theorem Took.time {window now now' : Int} {m : FltM} {T : List MsgM} (h : Took window now m T) (hn : now ≤ now') : Took window now' m T := by
  refine ⟨h.1, fun t ht => ?_⟩
  obtain ⟨a, b, c, d⟩ := h.2 t ht
  refine ⟨by omega, b, c, ?_⟩
  rcases d with d | d | d
  · exact .inl d
  · exact .inr (.inl (by omega))
  · exact .inr (.inr d)
theorem Took.again {window now most : Int} {m : FltM} {T : List MsgM} (h : Took window now m T) (h0 : 0 ≤ window) (h1 : window ≤ 20) (h2 : 0 ≤ now) (h3 : now ≤ 1000) : Took window now (FltM.new window most now) T := by
  refine ⟨by unfold FltM.new; exact timeC_id h0 (by omega), fun t ht => ?_⟩
  obtain ⟨a, b, c, d⟩ := h.2 t ht
  refine ⟨a, b, c, .inl ?_⟩
  unfold FltM.new
  rw [timeC_id h0 (by omega), timeC_id h2 (by omega)]
  exact a
theorem Took.young {window now : Int} {m : FltM} {T : List MsgM} {r : List MsgM} (h : Took window now m T) : Took window now { m with l := m.young now ++ r } T := by
  refine ⟨h.1, fun t ht => ?_⟩
  obtain ⟨a, b, c, d⟩ := h.2 t ht
  refine ⟨a, b, c, ?_⟩
  rcases d with d | d | d
  · exact .inl d
  · exact .inr (.inl d)
  · by_cases ho : t.stamp < now - window
    · exact .inr (.inl ho)
    · refine .inr (.inr (List.mem_append_left _ (List.mem_filter.2 ⟨d, ?_⟩)))
      unfold oldB
      rw [h.1, decide_eq_false ho]
      rfl
theorem Took.check {window now stamp : Int} {m : FltM} {T : List MsgM} {e : List UInt8} (h : Took window now m T) (he : e.length = 32) :
    (m.says now stamp e = 0 ∧ (⟨e, stamp⟩ : MsgM) ∉ T ∧ now - window ≤ stamp ∧ stamp ≤ now + window ∧ 0 ≤ stamp ∧ Took window now (m.check now stamp e) (⟨e, stamp⟩ :: T)) ∨ (m.says now stamp e ≠ 0 ∧ Took window now (m.check now stamp e) T) := by
  have hy : Took window now { m with l := m.young now } T := by
    have := h.young (r := [])
    rw [List.append_nil] at this
    exact this
  cases hb : FltM.bad now stamp e
  · cases hf : m.far now stamp
    · cases ha : (m.young now).any (fun x => x.key == e)
      · by_cases hm : m.most ≤ ((m.young now).length : Int)
        · obtain ⟨h1, h2⟩ := says_full hb hf ha hm
          rw [h1, h2]
          exact .inr ⟨by decide, hy⟩
        · obtain ⟨h1, h2⟩ := says_new hb hf ha hm
          rw [h1, h2]
          unfold FltM.far at hf
          rw [h.1] at hf
          simp only [Bool.or_eq_false_iff, decide_eq_false_iff_not] at hf
          obtain ⟨⟨f1, f2⟩, f3⟩ := hf
          have hst : 0 ≤ stamp := by
            unfold FltM.bad at hb
            simp only [Bool.or_eq_false_iff, bne_eq_false_iff_eq] at hb
            have := (timeC_bd stamp).1
            omega
          refine .inl ⟨rfl, fun ht => ?_, by omega, by omega, hst, h.1, fun t ht => ?_⟩
          · obtain ⟨a, b, c, d⟩ := h.2 _ ht
            dsimp only at a b c d
            rcases d with d | d | d
            · omega
            · omega
            · have hy2 : (⟨e, stamp⟩ : MsgM) ∈ m.young now := List.mem_filter.2 ⟨d, by unfold oldB; rw [h.1, decide_eq_false (show ¬ (⟨e, stamp⟩ : MsgM).stamp < now - window from f1)]; rfl⟩
              have := List.any_eq_false.1 ha _ hy2
              simp at this
          · rcases List.mem_cons.1 ht with rfl | ht
            · exact ⟨by dsimp only; omega, hst, he, .inr (.inr (by simp))⟩
            · exact (h.young (r := [⟨e, stamp⟩])).2 t ht
      · obtain ⟨h1, h2⟩ := says_seen hb hf ha
        rw [h1, h2]
        exact .inr ⟨by decide, hy⟩
    · obtain ⟨h1, h2⟩ := says_far hb hf
      rw [h1, h2]
      exact .inr ⟨by decide, hy⟩
  · have e1 : m.says now stamp e = 1 := by unfold FltM.says; rw [hb]; rfl
    have e2 : m.check now stamp e = m := by unfold FltM.check; rw [hb]; rfl
    rw [e1, e2]
    exact .inr ⟨by decide, h⟩
theorem says_neg {m : FltM} {now stamp : Int} {e : List UInt8} (h : stamp < 0) : m.says now stamp e = 1 := by
  have hb : FltM.bad now stamp e = true := by
    unfold FltM.bad
    have := (timeC_bd stamp).1
    have hne : (stamp != timeC stamp) = true := by rw [bne_iff_ne]; omega
    rw [hne]
    simp
  unfold FltM.says
  rw [hb]
  rfl

/-- A message's key in the law's map. -/
def kb (t : MsgM) : List UInt8 := t.key ++ [UInt8.ofNat t.stamp.toNat, UInt8.ofNat (t.stamp.toNat / 256), UInt8.ofNat (t.stamp.toNat / 65536)]
theorem kb_inj {t u : MsgM} (h1 : t.key.length = 32) (h2 : u.key.length = 32) (h3 : 0 ≤ t.stamp ∧ t.stamp ≤ 2000) (h4 : 0 ≤ u.stamp ∧ u.stamp ≤ 2000) (h : kb t = kb u) : t = u := by
  obtain ⟨k, s⟩ := t
  obtain ⟨k', s'⟩ := u
  dsimp only at h1 h2 h3 h4
  unfold kb at h
  obtain ⟨e1, e2⟩ := List.append_inj h (by rw [h1, h2])
  dsimp only at e1 e2
  subst e1
  injection e2 with a1 e2
  injection e2 with a2 _
  have b1 := congrArg UInt8.toNat a1
  have b2 := congrArg UInt8.toNat a2
  simp only [UInt8.toNat_ofNat'] at b1 b2
  have : s = s' := by omega
  rw [this]

/-- A map's block: the strings of K, each once. -/
def SeenS (b n : Nat) (K : List (List UInt8)) : Assn := fun h => ∃ es clock, h b = some (.map es clock) ∧ Fit Try.prog 9 (plainElem (H := Unit) Try.prog 3) es clock ∧ es.size ≤ n ∧
  ∀ k : List UInt8, (DataW.map ((es.toList.map (rg Try.prog 9 (plainElem (H := Unit) Try.prog 3))).foldr DataW.insert [])).atKey (.string k) (.lit (.int .i64 0)) = .lit (.int .i64 (if k ∈ K then 1 else 0))
section
variable {w0 w w' : World} {L : List Assn} {b n : Nat} {K : List (List UInt8)}
theorem SeenS.owns (h : Sat w0 w (SeenS b n K :: L)) : ∃ es, w.ownsMap Try.prog 9 (plainElem (H := Unit) Try.prog 3) b n (.map es) ∧ ∀ k : List UInt8, (DataW.map es).atKey (.string k) (.lit (.int .i64 0)) = .lit (.int .i64 (if k ∈ K then 1 else 0)) := by
  obtain ⟨_, h1, ⟨es, clock, hb, F, hs, hD⟩, l1, _⟩ := h
  exact ⟨_, ⟨es, clock, (l1 b _ hb).1, F, hs, rfl⟩, hD⟩
theorem SeenS.new (hs : Sat w0 w L) : Sat w0 (w.alloc (.map #[] 0)) (SeenS w.heap.size 0 [] :: L) := by
  refine (hs.alloc (.map #[] 0)).imp fun h hh => ?_
  obtain ⟨es, clock, hb, F, hs, hD⟩ := World.ownsMap_made (H := Unit) w Try.prog 9 (plainElem Try.prog 3)
  have e : (w.alloc (.map #[] 0)).heap[w.heap.size]? = some (.map #[] 0) := heap_alloc_new w _
  rw [e] at hb
  injection hb with hb
  injection hb with h1 h2
  subst h1; subst h2
  exact ⟨_, _, hh, F, hs, fun k => by simp [DataW.atKey]⟩
theorem SeenS.turn {n' : Nat} {K' : List (List UInt8)} {es : List (Lit × DataW Unit)} (h : Sat w0 w (SeenS b n K :: L)) (ho : w'.ownsMap Try.prog 9 (plainElem (H := Unit) Try.prog 3) b n' (.map es)) (hg : w.grownBy w' (some b))
    (hD : ∀ k : List UInt8, (DataW.map es).atKey (.string k) (.lit (.int .i64 0)) = .lit (.int .i64 (if k ∈ K' then 1 else 0))) : Sat w0 w' (SeenS b n' K' :: L) := by
  refine Sat.step h hg.os hg.tape hg.output hg.size fun h1 hA hin => ⟨fun k hk hn => hg.block k hk (fun e => ?_), ?_⟩
  · injection e with e
    subst e
    obtain ⟨es, clock, hb, _⟩ := hA
    rw [hb] at hn
    cases hn
  · obtain ⟨es, clock, hb, F, hs, hE⟩ := ho
    rw [hE] at hD
    refine ⟨fun k => if k = b then some (.map es clock) else none, ⟨es, clock, by simp, F, hs, hD⟩, fun k o hk => ?_, fun k hk => ?_⟩
    · by_cases e : k = b
      · subst e; simp at hk; rw [← hk]; exact hb
      · simp [e] at hk
    · by_cases e : k = b
      · subst e
        obtain ⟨es1, clock1, hb1, _⟩ := hA
        exact .inl (by rw [hb1]; simp)
      · simp [e] at hk
theorem key_str {s : List UInt8} (h : s.length ≤ maxLen) : keyOf Try.prog 9 (.string (strOf s)) = some (.string s) := by
  have hz : (strOf s).size ≤ maxLen := h
  simp [keyOf, Try.underlying9, mapKey, hz, strOf_toList]
set_option maxRecDepth 100000 in
theorem SeenS.look (h : Sat w0 w (SeenS b n K :: L)) {s : List UInt8} (hs : s.length ≤ maxLen) :
    (Instr.lookup 53 (.map (some b)) (.string (strOf s)) false).run Try.prog w = .ok (.int .i64 (if s ∈ K then 1 else 0)) w := by
  obtain ⟨es, ho, hD⟩ := SeenS.owns h
  have hz : (zeroValue 3).run Try.prog w = .ok (.int .i64 0) w := by kernel_rfl
  obtain ⟨c, hr, hat, _⟩ := ho.lookup_int (Maps.string_keyed Try.underlying9) Try.underlying53 Try.underlying3 hz (key_str hs)
  rw [hD s] at hat
  rw [hr]
  injection hat with hat
  injection hat with _ hat
  rw [hat]
set_option maxRecDepth 100000 in
theorem SeenS.put (h : Sat w0 w (SeenS b n K :: L)) (hn : n < maxLen) {s : List UInt8} (hs : s.length ≤ maxLen) :
    ∃ w', (Instr.mapUpdate 53 (.map (some b)) (.string (strOf s)) (.int .i64 1)).run Try.prog w = .ok () w' ∧ Sat w0 w' (SeenS b (n + 1) (s :: K) :: L) := by
  obtain ⟨es, ho, hD⟩ := SeenS.owns h
  obtain ⟨w', hr, ho2, hg⟩ := ho.update (t := 53) (e := 3) (Maps.string_keyed Try.underlying9) Try.underlying53 hn (key_str hs) (plainElem_int Try.underlying3 (a := 1) (by decide))
  refine ⟨w', hr, SeenS.turn h ho2 hg fun k => ?_⟩
  by_cases hk : k = s
  · subst hk
    have := atKey_put_same (H := Unit) (D := .map es) (k := .string k) ⟨es, rfl⟩ trivial (.lit (.int .i64 1)) (.lit (.int .i64 0))
    rw [if_pos (List.mem_cons_self)]
    exact this
  · have := atKey_put_other (H := Unit) (D := .map es) (k := .string s) (k' := .string k) (by intro e; injection e with e; exact hk e) (.lit (.int .i64 1)) (.lit (.int .i64 0))
    have e2 : (if k ∈ s :: K then (1 : Int) else 0) = if k ∈ K then 1 else 0 := by simp [hk]
    rw [e2, ← hD k]
    exact this
end
end Go.Proofs.Ytipkcbphjgmgiaa
