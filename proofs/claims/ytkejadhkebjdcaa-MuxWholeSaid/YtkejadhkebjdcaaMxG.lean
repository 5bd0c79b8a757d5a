/- What a pack's bodies hold, in plain Lean; an append of a whole list of elements. -/
import Derived.Test.YtkejadhkebjdcaaMpk
import Derived.Test.YtkejadhkebjdcaaFoc
namespace Go.Proofs.Ytkejadhkebjdcaa
open Go Go.RowKit
set_option linter.unusedVariables false
set_option linter.unusedSimpArgs false

def grpS (s : List (List FrM) × List FrM) (f : FrM) : List (List FrM) × List FrM :=
  if f.may then (if 4096 < (encL s.2).length + f.enc.length then (s.1 ++ [s.2], [f]) else (s.1, s.2 ++ [f])) else s
def grpL (l : List FrM) : List (List FrM) × List FrM := l.foldl grpS ([], [])
theorem grpL_nil : grpL [] = ([], []) := rfl
theorem grpL_snoc (l : List FrM) (f : FrM) : grpL (l ++ [f]) = grpS (grpL l) f := by unfold grpL; simp
theorem grpS_no {s : List (List FrM) × List FrM} {f : FrM} (h : f.may = false) : grpS s f = s := by unfold grpS; simp [h]
theorem grpS_new {s : List (List FrM) × List FrM} {f : FrM} (h : f.may = true) (hl : 4096 < (encL s.2).length + f.enc.length) : grpS s f = (s.1 ++ [s.2], [f]) := by unfold grpS; rw [if_pos h, if_pos hl]
theorem grpS_on {s : List (List FrM) × List FrM} {f : FrM} (h : f.may = true) (hl : ¬ 4096 < (encL s.2).length + f.enc.length) : grpS s f = (s.1, s.2 ++ [f]) := by unfold grpS; rw [if_pos h, if_neg hl]

/-- Each list's first frame would have been too much for the list ahead of it. -/
def Ch (gs : List (List FrM)) : Prop := ∀ j g h, gs[j]? = some g → gs[j + 1]? = some h → ∃ f r, h = f :: r ∧ 4096 < (encL g).length + f.enc.length
theorem Ch.pre {A : List (List FrM)} {x : List FrM} (h : Ch (A ++ [x])) : Ch A := fun j g k hg hk =>
  h j g k (by rw [List.getElem?_append_left (List.getElem?_eq_some_iff.1 hg).1]; exact hg) (by rw [List.getElem?_append_left (List.getElem?_eq_some_iff.1 hk).1]; exact hk)
theorem Ch.snoc {A : List (List FrM)} {x : List FrM} {f : FrM} (h : Ch (A ++ [x])) (hf : 4096 < (encL x).length + f.enc.length) : Ch (A ++ [x] ++ [[f]]) := fun j g k hg hk => by
  rcases Nat.lt_trichotomy (j + 1) (A ++ [x]).length with h1 | h1 | h1
  · rw [List.getElem?_append_left (by omega)] at hg hk
    exact h j g k hg hk
  · rw [List.getElem?_append_left (by omega)] at hg
    rw [List.getElem?_append_right (by omega), h1, Nat.sub_self] at hk
    have hj : j = A.length := by simp at h1; exact h1
    rw [List.getElem?_append_right (by omega), hj, Nat.sub_self] at hg
    simp at hg hk
    subst hg hk
    exact ⟨f, [], rfl, hf⟩
  · have := (List.getElem?_eq_some_iff.1 hk).1
    simp at this h1
    omega
theorem Ch.on {A : List (List FrM)} {x : List FrM} {f : FrM} (h : Ch (A ++ [x])) : Ch (A ++ [x ++ [f]]) := fun j g k hg hk => by
  have hb := (List.getElem?_eq_some_iff.1 hk).1
  simp at hb
  rcases Nat.lt_or_ge (j + 1) A.length with h1 | h1
  · rw [List.getElem?_append_left (by omega)] at hg hk
    exact h.pre j g k hg hk
  · have hj : j + 1 = A.length := by omega
    rw [List.getElem?_append_left (by omega)] at hg
    rw [List.getElem?_append_right (by omega), hj, Nat.sub_self] at hk
    simp at hk
    subst hk
    obtain ⟨f', r, hx, h2⟩ := h j g x (by rw [List.getElem?_append_left (by omega)]; exact hg) (by rw [List.getElem?_append_right (by omega), hj, Nat.sub_self]; rfl)
    subst hx
    exact ⟨f', r ++ [f], rfl, h2⟩

structure GI (l : List FrM) (s : List (List FrM) × List FrM) : Prop where
  pack : packL l = (s.1.map encL, encL s.2)
  flat : s.1.flatten ++ s.2 = l.filter (fun f => f.may)
  each : ∀ g ∈ s.1, g ≠ [] ∧ (encL g).length ≤ 4096
  last : (encL s.2).length ≤ 4096
  ch : Ch (s.1 ++ [s.2])
theorem encL_one (f : FrM) : encL [f] = f.enc := by simp [encL]
theorem grp_inv (l : List FrM) : GI l (grpL l) := by
  rw [← List.reverse_reverse l]
  induction l.reverse with
  | nil =>
    refine ⟨rfl, rfl, by simp [grpL_nil], by simp [grpL_nil, encL], fun j g h hg hh => ?_⟩
    have := (List.getElem?_eq_some_iff.1 hh).1
    simp [grpL_nil] at this
  | cons f r ih =>
    rw [List.reverse_cons, grpL_snoc]
    generalize r.reverse = r at *
    obtain ⟨i1, i2, i3, i4, i5⟩ := ih
    generalize grpL r = s at *
    obtain ⟨A, x⟩ := s
    dsimp only at *
    cases hm : f.may
    · rw [grpS_no hm]
      refine ⟨by rw [packL_snoc, packS_no hm, i1], by rw [List.filter_append, i2]; simp [hm], i3, i4, i5⟩
    · have he := enc_le hm
      by_cases hl : 4096 < (encL x).length + f.enc.length
      · rw [grpS_new hm hl]
        refine ⟨by rw [packL_snoc, i1, packS_new hm hl]; simp [encL_one], by rw [List.filter_append, ← i2]; simp [hm], ?_, by rw [encL_one]; omega, i5.snoc hl⟩
        intro g hg
        rcases List.mem_append.1 hg with h | h
        · exact i3 g h
        · simp at h
          subst h
          refine ⟨?_, i4⟩
          rintro rfl
          simp [encL] at hl
          omega
      · rw [grpS_on hm hl]
        refine ⟨by rw [packL_snoc, i1, packS_on hm hl, encL_snoc], by rw [List.filter_append, ← i2]; simp [hm], i3, by rw [encL_snoc, List.length_append]; exact Nat.le_of_not_lt hl, i5.on⟩
theorem pack_groups (l : List FrM) : ∃ gs : List (List FrM), packM l = gs.map encL ∧ gs.flatten = l.filter (fun f => f.may) ∧ (∀ g ∈ gs, g ≠ [] ∧ (encL g).length ≤ 4096) ∧ Ch gs := by
  obtain ⟨i1, i2, i3, i4, i5⟩ := grp_inv l
  generalize grpL l = s at *
  obtain ⟨A, x⟩ := s
  dsimp only at *
  by_cases h0 : 0 < (encL x).length
  · refine ⟨A ++ [x], by unfold packM; rw [i1, if_pos h0]; simp, by rw [← i2]; simp, ?_, i5⟩
    intro g hg
    rcases List.mem_append.1 hg with h | h
    · exact i3 g h
    · simp at h
      subst h
      exact ⟨fun e => by rw [e] at h0; simp [encL] at h0, i4⟩
  · have hx : x = [] := by
      cases x with
      | nil => rfl
      | cons f r =>
        exfalso
        rw [encL_cons, List.length_append] at h0
        have := enc_len3 f
        omega
    subst hx
    exact ⟨A, by unfold packM; rw [i1, if_neg h0], by rw [← i2]; simp, i3, i5.pre⟩
theorem dec_group {g : List FrM} (h : ∀ f ∈ g, f.may = true) : decF (encL g) = (0, g) := by
  have h1 := decF_encL h []
  rw [List.append_nil, decF_nil, dres_ok, List.append_nil] at h1
  exact h1

/-! ### A whole list appended -/
section
variable {w0 w : World} {L : List Assn}
theorem ones_of {α : Type} {El : α → List Value → Assn} (hone : ∀ (x : α) (cs : List Value) (M : List Assn), Sat w0 w (El x cs :: M) → ∀ u ∈ cs, u.oneCell' = true) {l : List α} {css : List (List Value)} (hl : css.length = l.length)
    {A : List Assn} (h : Sat w0 w (A ++ List.zipWith El l css ++ L)) : ∀ u ∈ css.flatten, u.oneCell' = true := by
  intro u hu
  obtain ⟨cs, hcs, hu⟩ := List.mem_flatten.1 hu
  obtain ⟨i, hi, hc⟩ := List.mem_iff_getElem.1 hcs
  have hz : (List.zipWith El l css)[i]? = some (El (l[i]'(by omega)) cs) := by
    rw [List.getElem?_zipWith, List.getElem?_eq_getElem hi, List.getElem?_eq_getElem (show i < l.length by omega), hc]
  have hzl : i < (List.zipWith El l css).length := (List.getElem?_eq_some_iff.1 hz).1
  have hsp : List.zipWith El l css = (List.zipWith El l css).take i ++ El (l[i]'(by omega)) cs :: (List.zipWith El l css).drop (i + 1) := by
    have hz2 : (List.zipWith El l css)[i] = El (l[i]'(by omega)) cs := (List.getElem?_eq_some_iff.1 hz).2
    rw [← hz2, List.getElem_cons_drop, List.take_append_drop]
  rw [hsp] at h
  have h' : Sat w0 w ((A ++ (List.zipWith El l css).take i) ++ El (l[i]'(by omega)) cs :: ((List.zipWith El l css).drop (i + 1) ++ L)) := by simpa using h
  exact hone _ cs _ (Sat.front _ h') u hu
theorem run_append_all {P : Program} {α : Type} {t tx ty e e' : TypeId} {i : TypeInfo} {z : Value} {sz bytes : Nat} (ht : P.underlying t = some (.slice e)) (htx : P.underlying tx = some (.slice e')) (hi : P.info? e = some i) (hz : i.zero = some z)
    (hsize : i.size = sz) (hby : i.bytes = bytes) (hzs : z.cells.size = sz) {El : α → List Value → Assn} {v v2 : Value} {l l2 : List α} (hone : ∀ (x : α) (cs : List Value) (M : List Assn), Sat w0 w (El x cs :: M) → ∀ u ∈ cs, u.oneCell' = true)
    (hs : Sat w0 w (OwnL e sz El v l :: OwnL e sz El v2 l2 :: L)) (h0 : 0 < l2.length) (h63 : l.length + l2.length ≤ maxLen) (hbytes : (l.length + l2.length) * bytes ≤ 140737488355328) :
    ∃ a' c' w', (Builtin.append_ #[t, tx] ty #[v, v2]).run P w = .ok (.slice a' (l.length + l2.length) c') w' ∧ Sat w0 w' (OwnL e sz El (.slice a' (l.length + l2.length) c') (l ++ l2) :: L) := by
  obtain ⟨css, h2, h3, h4⟩ := OwnL.opn hs
  have h5 := Sat.front (OwnS e sz v l.length css.flatten :: List.zipWith El l css) (L2 := L) (by simpa using h4)
  obtain ⟨css2, k2, k3, h6⟩ := OwnL.opn h5
  obtain ⟨b, off, cap, rfl, _, _, hc, _⟩ := OwnS.cells h6 h0
  have hone2 := ones_of hone k2 (A := [_]) (by simpa using h6)
  have hsrc : Src P sz tx (.slice (some ⟨b, off, none⟩) l2.length cap) l2.length css2.flatten w := by
    refine Src.ofSlice w htx _ _ cap _ (by rw [flatten_len k3, k2]) (fun j u hj => ?_) hone2
    rw [addr_add]
    exact hc j u hj
  have h7 : Sat w0 w (OwnS e sz v l.length css.flatten :: ((OwnS e sz (.slice (some ⟨b, off, none⟩) l2.length cap) l2.length css2.flatten :: List.zipWith El l2 css2) ++ (List.zipWith El l css ++ L))) :=
    Sat.front (OwnS e sz (.slice (some ⟨b, off, none⟩) l2.length cap) l2.length css2.flatten :: List.zipWith El l2 css2) (by simpa using h6)
  obtain ⟨v', w', hr, h8, _⟩ := run_append_sat (P := P) (ty := ty) ht hi hz hsize hby hzs h7 hsrc h63 hbytes
  obtain ⟨a', c', rfl, _, _⟩ := OwnS.form h8
  refine ⟨a', c', w', hr, OwnL.shut (css := css ++ css2) (by simp [h2, k2]) (fun c hcs => ?_) ?_⟩
  · rcases List.mem_append.1 hcs with h | h
    · exact h3 c h
    · exact k3 c h
  · rw [List.zipWith_append h2.symm, List.flatten_append, List.length_append]
    refine Sat.perm (List.Perm.cons _ ?_) (Sat.d2 (L := List.zipWith El l2 css2 ++ (List.zipWith El l css ++ L)) (by simpa using h8))
    rw [← List.append_assoc]
    exact List.Perm.append_right L List.perm_append_comm
theorem wpList_append_all {P : Program} {α : Type} {ops : Array Oper} {rest : List Oper} {o : Oper} {a : Act} {Q : Exit → Act → World → Prop} (hgd : o.guard = none) (s x : Operand) (t tx : TypeId)
    (ho : o.op = .call { callee := .builtin .append, args := #[s, x], argTypes := #[t, tx] })
    {e e' : TypeId} {i : TypeInfo} {z : Value} {sz bytes : Nat} (ht : P.underlying t = some (.slice e)) (htx : P.underlying tx = some (.slice e')) (hi : P.info? e = some i) (hz : i.zero = some z)
    (hsize : i.size = sz) (hby : i.bytes = bytes) (hzs : z.cells.size = sz) {El : α → List Value → Assn} {v v2 : Value} {l l2 : List α} (hone : ∀ (x : α) (cs : List Value) (M : List Assn), Sat w0 w (El x cs :: M) → ∀ u ∈ cs, u.oneCell' = true) (hv : a.eval s = v)
    (hs : Sat w0 w (OwnL e sz El v l :: OwnL e sz El v2 l2 :: L)) (hx : a.eval x = v2) (h0 : 0 < l2.length) (h63 : l.length + l2.length ≤ maxLen) (hbytes : (l.length + l2.length) * bytes ≤ 140737488355328)
    (h : ∀ a' c' w', Sat w0 w' (OwnL e sz El (.slice a' (l.length + l2.length) c') (l ++ l2) :: L) → wpList P ops Q rest (a.put o.dst (.slice a' (l.length + l2.length) c')) w') : wpList P ops Q (o :: rest) a w := by
  obtain ⟨a', c', w', hr, h2⟩ := run_append_all (P := P) (ty := o.type) ht htx hi hz hsize hby hzs hone hs h0 h63 hbytes
  refine wpList_plain hgd fun K hK => ?_
  unfold Oper.wp execOp
  simp only [ho, resolve, invoke, builtin, Sem.run_bind, Sem.run_pure, Result.andThen_ok, List.map_toArray, List.map_cons, List.map_nil, hv, hx, hr]
  exact hK _ _ (h a' c' w' h2)
theorem FrE.ones (f : FrM) (cs : List Value) (M : List Assn) (h : Sat w0 w (FrE f cs :: M)) : ∀ u ∈ cs, u.oneCell' = true := by
  obtain ⟨ip, d, rfl, h1⟩ := FrE.opn h
  obtain ⟨x, c, rfl, _, _⟩ := OwnS.form h1
  obtain ⟨z, k, rfl, _, _⟩ := OwnS.form h1.drop
  exact frC_one f rfl rfl
end
end Go.Proofs.Ytkejadhkebjdcaa
