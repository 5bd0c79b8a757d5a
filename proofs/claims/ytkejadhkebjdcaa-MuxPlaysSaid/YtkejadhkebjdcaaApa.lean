/- Append of a whole owned list onto another, in a region that draws its order. -/
import Derived.Test.YtkejadhkebjdcaaOwn
import Derived.Test.YtkejadhkebjdcaaStreamN
namespace Go.Proofs.Ytkejadhkebjdcaa
open Go Go.RowKit
set_option linter.unusedVariables false
set_option linter.unusedSimpArgs false
theorem chunk_le (l : List UInt8) : (chunk l).length = (l.length + 999) / 1000 := by
  induction hn : l.length using Nat.strongRecOn generalizing l with
  | _ n ih =>
    by_cases h : l.length = 0
    · have : l = [] := List.eq_nil_of_length_eq_zero h
      subst this
      rw [chunk_nil]
      simp at hn
      subst hn
      rfl
    · rw [chunk_cons (by omega), List.length_cons, ih (l.drop 1000).length (by rw [List.length_drop]; omega) _ rfl, List.length_drop]
      omega
section
variable {w0 w : World} {L : List Assn}
theorem ones_in {α : Type} {El : α → List Value → Assn} (hone : ∀ (x : α) (cs : List Value) (M : List Assn), Sat w0 w (El x cs :: M) → ∀ u ∈ cs, u.oneCell' = true) {l : List α} {css : List (List Value)} (hl : css.length = l.length)
    {A : List Assn} (h : Sat w0 w (A ++ List.zipWith El l css ++ L)) : ∀ u ∈ css.flatten, u.oneCell' = true := by
  intro u hu
  obtain ⟨cs, hcs, hu⟩ := List.mem_flatten.1 hu
  obtain ⟨i, hi, hc⟩ := List.mem_iff_getElem.1 hcs
  have hz : (List.zipWith El l css)[i]? = some (El (l[i]'(by omega)) cs) := by
    rw [List.getElem?_zipWith, List.getElem?_eq_getElem hi, List.getElem?_eq_getElem (show i < l.length by omega), hc]
  have hzl : i < (List.zipWith El l css).length := (List.getElem?_eq_some_iff.1 hz).1
  have hsp : List.zipWith El l css = (List.zipWith El l css).take i ++ El (l[i]'(by omega)) cs :: (List.zipWith El l css).drop (i + 1) := by
    have hz2 : (List.zipWith El l css)[i] = El (l[i]'(by omega)) cs := (List.getElem?_eq_some_iff.1 hz).2
    rw [← hz2, List.getElem_cons_drop, List.take_append_drop]
  rw [hsp] at h
  have h' : Sat w0 w ((A ++ (List.zipWith El l css).take i) ++ El (l[i]'(by omega)) cs :: ((List.zipWith El l css).drop (i + 1) ++ L)) := by simpa using h
  exact hone _ cs _ (Sat.front _ h') u hu
theorem src_own {P : Program} {e e' tx : TypeId} {sz n : Nat} {v : Value} {xs : List Value} (htx : P.underlying tx = some (.slice e')) (h : Sat w0 w (OwnS e sz v n xs :: L)) (h1 : ∀ u ∈ xs, u.oneCell' = true) : Src P sz tx v n xs w := by
  have hl := OwnS.len h
  by_cases hn : 0 < n
  · obtain ⟨b, off, cap, rfl, _, _, hc, _⟩ := OwnS.cells h hn
    refine Src.ofSlice w htx _ _ cap _ hl (fun j u hj => ?_) h1
    rw [addr_add]
    exact hc j u hj
  · obtain rfl : n = 0 := by omega
    obtain rfl : xs = [] := List.eq_nil_of_length_eq_zero (by simpa using hl)
    rcases OwnS.cases h with ⟨rfl, _⟩ | ⟨g, off, cap, cur, rfl, _⟩
    · exact Src.ofNil w htx _
    · exact Src.ofSlice w htx _ _ cap _ (by simp) (fun j u hj => by cases hj) h1
theorem run_app2 {P : Program} {α : Type} {t tx ty e e' : TypeId} {i : TypeInfo} {z : Value} {sz bytes : Nat} (ht : P.underlying t = some (.slice e)) (htx : P.underlying tx = some (.slice e')) (hi : P.info? e = some i) (hz : i.zero = some z)
    (hsize : i.size = sz) (hby : i.bytes = bytes) (hzs : z.cells.size = sz) {El : α → List Value → Assn} {v v2 : Value} {l l2 : List α} (hone : ∀ (x : α) (cs : List Value) (M : List Assn), Sat w0 w (El x cs :: M) → ∀ u ∈ cs, u.oneCell' = true)
    (hs : Sat w0 w (OwnL e sz El v l :: OwnL e sz El v2 l2 :: L)) (h63 : l.length + l2.length ≤ maxLen) (hbytes : (l.length + l2.length) * bytes ≤ 140737488355328) :
    ∃ a' c' w', (Builtin.append_ #[t, tx] ty #[v, v2]).run P w = .ok (.slice a' (l.length + l2.length) c') w' ∧ Sat w0 w' (OwnL e sz El (.slice a' (l.length + l2.length) c') (l ++ l2) :: L) := by
  obtain ⟨css, h2, h3, h4⟩ := OwnL.opn hs
  have h5 := Sat.front (OwnS e sz v l.length css.flatten :: List.zipWith El l css) (L2 := L) (by simpa using h4)
  obtain ⟨css2, k2, k3, h6⟩ := OwnL.opn h5
  have hone2 := ones_in hone k2 (A := [_]) (by simpa using h6)
  have hsrc := src_own (P := P) htx (by simpa using h6) hone2
  have h7 : Sat w0 w (OwnS e sz v l.length css.flatten :: ((OwnS e sz v2 l2.length css2.flatten :: List.zipWith El l2 css2) ++ (List.zipWith El l css ++ L))) :=
    Sat.front (OwnS e sz v2 l2.length css2.flatten :: List.zipWith El l2 css2) (by simpa using h6)
  obtain ⟨v', w', hr, h8, _⟩ := run_append_sat (P := P) (ty := ty) ht hi hz hsize hby hzs h7 hsrc h63 hbytes
  obtain ⟨a', c', rfl, _, _⟩ := OwnS.form h8
  refine ⟨a', c', w', hr, OwnL.shut (css := css ++ css2) (by simp [h2, k2]) (fun c hcs => ?_) ?_⟩
  · rcases List.mem_append.1 hcs with h | h
    · exact h3 c h
    · exact k3 c h
  · rw [List.zipWith_append h2.symm, List.flatten_append, List.length_append]
    refine Sat.perm (List.Perm.cons _ ?_) (Sat.d2 (L := List.zipWith El l2 css2 ++ (List.zipWith El l css ++ L)) (by simpa using h8))
    rw [← List.append_assoc]
    exact List.Perm.append_right L List.perm_append_comm
theorem FrE.ones1 (f : FrM) (cs : List Value) (M : List Assn) (h : Sat w0 w (FrE f cs :: M)) : ∀ u ∈ cs, u.oneCell' = true := by
  obtain ⟨ip, d, rfl, h1⟩ := FrE.opn h
  obtain ⟨x, c, rfl, _, _⟩ := OwnS.form h1
  obtain ⟨z, k, rfl, _, _⟩ := OwnS.form h1.drop
  exact frC_one f rfl rfl
/-- append of a list of frames, in a region that draws its order. -/
theorem step_append_fr {ops : Array Oper} {o : Oper} {a : Act} {K : Act → World → Prop} {Q : Exit → Act → World → Prop} (hgd : o.guard = none) (s x : Operand)
    (ho : o.op = .call { callee := .builtin .append, args := #[s, x], argTypes := #[34, 34] })
    {v v2 : Value} {l l2 : List FrM} (hv : a.eval s = v) (hs : Sat w0 w (FramesA v l :: FramesA v2 l2 :: L)) (hx : a.eval x = v2) (hn : l.length + l2.length ≤ 100000000)
    (h : ∀ a' c' w', Sat w0 w' (FramesA (.slice a' (l.length + l2.length) c') (l ++ l2) :: L) → K (a.put o.dst (.slice a' (l.length + l2.length) c')) w') :
    if Region.wanted o (yielded ops a.tmps) = true then o.wp Try.prog a w K Q else K (a.put o.dst undef) w := by
  rw [if_pos (by simp [Region.wanted, hgd])]
  obtain ⟨i0, hi0, hz0, hz1, hz2⟩ := finfo
  obtain ⟨a', c', w', hr, h2⟩ := run_app2 (P := Try.prog) (ty := o.type) Try.underlying34 Try.underlying34 hi0 hz0 hz1 hz2 rfl (fun f cs M h => FrE.ones1 f cs M h) hs (by simp only [maxLen]; omega) (by omega)
  unfold Oper.wp execOp
  simp only [ho, resolve, invoke, builtin, Sem.run_bind, Sem.run_pure, Result.andThen_ok, List.map_toArray, List.map_cons, List.map_nil, hv, hx, hr]
  exact h a' c' w' h2
/-- append of a list of frames, in the text's order. -/
theorem wpList_append_fr {ops : Array Oper} {rest : List Oper} {o : Oper} {a : Act} {Q : Exit → Act → World → Prop} (hgd : o.guard = none) (s x : Operand)
    (ho : o.op = .call { callee := .builtin .append, args := #[s, x], argTypes := #[34, 34] })
    {v v2 : Value} {l l2 : List FrM} (hv : a.eval s = v) (hs : Sat w0 w (FramesA v l :: FramesA v2 l2 :: L)) (hx : a.eval x = v2) (hn : l.length + l2.length ≤ 100000000)
    (h : ∀ a' c' w', Sat w0 w' (FramesA (.slice a' (l.length + l2.length) c') (l ++ l2) :: L) → wpList Try.prog ops Q rest (a.put o.dst (.slice a' (l.length + l2.length) c')) w') : wpList Try.prog ops Q (o :: rest) a w := by
  obtain ⟨i0, hi0, hz0, hz1, hz2⟩ := finfo
  obtain ⟨a', c', w', hr, h2⟩ := run_app2 (P := Try.prog) (ty := o.type) Try.underlying34 Try.underlying34 hi0 hz0 hz1 hz2 rfl (fun f cs M h => FrE.ones1 f cs M h) hs (by simp only [maxLen]; omega) (by omega)
  refine wpList_plain hgd fun K hK => ?_
  unfold Oper.wp execOp
  simp only [ho, resolve, invoke, builtin, Sem.run_bind, Sem.run_pure, Result.andThen_ok, List.map_toArray, List.map_cons, List.map_nil, hv, hx, hr]
  exact hK _ _ (h a' c' w' h2)
end
end Go.Proofs.Ytkejadhkebjdcaa
