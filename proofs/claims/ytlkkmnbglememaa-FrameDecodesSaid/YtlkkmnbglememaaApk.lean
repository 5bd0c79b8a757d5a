/- append of bytes, what it appended to still read; general but for the numbers of the bytes' types. -/
import Derived.Test.YtlkkmnbglememaaApp
namespace Go.Proofs.Ytlkkmnbglememaa
open Go Go.RowKit
set_option linter.unusedVariables false
set_option linter.unusedSimpArgs false
section
variable {w0 w : World} {L : List Assn}
theorem RdB.begins {w : World} {a : Option Addr} {c n : Nat} {r p : List UInt8} (h : RdB w (.slice a r.length c) r) (hp : r.take n = p) (hn : p.length = n) : RdB w (.slice a p.length c) p := by
  obtain ⟨a1, c1, he, g1, g2, g3, g4⟩ := h
  injection he with he _ hc
  subst he hc
  have hle : n ≤ r.length := by rw [← hn, ← hp, List.length_take]; omega
  refine ⟨a, c, rfl, by omega, g2, g3, fun h0 => ?_⟩
  obtain ⟨b, off, e, g5, g6⟩ := g4 (by omega)
  refine ⟨b, off, e, g5, fun i hi => ?_⟩
  rw [g6 i (by omega), ← hp]
  congr 3
  simp only [List.getD, List.getElem?_take, if_pos (show i < n by omega)]
/-- append(v, x...): what is behind it, and that v reads as it did as long as that stays. -/
theorem run_append_keep {v x : Value} {tx ty : TypeId} {p q : List UInt8} (hs : Sat w0 w (OwnB 5 v p :: L)) (hsrc : Src Try.prog 1 tx x q.length (bytesC q) w) (hmax : p.length + q.length ≤ 140737488355328) :
    ∃ a' c' w' N, (Builtin.append_ #[22, tx] ty #[v, x]).run Try.prog w = .ok (.slice a' (p ++ q).length c') w' ∧ Sat w0 w' (OwnB 5 (.slice a' (p ++ q).length c') (p ++ q) :: (N ++ L)) ∧
      ∀ (W : World) (L' : List Assn), Sat w0 W (L' ++ (OwnB 5 (.slice a' (p ++ q).length c') (p ++ q) :: (N ++ L))) → RdB W v p := by
  obtain ⟨i0, hi0, hz0, hz1, hz2⟩ := info_u8
  have hl := OwnS.len hs
  have hpl : (bytesC p).length = p.length := bytesC_length p
  have hql : (bytesC q).length = q.length := bytesC_length q
  rcases OwnS.cases hs with ⟨rfl, hp0, _, hL⟩ | ⟨g, off, cap, cur, rfl, h1, h2, h3, h4, hb⟩
  · have hpn : p = [] := List.eq_nil_of_length_eq_zero hp0
    subst hpn
    obtain ⟨v', w', hr, h2, _⟩ := run_append_sat (P := Try.prog) (ty := ty) Try.underlying22 hi0 hz0 hz1 hz2 rfl hs hsrc (by simp only [maxLen]; simp at hmax ⊢; omega) (by simp at hmax ⊢; omega)
    obtain ⟨a', c', rfl, _, _⟩ := OwnS.form h2
    simp only [List.length_nil, Nat.zero_add, List.nil_append, bytesC_nil] at h2 hr ⊢
    exact ⟨a', c', w', [], hr, h2, fun W L' _ => RdB.nil W⟩
  · by_cases hroom : p.length + q.length ≤ cap
    · obtain ⟨v', w', hr, h2', _⟩ := run_append_sat (P := Try.prog) (ty := ty) Try.underlying22 hi0 hz0 hz1 hz2 rfl hs hsrc (by simp only [maxLen]; omega) (by omega)
      have hfit : off + p.length * 1 + (bytesC q).length ≤ cur.size := by rw [hql]; omega
      have hr2 := run_append_room_src (P := Try.prog) w 22 tx ty 5 i0 Try.underlying22 hi0 g off p.length cap x q.length (bytesC q) (by rw [hz1]; exact hsrc) hroom
        (fun j hj => by
          rw [hz1]
          have : w.cell? ⟨g, off + p.length * 1 + j, none⟩ = cur[off + p.length * 1 + j]? := cell_at hb.blk.1 _
          rw [this, Array.getElem?_eq_getElem (by omega)]
          rfl)
        (fun j _ => hb.frozen _)
      rw [hr2] at hr
      injection hr with hr5 hr6
      subst hr5 hr6
      rw [← bytesC_append] at h2'
      refine ⟨some ⟨g, off, none⟩, cap, _, [], by rw [List.length_append]; exact hr2, by rw [List.length_append]; unfold OwnB; rw [List.length_append]; exact h2', fun W L' hW => ?_⟩
      have h5 := OwnB.rd (Sat.front L' hW)
      exact RdB.begins h5 (List.take_left) rfl
    · have hr := run_append_grow_src (P := Try.prog) w 22 tx ty 5 i0 _ Try.underlying22 hi0 hz0 (some ⟨g, off, none⟩) p.length cap (bytesC p) (by rw [hz1]; exact owned_firstCells hs) x q.length (bytesC q) (by rw [hz1]; exact hsrc) (by omega) (by omega) (by rw [hz2]; exact growslice_fits (by omega) (by omega))
      have hge := grownCap_ge w (p.length + q.length) cap 5
      have hcm : grownCap w (p.length + q.length) cap 5 ≤ maxLen := grownCap_le_maxLen w _ cap 5 (by simp only [maxLen]; omega)
      have h5 := hs.drew.alloc (.cells ((bytesC p ++ bytesC q).toArray ++ Builtin.zeroCells (Value.int .u8 0).cells (grownCap w (p.length + q.length) cap 5 - (p.length + q.length))) 5 (0, 0))
      obtain ⟨W5, hW5⟩ : ∃ W5, w.drew.alloc (.cells ((bytesC p ++ bytesC q).toArray ++ Builtin.zeroCells (Value.int .u8 0).cells (grownCap w (p.length + q.length) cap 5 - (p.length + q.length))) 5 (0, 0)) = W5 := ⟨_, rfl⟩
      rw [hW5] at h5 hr
      have h6 : Sat w0 W5 (OwnB 5 (.slice (some ⟨w.heap.size, 0, none⟩) (p ++ q).length (grownCap w (p.length + q.length) cap 5)) (p ++ q) :: (OwnB 5 (.slice (some ⟨g, off, none⟩) p.length cap) p :: L)) := by
        unfold OwnB
        rw [List.length_append]
        refine OwnS.ofBlk h5 hge hcm ?_ ?_
        · simp only [Array.size_append, List.size_toArray, List.length_append, size_zeroCells, hpl, hql, show (Value.int .u8 0).cells.size = 1 from rfl]
          omega
        · simp only [Array.toList_append, List.drop_zero, Nat.mul_one]
          rw [bytesC_append, ← hpl, ← hql, ← List.length_append]
          exact List.take_left
      refine ⟨_, _, _, [OwnB 5 (.slice (some ⟨g, off, none⟩) p.length cap) p], by rw [List.length_append]; exact hr, h6, fun W L' hW => ?_⟩
      exact OwnB.rd (Sat.front (L' ++ [_]) (by rw [List.append_assoc]; exact hW))
theorem wpList_append_k {ops : Array Oper} {rest : List Oper} {o : Oper} {a : Act} {Q : Exit → Act → World → Prop} (hgd : o.guard = none) (s x : Operand) (tx : TypeId)
    (ho : o.op = .call { callee := .builtin .append, args := #[s, x], argTypes := #[22, tx] })
    {v vx : Value} {p q : List UInt8} (hv : a.eval s = v) (hs : Sat w0 w (OwnB 5 v p :: L)) (hx : a.eval x = vx) (hsrc : Src Try.prog 1 tx vx q.length (bytesC q) w) (r : List UInt8) (n : Nat) (hr : p ++ q = r) (hn : r.length = n) (h63 : n ≤ 140737488355328)
    (h : ∀ a' c' w' N, Sat w0 w' (OwnB 5 (.slice a' n c') r :: (N ++ L)) → Hid (∀ (W : World) (L' : List Assn), Sat w0 W (L' ++ (OwnB 5 (.slice a' n c') r :: (N ++ L))) → RdB W v p) → wpList Try.prog ops Q rest (a.put o.dst (.slice a' n c')) w') : wpList Try.prog ops Q (o :: rest) a w := by
  subst hn hr
  rw [List.length_append] at h63
  obtain ⟨a', c', w', N, hrun, h2, h3⟩ := run_append_keep (ty := o.type) hs hsrc h63
  refine wpList_plain hgd fun K hK => ?_
  unfold Oper.wp execOp
  simp only [ho, resolve, invoke, builtin, Sem.run_bind, Sem.run_pure, Result.andThen_ok, List.map_toArray, List.map_cons, List.map_nil, hv, hx, hrun]
  exact hK _ _ (h a' c' w' N h2 (hid_ h3))
end
end Go.Proofs.Ytlkkmnbglememaa
