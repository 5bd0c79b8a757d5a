/- The law's own helper 'ids', walked. -/
import Derived.Maps.OwnIn
import Derived.Maps.AppendAt
import Derived.Test.YtkejadhkebjdcaaKpo
import Derived.Test.YtkejadhkebjdcaaMxI
namespace Go.Proofs.Ytkejadhkebjdcaa
open Go Go.RowKit Go.Maps Go.Sort Go.Shelf
set_option linter.unusedVariables false
set_option linter.unusedSimpArgs false
attribute [local go_sem] Oper.semAt_some

theorem info_int : ∃ i, Try.prog.info? 3 = some i ∧ i.zero = some (.int .i64 0) ∧ i.size = 1 ∧ i.bytes = 8 := info_at (by kernel_rfl)
theorem row_form {W : World} {n₀ : Nat} {e : TypeId} {sz : Nat} {v : Value} {k : Nat} {xs : List Value} (h : W.ownsRow n₀ e sz v k xs) : ∃ a c, v = .slice a k c := by
  rcases h.2 with ⟨rfl, rfl⟩ | ⟨g, cap, cur, rfl, _⟩
  · exact ⟨none, 0, rfl⟩
  · exact ⟨_, cap, rfl⟩
theorem boxed_kept {A B : World} {row : Option Nat} (hg : A.grownBy B row) (hr : ∀ r, row = some r → ∃ o : Obj, A.heap[r]? = some o ∧ o.isCells = false) {k : Nat} {t : TypeId} {u : Value} (h : Boxed A k t u) : Boxed B k t u := by
  refine h.kept hg (fun e => ?_)
  obtain ⟨ob, ho, hcl⟩ := hr k e.symm
  rw [show A.heap[k]? = _ from h] at ho
  cases ho
  cases hcl
theorem row_kept {A B : World} {row : Option Nat} (hg : A.grownBy B row) (hr : ∀ r, row = some r → ∃ o : Obj, A.heap[r]? = some o ∧ o.isCells = false) {n₀ : Nat} {e : TypeId} {sz : Nat} {v : Value} {k : Nat} {xs : List Value} (h : A.ownsRow n₀ e sz v k xs) : B.ownsRow n₀ e sz v k xs := by
  refine h.kept hg ?_
  rcases h.2 with ⟨rfl, _⟩ | ⟨g, cap, cur, rfl, _, hgb, _⟩
  · exact .inl rfl
  · refine .inr fun e => ?_
    obtain ⟨ob, ho, hcl⟩ := hr g (by rw [← e]; rfl)
    rw [hgb] at ho
    cases ho
    cases hcl
theorem ownsRow_base_le {W : World} {n₀ n₁ : Nat} {e : TypeId} {sz : Nat} {v : Value} {k : Nat} {xs : List Value} (h : W.ownsRow n₀ e sz v k xs) (hn : n₁ ≤ n₀) : W.ownsRow n₁ e sz v k xs := by
  refine ⟨h.1, ?_⟩
  rcases h.2 with h2 | ⟨g, cap, cur, rfl, h1, h3⟩
  · exact .inl h2
  · exact .inr ⟨g, cap, cur, rfl, Nat.le_trans hn h1, h3⟩
/-- A box that holds a number is no row of numbers that a slice with room owns: it lies elsewhere. -/
theorem bn_row {W : World} {b n₀ : Nat} {u : Value} {v : Value} {k : Nat} {xs : List Value} (h : Boxed W b 3 u) (hr : W.ownsRow n₀ 3 1 v k xs) (hb : b < n₀) : some b ≠ v.ownBlock := by
  intro e
  have := (hr.lt b e.symm).1
  omega
set_option maxRecDepth 100000 in
set_option maxHeartbeats 4000000 in
theorem ids_in (n : Nat) (hn : 10 ≤ n) (p : Option Addr) (N : Nat) (hN : N ≤ 1000) (qs : List Int) (Sp : List Int → Prop) (M : Nat) (hM : M ≤ 1000) (hSp : ∀ pre, Sp pre → ∃ k, k < qs.length ∧ pre = qs.take (k + 1)) (w : World)
    (hseq : ∀ (w1 : World) (Bm o B : Nat), Below w.heap.size w w1 → Bm < w1.heap.size → w1.cell? ⟨Bm, 0, none⟩ = some (.pointer p) → o < w1.heap.size → B = w1.heap.size → outBlk o w1 = none →
      SeqStopsK Fence.wide (n - 1) Try.prog 68 #[.pointer (some ⟨Bm, 0, none⟩)] (fun x : Int => #[Value.int .i64 x]) (KpO o B) (fun ys => ys = qs) Sp M w1) :
    CallsIn Fence.wide n Try.prog 13 #[.pointer p, .int .i64 N] w fun e W' => ∃ v, e = .returned v ∧ Below w.heap.size w W' ∧ W'.ownsRow w.heap.size 3 1 v (qs.take N).length ((qs.take N).map encZ) := by
  have h1 : 1 ≤ n := by omega
  refine callsIn_of_wp_marks Try.func13 rfl trivial ?_ rfl
  simp only [Try.ntmps13, List.size_toArray, List.length_cons, List.length_nil, Nat.reduceAdd, Nat.reduceSub, Array.replicate_succ, Array.replicate_zero, List.push_toArray, List.append_toArray, List.nil_append, List.cons_append]
  gi_wp2
  refine ⟨trivial, (mux_Ids_in (n - 1) p _).mono ?_⟩
  rintro _ w1 ⟨rfl, hw1⟩
  have s2 := ((Sat.refl w).alloc2 (.cells #[.int .i64 N] 3 (0, 0)) (.cells #[.slice none 0 0] 22 (0, 0))).alloc (.cells #[.pointer p] 24 (0, 0))
  rw [← hw1] at s2
  clear hw1
  simp only [World.size_alloc, Nat.add_assoc, Nat.reduceAdd] at s2 ⊢
  have hBw : Below w.heap.size w w1 := s2.below
  have hbm := s2.blk.1
  have hbo := s2.drop.blk.1
  have hbn := s2.drop.drop.blk.1
  have hlt := s2.lt
  clear s2
  have hnf : (binOp BinOp.eql 73 (Value.func (Fn.func 68) #[] #[Value.pointer (some ⟨w.heap.size + 2, 0, none⟩)]) Value.nilFunc).run Try.prog w1 = .ok (.bool false) w1 := by kernel_rfl
  gi_wp2
  have hout : outBlk (w.heap.size + 1) w1 = none := by unfold outBlk; rw [cell_at hbo 0]; rfl
  obtain ⟨i0, hi, hz0, hz1, hz2⟩ := info_int
  refine wpIn_rangeFunc_ownG rfl h1 (gf := 68) (lb := #[.pointer (some ⟨w.heap.size + 2, 0, none⟩)]) rfl trivial (enters_of Try.func68 (by kernel_rfl) rfl)
    (hseq w1 (w.heap.size + 2) (w.heap.size + 1) w1.heap.size hBw (by omega) (cell_at hbm 0) (by omega) rfl hout) (fun h h' => KpO.trans h h') (kpO_b (by omega)) (Below.refl _ _) (fun _ => rfl)
    (fun pre W => (∃ v, (Boxed W (w.heap.size + 1) 22 v ∧ Boxed W w.heap.size 3 (.int .i64 N)) ∧ W.ownsRow (w.heap.size + 1) 3 1 v pre.length (pre.map encZ) ∧ pre.length ≤ N) ∧ Below w.heap.size w W)
    (fun c pre W => (∃ v q x, c = .exit 0 ∧ pre = q ++ [x] ∧ Boxed W (w.heap.size + 1) 22 v ∧ W.ownsRow (w.heap.size + 1) 3 1 v q.length (q.map encZ) ∧ q.length = N) ∧ Below w.heap.size w W)
    ?hI ?hIx
    ⟨⟨.slice none 0 0, ⟨hbo, hbn⟩, World.ownsRow_nil _ _ _ _, by simp⟩, hBw⟩
    (fun x => { tmps := #[Value.pointer p, Value.int IntKind.i64 ↑N, undef, Value.pointer (some { block := w.heap.size, off := 0 }),
          Value.slice none 0 0, Value.pointer (some { block := w.heap.size + 1, off := 0 }),
          Value.func (Fn.func 68) #[] #[Value.pointer (some { block := w.heap.size + 2, off := 0 })], .int .i64 x,
          Value.pointer p, Value.func (Fn.func 68) #[] #[Value.pointer (some { block := w.heap.size + 2, off := 0 })],
          Value.func (Fn.func 68) #[] #[Value.pointer (some { block := w.heap.size + 2, off := 0 })], Value.bool false,
          Value.func (Fn.func 68) #[] #[Value.pointer (some { block := w.heap.size + 2, off := 0 })], .int .i64 x, undef,
          undef, undef, undef, undef, undef, undef, undef, undef], defers := [] }) ?assign ?body ?done ?stop
  case hI =>
    refine OwnFrom.and (Own.from (fun s A B row hs hg hr => ?_) _) (ownFrom_below (Nat.le_refl _) (by omega))
    obtain ⟨v, ⟨bo, bn⟩, hrow, hp⟩ := hs
    exact ⟨v, ⟨boxed_kept hg hr bo, boxed_kept hg hr bn⟩, row_kept hg hr hrow, hp⟩
  case hIx =>
    intro c
    refine OwnFrom.and (Own.from (fun s A B row hs hg hr => ?_) _) (ownFrom_below (Nat.le_refl _) (by omega))
    obtain ⟨v, q, x, hc, hp, bo, hrow, hq⟩ := hs
    exact ⟨v, q, x, hc, hp, boxed_kept hg hr bo, row_kept hg hr hrow, hq⟩
  case assign =>
    intro l x W K hK
    gi_wp2
    exact hK
  case body =>
    rintro l pre x W ⟨⟨v, ⟨bo, bn⟩, hrow, hp⟩, hB⟩ hlen
    obtain ⟨va, vc, rfl⟩ := row_form hrow
    have hco := bo.cell
    have hcn := bn.cell
    have hszW : w.heap.size + 1 ≤ W.heap.size := bo.lt |> fun h => by omega
    by_cases hlt : pre.length < N
    · have q1 : decide (N ≤ pre.length) = false := by simp; omega
      have hHP := hid_ hp
      have hHL := hid_ hlt
      clear hp hlt
      gi_wp2_with (gi_at_builtin; refine wpListIn_append_own_at _ rfl _ _ 22 rfl (w.heap.size + 1) 3 i0 (.int .i64 0) 1 8 Try.underlying22 hi hz0 hz1 hz2 rfl (by decide) _ _ _ rfl (hrow.alloc _) ⟨W.heap.size, 0, none⟩ 1 1 [.int .i64 x] rfl rfl (cell_one_new _ _ _) (by simp [Value.oneCell']) (by have := hHL.out; simp only [maxLen]; omega) (by have := hHL.out; omega) (by have := hszW; simp; omega) ?_; intro v' w2 hown' hgrow _ hat; obtain ⟨g', cap', rfl⟩ := ownsRow_succ hown'; obtain ⟨hv1, hv2, hr2, hk2, hb2⟩ := bo.appended (by decide) hrow hszW (by omega) hown' hgrow; have hc1 := hv1.cell; have hf1 := hv1.frozen)
      have hKO := KpO.appended (B := w1.heap.size) bo (by omega) hv2 hgrow (by rw [World.size_alloc] at hat; exact hat)
      have bn2 : Boxed (w2.setCell ⟨w.heap.size + 1, 0, none⟩ (.slice (some ⟨g', 0, none⟩) (pre.length + 1) cap')) w.heap.size 3 (.int .i64 N) := ((bn.alloc _).kept hgrow (bn_row bn hrow (by omega))).kept (grownBy_setCell' w2 _ _) (by simp)
      refine ⟨hk2.from _, hKO, ⟨_, ⟨hv2, bn2⟩, ?_, ?_⟩, hB.trans (hb2.mono (by omega))⟩
      · rw [List.length_append, List.map_append]
        exact hr2
      · rw [List.length_append]
        have := hHL.out
        simp only [List.length_singleton]
        omega
    · have q1 : decide (N ≤ pre.length) = true := by simp; omega
      have hpl := hid_ (show pre.length = N by omega)
      clear hp hlt
      gi_wp2
      exact ⟨KeepsFrom.refl _ _, ⟨_, pre, x, rfl, rfl, bo, hrow, hpl.out⟩, hB⟩
  case done =>
    rintro D ys W hD rfl ⟨⟨v, ⟨bo, bn⟩, hrow, hp⟩, hB⟩ hK
    have hco := bo.cell
    gi_wp2
    refine ⟨by simp, .inl ⟨_, _, rfl, run_takeDeferred hK, ?_⟩⟩
    refine ⟨v, results_tmp (fn := Try.f13) rfl _ _ _, v, rfl, hB.trans (belowK_b (w := w) (Nat.le_refl _) W D _ _ (by omega) hK rfl rfl), ?_⟩
    rw [List.take_of_length_le hp]
    exact ownsRow_base_le (ownsRow_putObj hrow _ hK rfl) (by omega)
  case stop =>
    rintro D c pre W hD hS ⟨⟨v, q, x, rfl, hpre, bo, hrow, hqN⟩, hB⟩ hK
    obtain ⟨k, hk, hpk⟩ := hSp pre hS
    have hco := bo.cell
    gi_wp2
    refine ⟨by simp, .inl ⟨_, _, rfl, run_takeDeferred hK, ?_⟩⟩
    refine ⟨v, results_tmp (fn := Try.f13) rfl _ _ _, v, rfl, hB.trans (belowK_b (w := w) (Nat.le_refl _) W D _ _ (by omega) hK rfl rfl), ?_⟩
    have hq : q = qs.take N := by
      rw [hpk, List.take_add_one, List.getElem?_eq_getElem hk, Option.toList_some] at hpre
      obtain ⟨e1, _⟩ := List.append_inj' hpre rfl
      have hkN : k = N := by
        rw [← hqN, ← e1, List.length_take]
        omega
      rw [← e1, hkN]
    rw [← hq]
    exact ownsRow_base_le (ownsRow_putObj hrow _ hK rfl) (by omega)
end Go.Proofs.Ytkejadhkebjdcaa
