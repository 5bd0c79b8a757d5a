/- The law's own helper 'all', and Get: loops over a ring, walked. -/
import Derived.Test.YtahnjbbjfjlpoaaTeH
namespace Go.Proofs.Ytahnjbbjfjlpoaa
open Go Go.RowKit Go.Shelf Go.Maps
set_option linter.unusedVariables false
set_option linter.unusedSimpArgs false
attribute [local go_sem] Oper.semAt_some

/-- What an iterator of a ring of ts owes, wherever its loop begins. -/
def SeqIs (n : Nat) (w : World) (p : Option Addr) (ts : List TenM) : Prop := ∀ (w1 : World) (Br : Nat), Below w.heap.size w w1 → Br < w1.heap.size → w1.cell? ⟨Br, 0, none⟩ = some (.pointer p) →
  SeqY n Try.prog 41 #[.pointer (some ⟨Br, 0, none⟩)] ts.length (YTen w.heap.size ts) w.heap.size w1
theorem seq_nil (n : Nat) (w : World) : SeqIs n w none [] := fun w1 Br hb hBr hc => all1_nil n Br w.heap.size w1 hBr hc
theorem seq_ring (n : Nat) (hn : 1 ≤ n) (w : World) (R : Nat) (ts : List TenM) (hts : ∀ t ∈ ts, t.may = true) (hr : RdRing w R ts) : SeqIs n w (some ⟨R, 0, none⟩) ts :=
  fun w1 Br hb hBr hc => all1_seq n hn R ts hts hr Br w.heap.size w1 (Nat.le_refl _) hb hb.size hBr hc
theorem YTen.size {m : Nat} {ts : List TenM} {k : Nat} {args : Array Value} {X : World} (h : YTen m ts k args X) : args.size = 1 := by
  obtain ⟨_, _, _, _, _, _, rfl, _⟩ := h
  rfl
theorem kelT_appended {W w1 : World} {B : Nat} {row : Option Nat} {tmp : Obj} {v' : Value} {tb : TypeId} {vb : Value} (hb : Boxed W B tb vb) (htb : tb ≠ 5 ∧ tb ≠ 46) (hgrow : (W.alloc tmp).grownBy w1 row)
    (hrow : ∀ r, row = some r → ∃ cs, W.heap[r]? = some (.cells cs 28 (0, 0))) : KelT W (w1.setCell ⟨B, 0, none⟩ v') := by
  intro k cs t hk ht
  have hlt : k < W.heap.size := (Array.getElem?_eq_some_iff.1 hk).1
  have hkB : k ≠ B := by
    rintro rfl
    rw [show W.heap[k]? = _ from hb] at hk
    injection hk with hk
    injection hk with _ e _
    rcases ht with h | h
    · exact htb.1 (e.trans h)
    · exact htb.2 (e.trans h)
  have hkr : some k ≠ row := by
    intro e
    obtain ⟨cs2, h2⟩ := hrow k e.symm
    rw [h2] at hk
    injection hk with hk
    injection hk with _ e2 _
    rcases ht with h | h
    · rw [h] at e2; exact absurd e2 (by decide)
    · rw [h] at e2; exact absurd e2 (by decide)
  have h1 : (w1.setCell ⟨B, 0, none⟩ v').heap[k]? = w1.heap[k]? := Below.heap_setCell _ _ _ k (by intro e; simp at e; omega)
  rw [h1, hgrow.block k (by simp; omega) hkr]
  exact (Below.heap_alloc _ _ k hlt).trans hk
theorem row_blk {W : World} {n₀ : Nat} {e : TypeId} {sz : Nat} {v : Value} {k : Nat} {xs : List Value} (h : W.ownsRow n₀ e sz v k xs) : ∀ r, v.ownBlock = some r → ∃ cs, W.heap[r]? = some (.cells cs e (0, 0)) := by
  intro r hr
  rcases h.2 with ⟨rfl, _⟩ | ⟨g, cap, cur, rfl, _, hg, _⟩
  · cases hr
  · simp only [Value.ownBlock, Option.some.injEq] at hr
    subst hr
    exact ⟨cur, hg⟩
section
variable {w0 w : World} {L : List Assn}
/-- What 'all' hands back: tenants that read as us, in memory of their own. -/
def AllOk (w : World) (us : List TenM) (e : Ending) (W : World) : Prop := ∃ (a : Option Addr) (c : Nat) (vs : List TenV), e = .returned (.slice a vs.length c) ∧ Below w.heap.size w W ∧ W.ownsRow w.heap.size 28 4 (.slice a vs.length c) vs.length (flatT vs) ∧ vs.map (·.t) = us ∧ ∀ v ∈ vs, v.inn w.heap.size W
set_option maxRecDepth 100000 in
set_option maxHeartbeats 4000000 in
theorem all_in (n : Nat) (hn : 3 ≤ n) (p : Option Addr) (N : Nat) (hN : N ≤ 1000) (ts : List TenM) (hts : ts.length ≤ 1000) (w : World) (hseq : SeqIs (n - 1) w p ts) :
    CallsIn Fence.wide n Try.prog 14 #[.pointer p, .int .i64 N] w (AllOk w (ts.take N)) := by
  have h1 : 1 ≤ n := by omega
  refine callsIn_of_wp_marks Try.func14 rfl trivial ?_ rfl
  simp only [Try.ntmps14, List.size_toArray, List.length_cons, List.length_nil, Nat.reduceAdd, Nat.reduceSub, Array.replicate_succ, Array.replicate_zero, List.push_toArray, List.append_toArray, List.nil_append, List.cons_append]
  gi_wp2
  refine ⟨trivial, (ring_All (n - 1) p _).mono ?_⟩
  rintro _ w1 ⟨rfl, hw1⟩
  have s2 := ((Sat.refl w).alloc2 (.cells #[.int .i64 N] 3 (0, 0)) (.cells #[.slice none 0 0] 22 (0, 0))).alloc (.cells #[.pointer p] 30 (0, 0))
  rw [← hw1] at s2
  clear hw1
  simp only [World.size_alloc, Nat.add_assoc, Nat.reduceAdd] at s2 ⊢
  have hBw : Below w.heap.size w w1 := s2.below
  have hbm := s2.blk.1
  have hbo := s2.drop.blk.1
  have hbn := s2.drop.drop.blk.1
  have hlt := s2.lt
  clear s2
  have hnf : (binOp BinOp.eql 55 (Value.func (Fn.func 41) #[] #[Value.pointer (some ⟨w.heap.size + 2, 0, none⟩)]) Value.nilFunc).run Try.prog w1 = .ok (.bool false) w1 := by kernel_rfl
  gi_wp2
  obtain ⟨i0, hi, hz0, hz1, hz2⟩ := info_te
  refine wpIn_seqY h1 (gf := 41) (lb := #[.pointer (some ⟨w.heap.size + 2, 0, none⟩)]) rfl (enters_of Try.func41 (by kernel_rfl) rfl) (hseq w1 (w.heap.size + 2) hBw (by omega) (cell_at hbm 0)) (Below.refl _ _) hBw.size (fun k args X h => h.size)
    (fun k X => (∃ v vs, (Boxed X (w.heap.size + 1) 22 v ∧ Boxed X w.heap.size 3 (.int .i64 N)) ∧ X.ownsRow w.heap.size 28 4 v k (flatT vs) ∧ vs.length = k ∧ vs.map (·.t) = ts.take k ∧ k ≤ N ∧ ∀ u ∈ vs, u.inn w.heap.size X) ∧ Below w.heap.size w X)
    (fun c k X => (∃ v vs, c = .exit 0 ∧ k = N + 1 ∧ Boxed X (w.heap.size + 1) 22 v ∧ X.ownsRow w.heap.size 28 4 v N (flatT vs) ∧ vs.length = N ∧ vs.map (·.t) = ts.take N ∧ ∀ u ∈ vs, u.inn w.heap.size X) ∧ Below w.heap.size w X)
    (fun k X Z ⟨⟨v, vs, ⟨hb, hb'⟩, hr, hl, hm, hk, hu⟩, hB⟩ hK => ⟨⟨v, vs, ⟨hK.boxed hb, hK.boxed hb'⟩, hK.row hr, hl, hm, hk, fun u h => (hu u h).kel (KelT.ofKel hK)⟩, hB.trans (hK.below hBw.size hB.size)⟩)
    (fun c k X Z ⟨⟨v, vs, hc, hk, hb, hr, hl, hm, hu⟩, hB⟩ hK => ⟨⟨v, vs, hc, hk, hK.boxed hb, hK.row hr, hl, hm, fun u h => (hu u h).kel (KelT.ofKel hK)⟩, hB.trans (hK.below hBw.size hB.size)⟩)
    ⟨⟨.slice none 0 0, [], ⟨hbo, hbn⟩, World.ownsRow_nil _ _ _ _, rfl, rfl, Nat.zero_le _, fun u h => by cases h⟩, hBw⟩ ?round ?done ?stop
  case round =>
    rintro l k args X hk hl hX ⟨⟨v, vs, ⟨bo, bn⟩, hrow, hvl, hvm, hkN, hvi⟩, hB⟩ ⟨t, kx, kc, rx, rc, htk, rfl, hinn⟩
    obtain ⟨va, vc, rfl⟩ := row_form hrow
    unfold TenV.c
    have HM := hid_ (show (vs ++ [(⟨t, kx, kc, rx, rc⟩ : TenV)]).map TenV.t = ts.take (k + 1) by rw [List.map_append, hvm, List.take_add_one, htk]; rfl)
    have HVM := hid_ hvm
    have HVL := hid_ hvl
    clear htk hvm hvl
    gi_wp2
    refine ⟨(KeepsOthers.alloc _ _).from _, (Below.refl _ X).alloc hB.size _, ?_⟩
    intro X2 hK
    have hKs := hK.size
    rw [World.size_alloc] at hKs
    have bo2 := hK.boxed (bo.alloc _)
    have bn2 := hK.boxed (bn.alloc _)
    have hrow2 := hK.row (hrow.alloc _)
    have hXs := hB.size
    have hB2 : Below w.heap.size w X2 := (hB.trans ((Below.refl _ X).alloc hB.size _)).trans (hK.below hBw.size (by simp; omega))
    have hkt : KelT X X2 := (KelT.ofBelow ((Below.refl _ X).alloc (Nat.le_refl _) _)).trans (KelT.ofKel hK)
    have hbv := World.alloc_heap_new X (.cells #[.int .i64 t.id, .slice kx t.key.length kc, .int .i64 t.streams, .slice rx t.rules.length rc] 28 (0, 0))
    have e0 := hK.cell ((cell_at hbv 0).trans rfl : _ = some (.int .i64 t.id))
    have e1 := hK.cell ((cell_at hbv 1).trans rfl : _ = some (.slice kx t.key.length kc))
    have e2 := hK.cell ((cell_at hbv 2).trans rfl : _ = some (.int .i64 t.streams))
    have e3 := hK.cell ((cell_at hbv 3).trans rfl : _ = some (.slice rx t.rules.length rc))
    clear hbv hK bo hrow bn
    have hco := bo2.cell
    have hcn := bn2.cell
    have HK := hid_ hk
    clear hk
    by_cases hlt2 : k < N
    · have q1 : decide (N ≤ k) = false := by simp; omega
      have HLT := hid_ hlt2
      clear hlt2 hkN
      gi_wp2_with (gi_at_builtin; refine wpListIn_append_own_at _ rfl _ _ 22 rfl w.heap.size 28 i0 _ 4 64 Try.underlying22 hi hz0 hz1 hz2 rfl (by decide) _ _ _ rfl (hrow2.alloc _) ⟨X2.heap.size, 0, none⟩ 1 1 [.int .i64 t.id, .slice kx t.key.length kc, .int .i64 t.streams, .slice rx t.rules.length rc] rfl rfl (cells_new _ _ _) (TenV.c_one ⟨t, kx, kc, rx, rc⟩) (by have := HK.out; simp only [maxLen]; omega) (by have := HK.out; omega) (by simp; omega) ?_; intro v' w3 hown' hgrow _ hat; obtain ⟨g', cap', rfl⟩ := ownsRow_succ hown'; obtain ⟨hv1, hv2, hr2, hk2, hb2⟩ := bo2.appended (by decide) hrow2 (by omega) (by omega) hown' hgrow; have hc1 := hv1.cell; have hf1 := hv1.frozen)
      have bn3 : Boxed (w3.setCell ⟨w.heap.size + 1, 0, none⟩ (.slice (some ⟨g', 0, none⟩) (k + 1) cap')) w.heap.size 3 (.int .i64 N) := ((bn2.alloc _).kept hgrow (bn2.not_row (by decide) hrow2)).kept (grownBy_setCell' w3 _ _) (by simp)
      have hkt3 := kelT_appended (v' := .slice (some ⟨g', 0, none⟩) (k + 1) cap') bo2 (by decide) hgrow (row_blk hrow2)
      refine ⟨hk2.from _, hb2, ⟨_, vs ++ [⟨t, kx, kc, rx, rc⟩], ⟨hv2, bn3⟩, ?_, by rw [List.length_append, HVL.out]; rfl, HM.out, HLT.out, ?_⟩, hB2.trans hb2⟩
      · rw [flatT_snoc]
        exact hr2
      · intro u hu
        rcases List.mem_append.1 hu with hu | hu
        · exact (hvi u hu).kel (hkt.trans hkt3)
        · rw [List.mem_singleton.1 hu]
          exact hinn.kel (hkt.trans hkt3)
    · have q1 : decide (N ≤ k) = true := by simp; omega
      have hpl := hid_ (show k = N by omega)
      clear hlt2 hkN
      gi_wp2
      refine ⟨KeepsFrom.refl _ _, ⟨_, vs, rfl, by rw [hpl.out], bo2, ?_, by rw [HVL.out, hpl.out], by rw [HVM.out, hpl.out], fun u hu => (hvi u hu).kel hkt⟩, hB2⟩
      rw [← hpl.out]
      exact hrow2
  case done =>
    rintro D W hD ⟨⟨v, vs, ⟨bo, bn⟩, hrow, hvl, hvm, hkN, hvi⟩, hB⟩ hDK
    have hco := bo.cell
    obtain ⟨va, vc, rfl⟩ := row_form hrow
    gi_wp2
    refine ⟨by simp, .inl ⟨_, _, rfl, run_takeDeferred hDK, ?_⟩⟩
    refine ⟨_, results_tmp (fn := Try.f14) rfl _ _ _, va, vc, vs, by rw [hvl]; rfl, hB.trans (belowK_b (w := w) (Nat.le_refl _) W D _ _ (by omega) hDK rfl rfl), ?_, ?_, ?_⟩
    · rw [hvl]
      exact ownsRow_putObj hrow _ hDK rfl
    · rw [hvm, List.take_length, List.take_of_length_le hkN]
    · intro u hu
      exact (hvi u hu).kel (KelT.ofKel (Kel.put (B := w.heap.size) hDK rfl (by omega)))
  case stop =>
    rintro D c k W hD hk ⟨⟨v, vs, rfl, hkN, bo, hrow, hvl, hvm, hvi⟩, hB⟩ hDK
    have hco := bo.cell
    obtain ⟨va, vc, rfl⟩ := row_form hrow
    gi_wp2
    refine ⟨by simp, .inl ⟨_, _, rfl, run_takeDeferred hDK, ?_⟩⟩
    refine ⟨_, results_tmp (fn := Try.f14) rfl _ _ _, va, vc, vs, by rw [hvl]; rfl, hB.trans (belowK_b (w := w) (Nat.le_refl _) W D _ _ (by omega) hDK rfl rfl), ?_, hvm, ?_⟩
    · rw [hvl]
      exact ownsRow_putObj hrow _ hDK rfl
    · intro u hu
      exact (hvi u hu).kel (KelT.ofKel (Kel.put (B := w.heap.size) hDK rfl (by omega)))
end
end Go.Proofs.Ytahnjbbjfjlpoaa
