/- slices.Values, AppendSeq, Collect at tenants, walked. -/
import Derived.Maps.OwnIn
import Derived.Maps.AppendAt
import Derived.Shelf.AbstractIn
import Derived.WalkKit
import Derived.OwnWalkIn
import Derived.TacticsInMore
import Derived.LoopNIn
import Derived.LoopIn
import Derived.Test.YtahnjbbjfjlpoaaSeq
import Derived.Test.YtahnjbbjfjlpoaaTeC
namespace Go.Proofs.Ytahnjbbjfjlpoaa
open Go Go.RowKit Go.Shelf Go.Maps
set_option linter.unusedVariables false
set_option linter.unusedSimpArgs false
attribute [local go_sem] Oper.semAt_some

theorem Kel.boxed {B : Nat} {X Z : World} (h : Kel B X Z) {b : Nat} {t : TypeId} {v : Value} (hb : Boxed X b t v) : Boxed Z b t v := h.same b _ hb (.inl rfl)
theorem Kel.row {B : Nat} {X Z : World} (h : Kel B X Z) {n₀ : Nat} {e : TypeId} {sz : Nat} {v : Value} {k : Nat} {xs : List Value} (hr : X.ownsRow n₀ e sz v k xs) : Z.ownsRow n₀ e sz v k xs := by
  refine ⟨hr.1, ?_⟩
  rcases hr.2 with h2 | ⟨g, cap, cur, rfl, h1, hg, h3⟩
  · exact .inl h2
  · exact .inr ⟨g, cap, cur, rfl, h1, h.same g _ hg (.inl rfl), h3⟩
theorem row_form {W : World} {n₀ : Nat} {e : TypeId} {sz : Nat} {v : Value} {k : Nat} {xs : List Value} (h : W.ownsRow n₀ e sz v k xs) : ∃ a c, v = .slice a k c := by
  rcases h.2 with ⟨rfl, rfl⟩ | ⟨g, cap, cur, rfl, _⟩
  · exact ⟨none, 0, rfl⟩
  · exact ⟨_, cap, rfl⟩
def flatT (vs : List TenV) : List Value := vs.flatMap TenV.c
theorem TenV.c_len (v : TenV) : v.c.length = 4 := rfl
theorem TenV.c_one (v : TenV) : ∀ u ∈ v.c, u.oneCell' = true := by
  intro u hu
  simp only [TenV.c, List.mem_cons, List.not_mem_nil, or_false] at hu
  rcases hu with rfl | rfl | rfl | rfl <;> rfl
theorem flatT_snoc (vs : List TenV) (v : TenV) : flatT (vs ++ [v]) = flatT vs ++ v.c := by simp [flatT]
theorem flatT_len (vs : List TenV) : (flatT vs).length = vs.length * 4 := by
  induction vs with
  | nil => rfl
  | cons v vs ih =>
    show (v.c ++ flatT vs).length = _
    rw [List.length_append, ih, TenV.c_len, List.length_cons]
    omega
theorem flatT_get {vs : List TenV} {i j : Nat} {v : TenV} (hi : vs[i]? = some v) (hj : j < 4) : (flatT vs)[i * 4 + j]? = v.c[j]? := by
  have h := flatten_get (css := vs.map TenV.c) (sz := 4) (i := i) (j := j) (cs := v.c) (by intro cs h; obtain ⟨u, _, rfl⟩ := List.mem_map.1 h; rfl) (by rw [List.getElem?_map, hi]; rfl) hj
  rwa [← List.flatMap_def] at h
theorem info_te : ∃ i, Try.prog.info? 28 = some i ∧ i.zero = some (.agg #[.int .i64 0, .slice none 0 0, .int .i64 0, .slice none 0 0]) ∧ i.size = 4 ∧ i.bytes = 64 := info_at (by kernel_rfl)
/-- A new block's cells, as what an append takes. -/
theorem cells_new (w : World) (cs : List Value) (t : TypeId) : ∀ (j : Nat) u, cs[j]? = some u → (w.alloc (.cells cs.toArray t (0, 0))).cell? ((⟨w.heap.size, 0, none⟩ : Addr).add j) = some u := by
  intro j u hj
  rw [addr_add, cell_at (World.alloc_heap_new w _)]
  simpa using hj
section
variable {w0 w : World} {L : List Assn}
/-- What slices.Values hands over: the row's elements. -/
def YVal (vs : List TenV) (k : Nat) (args : Array Value) (X : World) : Prop := ∃ v, vs[k]? = some v ∧ args = #[.agg v.c.toArray]
set_option maxRecDepth 100000 in
set_option maxHeartbeats 2000000 in
theorem values1_seq (n : Nat) (hn : 1 ≤ n) (la : Option Addr) (cap : Nat) (vs : List TenV) (hr : RowT w0 la cap vs) (Bv m : Nat) (w : World) (hm0 : w0.heap.size ≤ m) (hbw : Below w0.heap.size w0 w) (hmw : m ≤ w.heap.size) (hBv : Bv < w.heap.size) (hcv : w.cell? ⟨Bv, 0, none⟩ = some (.slice la vs.length cap)) :
    SeqY n Try.prog 37 #[.pointer (some ⟨Bv, 0, none⟩)] vs.length (YVal vs) m w := by
  intro l J Jx W hW hJ hY h0
  obtain ⟨N, hN⟩ : ∃ N, vs.length = N := ⟨_, rfl⟩
  have HN := hid_ hN
  have hmax : N ≤ 9223372036854775807 := by have := hr.le; have := hr.cap; unfold maxLen at this; omega
  have hcW : W.cell? ⟨Bv, 0, none⟩ = some (.slice la N cap) := by rw [← hN]; exact (hW.cell (p := ⟨Bv, 0, none⟩) hBv).trans hcv
  rw [hN] at hY ⊢
  have hmW : m ≤ W.heap.size := Nat.le_trans hmw hW.size
  have hb0 : Below w0.heap.size w0 W := hbw.trans (hW.mono hbw.size)
  clear hN hcv
  refine callsIn_of_wp Try.func37 rfl trivial ?_ rfl
  simp only [Try.ntmps37, List.size_toArray, List.length_cons, List.length_nil, Nat.reduceAdd, Nat.reduceSub, Array.replicate_succ, Array.replicate_zero, List.push_toArray, List.append_toArray, List.nil_append, List.cons_append]
  gi_wp2
  gi_loopw [4, 7] (fun _ i wr => ∃ k : Nat, k ≤ N ∧ i = .int .i64 k ∧ J k wr ∧ Below m W wr)
    (fun _ i _ => N - (intOf i).toNat)
  case atStart => exact ⟨0, Nat.zero_le _, rfl, h0, Below.refl _ _⟩
  case round =>
    obtain ⟨k, hk, rfl, hJk, hbk⟩ := hrel
    have hb0k : Below w0.heap.size w0 wr := hb0.trans (hbk.mono hm0)
    by_cases hlt : k < N
    · obtain ⟨v, hv⟩ : ∃ v, vs[k]? = some v := ⟨_, List.getElem?_eq_getElem (by rw [HN.out]; exact hlt)⟩
      obtain ⟨b, off, rfl, hb, hc⟩ := (hr.mono hb0k).at_ k v hv
      have c0 : wr.cell? ⟨b, off + k * 4, none⟩ = some (.int .i64 v.t.id) := hc 0 _ rfl
      have c1 : wr.cell? ⟨b, off + k * 4 + 1, none⟩ = some (.slice v.kx v.t.key.length v.kc) := hc 1 _ rfl
      have c2 : wr.cell? ⟨b, off + k * 4 + 2, none⟩ = some (.int .i64 v.t.streams) := hc 2 _ rfl
      have c3 : wr.cell? ⟨b, off + k * 4 + 3, none⟩ = some (.slice v.rx v.t.rules.length v.rc) := hc 3 _ rfl
      have hba : Below wr.heap.size wr (wr.alloc (.cells #[.int .i64 v.t.id, .slice v.kx v.t.key.length v.kc, .int .i64 v.t.streams, .slice v.rx v.t.rules.length v.rc] 28 (0, 0))) := (Below.refl _ _).alloc (Nat.le_refl _) _
      obtain ⟨fn, tmps, assign, body, hy, hR⟩ := hY k #[.agg v.c.toArray] _ hlt (hJ _ _ _ hJk hba) ⟨v, hv, rfl⟩
      unfold TenV.c at hy
      clear hc hv
      have z1 : (k : Int) < (N : Int) := by omega
      gi_wp2
      refine hR.mono ?_
      rintro e W4 (⟨rfl, hJ4, hk4⟩ | ⟨rfl, hJx4⟩)
      · gi_wp2
        go_roundw
        case rel => exact ⟨k + 1, by omega, by go_num, hJ4, hbk.trans ((hba.mono (Nat.le_trans hmW hbk.size)).trans hk4)⟩
        case measure => simp [intOf]; omega
      · gi_wp2
        refine bodyPost_ret (results_none rfl _ _ _) rfl ?_
        exact ⟨⟨_, rfl⟩, .inr ⟨k, hlt, hJx4⟩⟩
    · obtain rfl : k = N := by omega
      gi_wp2
      go_end0
      exact ⟨⟨_, rfl⟩, .inl hJk⟩
set_option maxRecDepth 100000 in
set_option maxHeartbeats 4000000 in
theorem append_seq (n : Nat) (hn : 3 ≤ n) (gf : Nat) (lb : Array Value) (vs : List TenV) (hN : vs.length ≤ 1000) (w : World) (eg : ∀ args w, (callFunc gf args).run Try.prog w = .ok (.enter gf args) w)
    (hseq : ∀ W, Below w.heap.size w W → SeqY (n - 1) Try.prog gf lb vs.length (YVal vs) w.heap.size W) :
    CallsIn Fence.wide n Try.prog 44 #[.slice none 0 0, .func (.func gf) #[] lb] w fun e W' => ∃ v, e = .returned v ∧ Below w.heap.size w W' ∧ W'.ownsRow w.heap.size 28 4 v vs.length (flatT vs) := by
  have h1 : 1 ≤ n := by omega
  refine callsIn_of_wp_marks Try.func44 rfl trivial ?_ rfl
  simp only [Try.ntmps44, List.size_toArray, List.length_cons, List.length_nil, Nat.reduceAdd, Nat.reduceSub, Array.replicate_succ, Array.replicate_zero, List.push_toArray, List.append_toArray, List.nil_append, List.cons_append]
  gi_wp2
  obtain ⟨w1, hw1⟩ : ∃ w1, w.alloc (.cells #[.slice none 0 0] 22 (0, 0)) = w1 := ⟨_, rfl⟩
  have hb1 : Below w.heap.size w w1 := by rw [← hw1]; exact (Below.refl _ _).alloc (Nat.le_refl _) _
  have hbx : Boxed w1 w.heap.size 22 (.slice none 0 0) := by rw [← hw1]; exact World.alloc_heap_new w _
  have hs1 : w1.heap.size = w.heap.size + 1 := by rw [← hw1]; simp
  rw [hw1]
  obtain ⟨i0, hi, hz0, hz1, hz2⟩ := info_te
  refine wpIn_seqY h1 (gf := gf) (lb := lb) rfl eg (hseq w1 hb1) (Below.refl _ _) hb1.size (by rintro k args X ⟨v, _, rfl⟩; rfl)
    (fun k X => (∃ v, Boxed X w.heap.size 22 v ∧ X.ownsRow w.heap.size 28 4 v k (flatT (vs.take k))) ∧ Below w.heap.size w X) (fun _ _ _ => False)
    (fun k X Z ⟨⟨v, hb, hr⟩, hB⟩ hk => ⟨⟨v, hk.boxed hb, hk.row hr⟩, hB.trans (hk.below (by omega) hB.size)⟩) (fun _ _ _ _ h _ => h)
    ⟨⟨_, hbx, World.ownsRow_nil _ _ _ _⟩, hb1⟩ ?round ?done ?stop
  case round =>
    rintro l k args X hk hl hX ⟨⟨v, bo, hrow⟩, hB⟩ ⟨x, hx, rfl⟩
    have hfl := flatT_snoc (vs.take k) x
    rw [show vs.take k ++ [x] = vs.take (k + 1) by rw [List.take_add_one, hx]; rfl] at hfl
    have HFL := hid_ hfl
    obtain ⟨va, vc, rfl⟩ := row_form hrow
    unfold TenV.c
    clear hx hfl
    gi_wp2
    refine ⟨(KeepsOthers.alloc _ _).from _, (Below.refl _ X).alloc hB.size _, ?_⟩
    intro X2 hK
    have hXs : w.heap.size + 1 ≤ X.heap.size := by omega
    have hKs := hK.size
    rw [World.size_alloc] at hKs
    have bo2 := hK.boxed (bo.alloc _)
    have hrow2 := hK.row (hrow.alloc _)
    have hB2 : Below w.heap.size w X2 := (hB.trans ((Below.refl _ X).alloc hB.size _)).trans (hK.below (by omega) (by simp; omega))
    have hbv := World.alloc_heap_new X (.cells #[.int .i64 x.t.id, .slice x.kx x.t.key.length x.kc, .int .i64 x.t.streams, .slice x.rx x.t.rules.length x.rc] 28 (0, 0))
    have e0 := hK.cell ((cell_at hbv 0).trans rfl : _ = some (.int .i64 x.t.id))
    have e1 := hK.cell ((cell_at hbv 1).trans rfl : _ = some (.slice x.kx x.t.key.length x.kc))
    have e2 := hK.cell ((cell_at hbv 2).trans rfl : _ = some (.int .i64 x.t.streams))
    have e3 := hK.cell ((cell_at hbv 3).trans rfl : _ = some (.slice x.rx x.t.rules.length x.rc))
    clear hbv hK bo hrow
    have hco := bo2.cell
    have HK := hid_ hk
    clear hk
    gi_wp2_with (gi_at_builtin; refine wpListIn_append_own_at _ rfl _ _ 22 rfl w.heap.size 28 i0 _ 4 64 Try.underlying22 hi hz0 hz1 hz2 rfl (by decide) _ _ _ rfl (hrow2.alloc _) ⟨X2.heap.size, 0, none⟩ 1 1 [.int .i64 x.t.id, .slice x.kx x.t.key.length x.kc, .int .i64 x.t.streams, .slice x.rx x.t.rules.length x.rc] rfl rfl (cells_new _ _ _) x.c_one (by have := HK.out; simp only [maxLen]; omega) (by have := HK.out; omega) (by simp; omega) ?_; intro v' w3 hown' hgrow _ hat; obtain ⟨g', cap', rfl⟩ := ownsRow_succ hown'; obtain ⟨hv1, hv2, hr2, hk2, hb2⟩ := bo2.appended (by decide) hrow2 (by omega) (Nat.le_refl _) hown' hgrow; have hc1 := hv1.cell; have hf1 := hv1.frozen)
    trace_state
    refine ⟨hk2.from _, hb2, ⟨_, hv2, ?_⟩, hB2.trans hb2⟩
    rw [HFL.out]
    exact hr2
  case done =>
    rintro D W hD ⟨⟨v, bo, hrow⟩, hB⟩ hDK
    have hco := bo.cell
    gi_wp2
    refine ⟨by simp, .inl ⟨_, _, rfl, run_takeDeferred hDK, ?_⟩⟩
    refine ⟨v, results_tmp (fn := Try.f44) rfl _ _ _, v, rfl, hB.trans (belowK_b (w := w) (Nat.le_refl _) W D _ _ (by omega) hDK rfl rfl), ?_⟩
    rw [List.take_length] at hrow
    exact ownsRow_putObj hrow _ hDK rfl
  case stop =>
    rintro D c k W _ _ h _
    exact h.elim
end
end Go.Proofs.Ytahnjbbjfjlpoaa
