/- The mux that there isn't: Next, Sweep, and the law MuxNil, walked. -/
import Derived.Test.YtkejadhkebjdcaaMxK
import Derived.Test.YtkejadhkebjdcaaOpnZ
namespace Go.Proofs.Ytkejadhkebjdcaa
open Go Go.RowKit Go.Maps Go.Sort Go.Shelf
set_option linter.unusedVariables false
set_option linter.unusedSimpArgs false
section
attribute [local go_sem] Oper.semAt_some
set_option maxRecDepth 100000 in
set_option maxHeartbeats 4000000 in
theorem mux_Next_nil_in (n : Nat) (hn : 10 ≤ n) (w : World) :
    CallsIn Fence.wide n Try.prog 16 #[.pointer none] w fun e W' => e = .returned (.slice none 0 0) ∧ Below w.heap.size w W' := by
  have h1 : 1 ≤ n := by omega
  refine callsIn_of_wp_marks Try.func16 rfl trivial ?_ rfl
  simp only [Try.ntmps16, List.size_toArray, List.length_cons, List.length_nil, Nat.reduceAdd, Nat.reduceSub, Array.replicate_succ, Array.replicate_zero, List.push_toArray, List.append_toArray, List.nil_append, List.cons_append]
  gi_wp2
  refine ⟨trivial, (mux_Ids_in (n - 1) none _).mono ?_⟩
  rintro _ w1 ⟨rfl, hw1⟩
  have s2 := ((Sat.refl w).alloc2 (.cells #[.pointer none] 24 (0, 0)) (.cells #[.slice none 0 0] 34 (0, 0))).alloc (.cells #[.pointer none] 24 (0, 0))
  rw [← hw1] at s2
  clear hw1
  simp only [World.size_alloc, Nat.add_assoc, Nat.reduceAdd] at s2 ⊢
  have hBw : Below w.heap.size w w1 := s2.below
  have hbm := s2.blk.1
  have hbo := s2.drop.blk.1
  have hlt := s2.lt
  clear s2
  gi_wp2
  refine wpIn_rangeFunc_ownG rfl h1 (gf := 68) (lb := #[.pointer (some ⟨w.heap.size + 2, 0, none⟩)]) rfl trivial (enters_of Try.func68 (by kernel_rfl) rfl)
    (ids_stops_nil (n - 1) (w.heap.size + 2) (KpO (w.heap.size + 1) w1.heap.size) w1 (by omega) (cell_at hbm 0)) (fun h h' => KpO.trans h h') (kpO_b (by omega)) (Below.refl _ _) (fun _ => rfl)
    (fun pre W => Boxed W (w.heap.size + 1) 34 (.slice none 0 0) ∧ Below w.heap.size w W)
    (fun c pre W => False)
    (OwnFrom.and (Own.from (fun s A B row hs hg hr => boxed_kept hg hr hs) _) (ownFrom_below (Nat.le_refl _) (by omega)))
    (fun c s A B row hs hg hr => hs)
    ⟨hbo, hBw⟩
    (fun x => { tmps := #[.pointer none, .pointer (some ⟨w.heap.size, 0, none⟩), .slice none 0 0, .pointer (some ⟨w.heap.size + 1, 0, none⟩), .int .i64 x, .pointer none,
      Value.func (Fn.func 68) #[] #[Value.pointer (some { block := w.heap.size + 2, off := 0 })], .int .i64 x, undef, undef, undef, undef, undef, undef, undef, undef, undef, undef], defers := [] }) ?assign ?body ?done ?stop
  case assign =>
    intro l x W K hK
    gi_wp2
    exact hK
  case body =>
    rintro l pre x W h hlen
    exact absurd hlen (Nat.not_lt_zero _)
  case done =>
    rintro D ys W hD rfl ⟨bo, hB⟩ hK
    have hco := bo.cell
    gi_wp2
    refine ⟨by simp, .inl ⟨_, _, rfl, run_takeDeferred hK, ?_⟩⟩
    exact ⟨_, results_tmp (fn := Try.f16) rfl _ _ _, rfl, hB.trans (belowK_b (w := w) (Nat.le_refl _) W D _ _ (by omega) hK rfl rfl)⟩
  case stop =>
    rintro D c pre W hD hS h hK
    exact h.elim
set_option maxRecDepth 100000 in
set_option maxHeartbeats 4000000 in
theorem mux_Sweep_nil_in (n : Nat) (hn : 10 ≤ n) (w : World) :
    CallsIn Fence.wide n Try.prog 17 #[.pointer none] w fun e W' => e = .returned (.slice none 0 0) ∧ Below w.heap.size w W' := by
  have h1 : 1 ≤ n := by omega
  refine callsIn_of_wp_marks Try.func17 rfl trivial ?_ rfl
  simp only [Try.ntmps17, List.size_toArray, List.length_cons, List.length_nil, Nat.reduceAdd, Nat.reduceSub, Array.replicate_succ, Array.replicate_zero, List.push_toArray, List.append_toArray, List.nil_append, List.cons_append]
  gi_wp2
  refine ⟨trivial, (mux_Ids_in (n - 1) none _).mono ?_⟩
  rintro _ w1 ⟨rfl, hw1⟩
  have s2 := ((Sat.refl w).alloc2 (.cells #[.pointer none] 24 (0, 0)) (.cells #[.slice none 0 0] 22 (0, 0))).alloc (.cells #[.pointer none] 24 (0, 0))
  rw [← hw1] at s2
  clear hw1
  simp only [World.size_alloc, Nat.add_assoc, Nat.reduceAdd] at s2 ⊢
  have hBw : Below w.heap.size w w1 := s2.below
  have hbm := s2.blk.1
  have hbo := s2.drop.blk.1
  have hlt := s2.lt
  clear s2
  gi_wp2
  refine wpIn_rangeFunc_ownG rfl h1 (gf := 68) (lb := #[.pointer (some ⟨w.heap.size + 2, 0, none⟩)]) rfl trivial (enters_of Try.func68 (by kernel_rfl) rfl)
    (ids_stops_nil (n - 1) (w.heap.size + 2) (KpO (w.heap.size + 1) w1.heap.size) w1 (by omega) (cell_at hbm 0)) (fun h h' => KpO.trans h h') (kpO_b (by omega)) (Below.refl _ _) (fun _ => rfl)
    (fun pre W => Boxed W (w.heap.size + 1) 22 (.slice none 0 0) ∧ Below w.heap.size w W)
    (fun c pre W => False)
    (OwnFrom.and (Own.from (fun s A B row hs hg hr => boxed_kept hg hr hs) _) (ownFrom_below (Nat.le_refl _) (by omega)))
    (fun c s A B row hs hg hr => hs)
    ⟨hbo, hBw⟩
    (fun x => { tmps := #[.pointer none, .pointer (some ⟨w.heap.size, 0, none⟩), .slice none 0 0, .pointer (some ⟨w.heap.size + 1, 0, none⟩), .int .i64 x, undef, undef, .pointer none,
      Value.func (Fn.func 68) #[] #[Value.pointer (some { block := w.heap.size + 2, off := 0 })], .int .i64 x, undef, undef, undef, undef, undef, undef, undef, undef, undef, undef, undef, undef, undef, undef, undef, undef, undef, undef, undef, undef, undef, undef], defers := [] }) ?assign ?body ?done ?stop
  case assign =>
    intro l x W K hK
    gi_wp2
    exact hK
  case body =>
    rintro l pre x W h hlen
    exact absurd hlen (Nat.not_lt_zero _)
  case done =>
    rintro D ys W hD rfl ⟨bo, hB⟩ hK
    have hco := bo.cell
    gi_wp2
    gi_loopw [23] (fun i wr => i = .int .i64 0 ∧ wr = W) (fun _ _ => 0)
    case atStart => exact ⟨rfl, rfl⟩
    case round =>
      obtain ⟨rfl, rfl⟩ := hrel
      gi_wp2
      refine ⟨by simp, .inl ⟨_, _, rfl, run_takeDeferred hK, ?_⟩⟩
      exact ⟨_, results_tmp (fn := Try.f17) rfl _ _ _, rfl, hB.trans (belowK_b (w := w) (Nat.le_refl _) _ D _ _ (by omega) hK rfl rfl)⟩
  case stop =>
    rintro D c pre W hD hS h hK
    exact h.elim
end
section
variable {w0 w : World} {L : List Assn}
theorem mux_Next_nil (hs : Sat w0 w L) : Calls Try.prog 16 #[.pointer none] w fun e w' => e = .returned (.slice none 0 0) ∧ Sat w0 w' L :=
  (callsIn_wide.1 (mux_Next_nil_in 10 (by omega) w)).mono fun e w' ⟨he, hb⟩ => ⟨he, hs.under hb⟩
theorem mux_Sweep_nil (hs : Sat w0 w L) : Calls Try.prog 17 #[.pointer none] w fun e w' => e = .returned (.slice none 0 0) ∧ Sat w0 w' L :=
  (callsIn_wide.1 (mux_Sweep_nil_in 10 (by omega) w)).mono fun e w' ⟨he, hb⟩ => ⟨he, hs.under hb⟩
set_option maxRecDepth 100000 in
set_option maxHeartbeats 4000000 in
theorem mux_nil_law (v : Value) (w : World) (hv : IsInt w v) :
    Calls Try.prog 4 #[v] w fun e w' => e = .returned (.bool true) ∧ Below w.heap.size w w' := by
  obtain ⟨id, rfl, hid⟩ := hv
  clear hid
  have hs := Sat.refl w
  go_enter Try.func4, Try.ntmps4
  go_wp2_with fail
  refine (mux_Open_nil id).mono ?_
  rintro _ w1 ⟨rfl, hb1⟩
  have s1 := hs.under hb1
  go_wp2_with fail
  refine (mux_Get_nil id).mono ?_
  rintro _ _ ⟨rfl, rfl⟩
  go_wp2_with fail
  refine (law_ids_nil 3 (by omega) s1).mono ?_
  rintro _ w2 ⟨a, c, rfl, s2⟩
  go_wp2_with fail
  refine mux_Len_nil.mono ?_
  rintro _ _ ⟨rfl, rfl⟩
  go_wp2_with fail
  refine (mux_Drop_nil id).mono ?_
  rintro _ _ ⟨rfl, rfl⟩
  go_wp2_with fail
  refine (mux_Next_nil s2).mono ?_
  rintro _ w3 ⟨rfl, s3⟩
  go_wp2_with fail
  refine (mux_Sweep_nil s3).mono ?_
  rintro _ w4 ⟨rfl, s4⟩
  go_wp2_with fail
  refine (mx_awake s4).mono ?_
  rintro _ w5 ⟨rfl, s5⟩
  go_wp2_with fail
  go_ret
  exact ⟨rfl, s5.below⟩
end
end Go.Proofs.Ytkejadhkebjdcaa
