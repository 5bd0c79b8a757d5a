/- What a frame means to a stream: reset, Break, against, Got, walked. -/
import Derived.Test.YtkejadhkebjdcaaStreamN
import Derived.Test.YtkejadhkebjdcaaMayW
namespace Go.Proofs.Ytkejadhkebjdcaa
open Go Go.RowKit
set_option linter.unusedVariables false
set_option linter.unusedSimpArgs false

def FrM.resetF (id code : Int) : FrM := { FrM.of 5 id with code := code }
def StM.reset (s : StM) : StM := { s with cut := true, wait := [] }
theorem StM.reset_ok {s : StM} (h : s.ok) : s.reset.ok := by
  obtain ⟨h1, h2, h3, h4, h5⟩ := h
  exact ⟨h1, h2, h3, h4, by simp [StM.reset]⟩

theorem post_cell {P : Program} {fn : Func} {R : Ending → World → Prop} {a : Act} {w : World} {p : Tmp} {ty g : Nat} {t : TypeId} {cs : Array Value} {d : TypeDesc} (h : fn.results = #[.cell p ty]) (hp : a.tmps.getD p undef = .pointer (some ⟨g, 0, none⟩))
    (hg : w.heap[g]? = some (.cells cs t (0, 0))) (hu : P.underlying ty = some d) (hd : (match d with | .struct _ | .array _ _ => true | _ => false) = true) (hi : (P.info? ty).map (·.size) = some cs.size) (hdf : a.defers = []) (hR : R (.returned (.agg cs)) w) : bodyPost P fn R .ret a w :=
  bodyPost_ret (results_cell_row h a.tmps w g t cs (0, 0) d hp hg hu hd hi) hdf hR

section
variable {w0 w : World} {L : List Assn}
set_option maxRecDepth 100000 in
set_option maxHeartbeats 1000000 in
theorem stream_reset (g : Nat) (s : StM) (code : Int) (hs : Sat w0 w (StA g s :: L)) :
    Calls Try.prog 47 #[.pointer (some ⟨g, 0, none⟩), .int .i64 code] w fun e w' => e = .returned (frV (FrM.resetF s.id code) (.slice none 0 0) (.slice none 0 0)) ∧ Sat w0 w' (StA g s.reset :: L) := by
  obtain ⟨gc, v, hok, h1⟩ := StA.opn hs
  have c0 : w.cell? ⟨g, 0, none⟩ = some (.int .i64 s.id) := h1.cell 0 rfl
  have c3 : w.cell? ⟨g, 3, none⟩ = some v := h1.cell 3 rfl
  have c7 : w.cell? ⟨g, 7, none⟩ = some (.bool s.cut) := h1.cell 7 rfl
  have f3 := h1.frozen 3
  have f7 := h1.frozen 7
  have hlt : g < w.heap.size := h1.lt
  have hne : w.heap.size ≠ g := by omega
  go_enter Try.func47, Try.ntmps47
  go_wp2_with fail
  have h2 := (h1.set 7 (.bool true)).set 3 (.slice none 0 0)
  refine post_cell (p := 4) (ty := 43) rfl rfl (alloc_at (by rw [setCell_size, setCell_size])) Try.underlying43 rfl (by kernel_rfl) rfl ⟨rfl, ?_⟩
  exact StA.mk (wait := []) (cut := true) rfl (StM.reset_ok hok) (Sat.re [1, 2, 0] [_, _, _] (OwnB.nilI (Sat.re [0, 1] [_, _] (Sat.re [2, 0, 1] [_, _, _] (h2.alloc_ _)).drop)))

theorem post_cell_tmp {P : Program} {fn : Func} {R : Ending → World → Prop} {a : Act} {w : World} {p q : Tmp} {ty g : Nat} {t : TypeId} {cs : Array Value} {d : TypeDesc} (h : fn.results = #[.cell p ty, .tmp q]) (hp : a.tmps.getD p undef = .pointer (some ⟨g, 0, none⟩))
    (hg : w.heap[g]? = some (.cells cs t (0, 0))) (hu : P.underlying ty = some d) (hd : (match d with | .struct _ | .array _ _ => true | _ => false) = true) (hi : (P.info? ty).map (·.size) = some cs.size) (hdf : a.defers = []) {v : Value} (hv : a.tmps.getD q undef = v) (hR : R (.returned (.tuple #[.agg cs, v])) w) : bodyPost P fn R .ret a w := by
  refine bodyPost_ret (v := .tuple #[.agg cs, v]) ?_ hdf hR
  have hp' : a.tmps[p]?.getD undef = .pointer (some ⟨g, 0, none⟩) := by simpa using hp
  have hv' : a.tmps[q]?.getD undef = v := by simpa using hv
  simp [results, h, hp', hv', asAddr, run_loadVar_row w g t ty cs (0, 0) d hg hu hd hi]

def StM.breakB (s : StM) (code : Int) : Bool := !s.done && decide (0 ≤ code) && decide (code ≤ 255)
def StM.breakS (s : StM) (code : Int) : StM := if s.breakB code then s.reset else s
def StM.breakF (s : StM) (code : Int) : FrM := if s.breakB code then FrM.resetF s.id code else FrM.of 0 0

/-- A frame laid over nine cells. -/
theorem Sat.frame {b : Nat} {t : TypeId} {v0 v1 v2 v3 v4 v5 v6 v7 v8 : Value} (h : Sat w0 w (Blk b (.cells #[v0, v1, v2, v3, v4, v5, v6, v7, v8] t (0, 0)) :: L)) (f : FrM) (ip d : Value) :
    Sat w0 (((((((((w.setCell ⟨b, 0, none⟩ (.int .i64 f.kind)).setCell ⟨b, 1, none⟩ (.int .i64 f.stream)).setCell ⟨b, 2, none⟩ (.int .i64 f.code)).setCell ⟨b, 3, none⟩ (.int .i64 f.n)).setCell ⟨b, 4, none⟩ (.int .i64 f.addr.kind)).setCell ⟨b, 5, none⟩ ip).setCell ⟨b, 6, none⟩ (.string f.addr.name)).setCell ⟨b, 7, none⟩ (.int .i64 f.addr.port)).setCell ⟨b, 8, none⟩ d)
      (Blk b (.cells #[.int .i64 f.kind, .int .i64 f.stream, .int .i64 f.code, .int .i64 f.n, .int .i64 f.addr.kind, ip, .string f.addr.name, .int .i64 f.addr.port, d] t (0, 0)) :: L) := by
  have h9 := ((((((((h.set 0 (.int .i64 f.kind)).set 1 (.int .i64 f.stream)).set 2 (.int .i64 f.code)).set 3 (.int .i64 f.n)).set 4 (.int .i64 f.addr.kind)).set 5 ip).set 6 (.string f.addr.name)).set 7 (.int .i64 f.addr.port)).set 8 d
  simp only [List.setIfInBounds_toArray, List.set_cons_zero, List.set_cons_succ] at h9
  exact h9

set_option maxRecDepth 100000 in
theorem stream_Break_nil (code : Int) : Calls Try.prog 21 #[.pointer none, .int .i64 code] w fun e w' => e = .returned (.tuple #[frV (FrM.of 0 0) (.slice none 0 0) (.slice none 0 0), .bool false]) ∧ Below w.heap.size w w' := by
  go_enter Try.func21, Try.ntmps21
  go_wp2_with fail
  exact post_cell_tmp (p := 4) (q := 5) (ty := 43) rfl rfl (alloc_at rfl) Try.underlying43 rfl (by kernel_rfl) rfl rfl ⟨rfl, (Below.refl _ _).alloc (Nat.le_refl _) _⟩

set_option maxRecDepth 100000 in
set_option maxHeartbeats 1000000 in
theorem stream_Break (g : Nat) (s : StM) (code : Int) (hs : Sat w0 w (StA g s :: L)) :
    Calls Try.prog 21 #[.pointer (some ⟨g, 0, none⟩), .int .i64 code] w fun e w' => e = .returned (.tuple #[frV (s.breakF code) (.slice none 0 0) (.slice none 0 0), .bool (s.breakB code)]) ∧ Sat w0 w' (StA g (s.breakS code) :: L) := by
  have hA : ∀ o, Sat w0 (w.alloc o) (Blk w.heap.size o :: StA g s :: L) := fun o => hs.alloc o
  unfold StM.breakF StM.breakS
  cases hb : s.breakB code
  · have hdone : s.done = true ∨ (s.done = false ∧ code < 0) ∨ (s.done = false ∧ 0 ≤ code ∧ 255 < code) := by
      unfold StM.breakB at hb
      cases hd : s.done
      · right
        rw [hd] at hb
        simp at hb
        by_cases h0 : code < 0
        · exact .inl ⟨rfl, h0⟩
        · exact .inr ⟨rfl, by omega, hb (by omega)⟩
      · exact .inl rfl
    clear hb
    rcases hdone with hd | ⟨hd, hc⟩ | ⟨hd, hc0, hc⟩
    all_goals
      have HD := hid_ hd
      clear hd
      go_enter Try.func21, Try.ntmps21
      go_wp2_with fail
      refine (stream_Done g s (hA _).drop).mono ?_
      rintro _ _ ⟨rfl, rfl⟩
      rw [HD.out]
      go_wp2_with fail
      exact post_cell_tmp (p := 4) (q := 5) (ty := 43) rfl rfl (alloc_at rfl) Try.underlying43 rfl (by kernel_rfl) rfl rfl ⟨rfl, (hA _).drop⟩
  · have hb' := hb
    unfold StM.breakB at hb'
    simp only [Bool.and_eq_true, Bool.not_eq_true', decide_eq_true_eq] at hb'
    obtain ⟨⟨hd, hc0⟩, hc1⟩ := hb'
    have HD := hid_ hd
    clear hd hb
    go_enter Try.func21, Try.ntmps21
    go_wp2_with fail
    refine (stream_Done g s (hA _).drop).mono ?_
    rintro _ _ ⟨rfl, rfl⟩
    rw [HD.out]
    go_wp2_with fail
    refine (stream_reset g s code (Sat.re [1, 0] [_, _] (hA _))).mono ?_
    rintro _ w1 ⟨rfl, h1⟩
    unfold frV
    have h2 : Sat w0 w1 (Blk w.heap.size _ :: StA g s.reset :: L) := Sat.re [1, 0] [_, _] h1
    have z0 : w1.cell? ⟨w.heap.size, 0, none⟩ = some _ := h2.cell 0 rfl
    have z1 : w1.cell? ⟨w.heap.size, 1, none⟩ = some _ := h2.cell 1 rfl
    have z2 : w1.cell? ⟨w.heap.size, 2, none⟩ = some _ := h2.cell 2 rfl
    have z3 : w1.cell? ⟨w.heap.size, 3, none⟩ = some _ := h2.cell 3 rfl
    have z4 : w1.cell? ⟨w.heap.size, 4, none⟩ = some _ := h2.cell 4 rfl
    have z5 : w1.cell? ⟨w.heap.size, 5, none⟩ = some _ := h2.cell 5 rfl
    have z6 : w1.cell? ⟨w.heap.size, 6, none⟩ = some _ := h2.cell 6 rfl
    have z7 : w1.cell? ⟨w.heap.size, 7, none⟩ = some _ := h2.cell 7 rfl
    have z8 : w1.cell? ⟨w.heap.size, 8, none⟩ = some _ := h2.cell 8 rfl
    have y0 := h2.frozen 0
    have y1 := h2.frozen 1
    have y2 := h2.frozen 2
    have y3 := h2.frozen 3
    have y4 := h2.frozen 4
    have y5 := h2.frozen 5
    have y6 := h2.frozen 6
    have y7 := h2.frozen 7
    have y8 := h2.frozen 8
    go_wp2_with fail
    have h3 := h2.frame (FrM.resetF s.id code) (.slice none 0 0) (.slice none 0 0)
    exact post_cell_tmp (p := 4) (q := 5) (ty := 43) rfl rfl h3.blk.1 Try.underlying43 rfl (by kernel_rfl) rfl rfl ⟨rfl, h3.drop⟩

/-- What the other end is told where it is against the rules. -/
theorem stream_against (g : Nat) (s : StM) (hs : Sat w0 w (StA g s :: L)) :
    Calls Try.prog 57 #[.pointer (some ⟨g, 0, none⟩)] w fun e w' => ∃ a c, e = .returned (.tuple #[.slice none 0 0, .slice a 1 c, .int .i64 2]) ∧ Sat w0 w' (FramesA (.slice a 1 c) [FrM.resetF s.id 1] :: StA g s.reset :: L) := by
  go_enter Try.func57, Try.ntmps57
  go_wp2_with fail
  refine (stream_reset g s 1 hs).mono ?_
  rintro _ w1 ⟨rfl, h1⟩
  unfold frV
  go_wp2_with fail
  go_ret3
  refine ⟨some ⟨w1.heap.size, 0, none⟩, 1, rfl, ?_⟩
  refine OwnL.shut (css := [frC (FrM.resetF s.id 1) (.slice none 0 0) (.slice none 0 0)]) rfl (by simp [frC]) ?_
  refine OwnS.ofBlk (cur := (frC (FrM.resetF s.id 1) (.slice none 0 0) (.slice none 0 0)).toArray) ?_ (Nat.le_refl _) (by decide) (by simp [frC]) (by simp [frC])
  refine Sat.re [1, 0] [_, _] (FrE.shut (f := FrM.resetF s.id 1) (OwnB.nilI (OwnB.nilI ?_)))
  exact h1.alloc _
end
end Go.Proofs.Ytkejadhkebjdcaa
