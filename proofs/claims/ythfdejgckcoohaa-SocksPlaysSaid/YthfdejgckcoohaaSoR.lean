/- Who answers SOCKS: New, State, Addr, Reply, Feed at the other states; walked. -/
import Derived.Test.YthfdejgckcoohaaSoF
namespace Go.Proofs.Ythfdejgckcoohaa
open Go Go.RowKit
set_option linter.unusedVariables false
set_option linter.unusedSimpArgs false
theorem post_cellA {P : Program} {fn : Func} {R : Ending → World → Prop} {a : Act} {w : World} {p : Tmp} {ty g : Nat} {t : TypeId} {cs : Array Value} {d : TypeDesc} (h : fn.results = #[.cell p ty]) (hp : a.tmps.getD p undef = .pointer (some ⟨g, 0, none⟩))
    (hg : w.heap[g]? = some (.cells cs t (0, 0))) (hu : P.underlying ty = some d) (hd : (match d with | .struct _ | .array _ _ => true | _ => false) = true) (hi : (P.info? ty).map (·.size) = some cs.size) (hdf : a.defers = []) (hR : R (.returned (.agg cs)) w) : bodyPost P fn R .ret a w :=
  bodyPost_ret (results_cell_row h a.tmps w g t cs (0, 0) d hp hg hu hd hi) hdf hR

section
variable {w0 w w' : World} {L M : List Assn} {A : Assn} {g : Nat} {s : SoM}
theorem so_New (u p : ByteArray) (hs : Sat w0 w L) :
    Calls Try.prog 11 #[.string u, .string p] w fun e w' => ∃ g, e = .returned (.pointer (some ⟨g, 0, none⟩)) ∧ SoS w0 w' L g (SoM.fresh u p) := by
  have h1 := hs.alloc (soO (SoM.fresh u p) (.slice none 0 0) (.slice none 0 0) (.slice none 0 0))
  have h2 : SoS w0 _ L _ (SoM.fresh u p) := ⟨none, 0, none, 0, none, 0, Sat.re [3, 0, 1, 2] [_, _, _, _] (OwnB.nilI (t := 5) (OwnB.nilI (t := 5) (OwnB.nilI (t := 5) h1)))⟩
  clear h1
  go_enter Try.func11, Try.ntmps11
  go_wp2_with fail
  go_ret
  exact ⟨_, rfl, h2⟩
theorem so_State (hs : SoS w0 w L g s) : Calls Try.prog 13 #[.pointer (some ⟨g, 0, none⟩)] w fun e w' => e = .returned (.int .i64 s.state) ∧ w = w' := by
  obtain ⟨wa1, wc1, ta1, tc1, ba1, bc1, h8⟩ := hs
  have c2 : w.cell? ⟨g, 2, none⟩ = some (.int .i64 s.state) := h8.cell 2 rfl
  clear h8
  go_enter Try.func13, Try.ntmps13
  go_wp2_with fail
  go_ret
  exact ⟨rfl, rfl⟩
theorem so_State_nil : Calls Try.prog 13 #[.pointer none] w fun e w' => e = .returned (.int .i64 5) ∧ w = w' := by
  go_enter Try.func13, Try.ntmps13
  go_wp2_with fail
  go_ret
  exact ⟨rfl, rfl⟩
theorem so_Feed_nil (v : Value) : Calls Try.prog 12 #[.pointer none, v] w fun e w' => e = .returned (.tuple #[.slice none 0 0, .slice none 0 0]) ∧ w = w' := by
  go_enter Try.func12, Try.ntmps12
  go_wp2_with fail
  go_step3
  go_wp2_with fail
  (try rw [Exit.noGoto_ret])
  go_ret2
  exact ⟨rfl, rfl⟩
theorem so_feed_shut {v : Value} (h5 : s.state = 5) (hs : SoS w0 w L g s) : Calls Try.prog 12 #[.pointer (some ⟨g, 0, none⟩), v] w fun e w' => e = .returned (.tuple #[.slice none 0 0, .slice none 0 0]) ∧ w = w' := by
  obtain ⟨wa1, wc1, ta1, tc1, ba1, bc1, h8⟩ := hs
  have c2 : w.cell? ⟨g, 2, none⟩ = some (.int .i64 s.state) := h8.cell 2 rfl
  rw [h5] at c2
  clear h8 h5
  go_enter Try.func12, Try.ntmps12
  go_wp2_with fail
  go_step3
  go_wp2_with fail
  (try rw [Exit.noGoto_ret])
  go_ret2
  exact ⟨rfl, rfl⟩
theorem so_feed_open {v : Value} {k : List UInt8} (h4 : s.state = 4) (hl : k.length ≤ 1000000) (hs : SoS w0 w L g s) (hv : RdB w v k) : Calls Try.prog 12 #[.pointer (some ⟨g, 0, none⟩), v] w fun e w' => ∃ a c, e = .returned (.tuple #[.slice none 0 0, .slice a k.length c]) ∧ Sat w w' [OwnB 5 (.slice a k.length c) k] := by
  obtain ⟨wa1, wc1, ta1, tc1, ba1, bc1, h8⟩ := hs
  have c2 : w.cell? ⟨g, 2, none⟩ = some (.int .i64 s.state) := h8.cell 2 rfl
  rw [h4] at c2
  clear h8 h4
  have H := clone_any v k hv hl
  go_enter Try.func12, Try.ntmps12
  go_wp2_with fail
  go_step3
  go_wp2_with fail
  refine H.mono ?_
  rintro _ w1 ⟨a, c, rfl, h1⟩
  go_wp2_with fail
  (try rw [Exit.noGoto_ret])
  go_ret2
  exact ⟨a, c, rfl, h1⟩
theorem so_Addr_nil (hs : Sat w0 w L) : Calls Try.prog 15 #[.pointer none] w fun e w' => e = .returned (.agg #[.int .i64 0, .slice none 0 0, .string ByteArray.empty, .int .i64 0]) ∧ Sat w0 w' L := by
  have h1 := hs.alloc (.cells #[.int .i64 0, .slice none 0 0, .string ByteArray.empty, .int .i64 0] 33 (0, 0))
  go_enter Try.func15, Try.ntmps15
  go_wp2_with fail
  refine post_cellA (p := 2) (ty := 33) rfl rfl h1.blk.1 Try.underlying33 rfl (by kernel_rfl) rfl ⟨rfl, h1.drop⟩
set_option maxHeartbeats 1000000 in
theorem so_Addr (hl : s.dest.ip.length ≤ 1000000) (hs : SoS w0 w L g s) : Calls Try.prog 15 #[.pointer (some ⟨g, 0, none⟩)] w fun e w' => ∃ a c, e = .returned (.agg #[.int .i64 s.dest.kind, .slice a s.dest.ip.length c, .string s.dest.name, .int .i64 s.dest.port]) ∧ Sat w w' [OwnB 5 (.slice a s.dest.ip.length c) s.dest.ip] := by
  obtain ⟨wa1, wc1, ta1, tc1, ba1, bc1, h8⟩ := hs
  unfold soO at h8
  obtain ⟨x4, x5, x6, x7⟩ : w.cell? ⟨g, 4, none⟩ = some (.int .i64 s.dest.kind) ∧ w.cell? ⟨g, 5, none⟩ = some (.slice ta1 s.dest.ip.length tc1) ∧ w.cell? ⟨g, 6, none⟩ = some (.string s.dest.name) ∧ w.cell? ⟨g, 7, none⟩ = some (.int .i64 s.dest.port) :=
    ⟨h8.cell 4 rfl, h8.cell 5 rfl, h8.cell 6 rfl, h8.cell 7 rfl⟩
  have hg : g < w.heap.size := h8.lt
  have hg2 : ¬ g = w.heap.size := by omega
  have hg3 : ¬ w.heap.size = g := by omega
  have h9 := (Sat.refl w).alloc2 (.cells #[.int .i64 0, .slice none 0 0, .string ByteArray.empty, .int .i64 0] 33 (0, 0)) (.cells #[.int .i64 s.dest.kind, .slice ta1 s.dest.ip.length tc1, .string s.dest.name, .int .i64 s.dest.port] 33 (0, 0))
  have hr := (OwnB.rd (Sat.front [_, _] h8)).mono h9.below
  have H := clone_any _ _ hr hl
  clear h8
  go_enter Try.func15, Try.ntmps15
  go_wp2_with fail
  refine H.mono ?_
  rintro _ w1 ⟨a, c, rfl, h1⟩
  have h2 := h9.trans h1
  have h3 := Sat.front [_] h2
  obtain ⟨y0, y1, y2, y3⟩ := (⟨h3.cell 0 rfl, h3.cell 1 rfl, h3.cell 2 rfl, h3.cell 3 rfl⟩ : _ ∧ _ ∧ _ ∧ _)
  have e1 := h3.frozen 1
  have h4 := h3.set 1 (.slice a s.dest.ip.length c)
  simp only [List.setIfInBounds_toArray, List.set_cons_zero, List.set_cons_succ] at h4
  have h5 := Sat.front [_, _] h4
  obtain ⟨z0, z1, z2, z3⟩ := (⟨h5.cell 0 rfl, h5.cell 1 rfl, h5.cell 2 rfl, h5.cell 3 rfl⟩ : _ ∧ _ ∧ _ ∧ _)
  obtain ⟨f0, f1, f2, f3⟩ := (⟨h5.frozen 0, h5.frozen 1, h5.frozen 2, h5.frozen 3⟩ : _ ∧ _ ∧ _ ∧ _)
  obtain ⟨u0, u1, u2, u3⟩ := (⟨h4.cell 0 rfl, h4.cell 1 rfl, h4.cell 2 rfl, h4.cell 3 rfl⟩ : _ ∧ _ ∧ _ ∧ _)
  have h6 := (((h5.set 0 (.int .i64 s.dest.kind)).set 1 (.slice a s.dest.ip.length c)).set 2 (.string s.dest.name)).set 3 (.int .i64 s.dest.port)
  simp only [List.setIfInBounds_toArray, List.set_cons_zero, List.set_cons_succ] at h6
  go_wp2_with fail
  refine post_cellA (p := 2) (ty := 33) rfl rfl h6.blk.1 Try.underlying33 rfl (by kernel_rfl) rfl ⟨a, c, rfl, h6.drop.drop⟩
end
end Go.Proofs.Ythfdejgckcoohaa
