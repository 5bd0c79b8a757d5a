/- The document's Stream as a piece of the heap, its small functions walked (printed by gen_rst.py). -/
import Derived.Test.YtkejadhkebjdcaaStreamI
import Derived.Test.YtkejadhkebjdcaaJoi
import Derived.Test.YtkejadhkebjdcaaRefMf
namespace Go.Proofs.Ytkejadhkebjdcaa
open Go Go.RowKit
set_option linter.unusedVariables false
set_option linter.unusedSimpArgs false

def RSt (g : Nat) (s : StM) : Assn := fun h => ∃ x : Nat × Value, s.ok ∧ Star [Blk g (.cells #[.int .i64 s.id, .int .i64 s.others, .pointer (some ⟨x.1, 0, none⟩), x.2, .bool s.ended, .bool s.told, .bool s.over, .bool s.cut] 89 (0, 0)), RCredit x.1 s.may, OwnB 5 x.2 s.wait] h

section
variable {w0 w : World} {L : List Assn}
theorem RSt.opn {g : Nat} {s : StM} (h : Sat w0 w (RSt g s :: L)) : ∃ gc v, s.ok ∧
    Sat w0 w (Blk g (.cells #[.int .i64 s.id, .int .i64 s.others, .pointer (some ⟨gc, 0, none⟩), v, .bool s.ended, .bool s.told, .bool s.over, .bool s.cut] 89 (0, 0)) :: RCredit gc s.may :: OwnB 5 v s.wait :: L) := by
  obtain ⟨⟨gc, v⟩, h1⟩ := Sat.ex (F := fun (x : Nat × Value) h => s.ok ∧ Star [Blk g (.cells #[.int .i64 s.id, .int .i64 s.others, .pointer (some ⟨x.1, 0, none⟩), x.2, .bool s.ended, .bool s.told, .bool s.over, .bool s.cut] 89 (0, 0)), RCredit x.1 s.may, OwnB 5 x.2 s.wait] h) h
  obtain ⟨h2, h3⟩ := Sat.pure (p := s.ok) (A := Star _) h1
  exact ⟨gc, v, h2, Sat.unstar h3⟩
theorem RSt.shut {g gc : Nat} {v : Value} {s : StM} (hok : s.ok)
    (h : Sat w0 w (Blk g (.cells #[.int .i64 s.id, .int .i64 s.others, .pointer (some ⟨gc, 0, none⟩), v, .bool s.ended, .bool s.told, .bool s.over, .bool s.cut] 89 (0, 0)) :: RCredit gc s.may :: OwnB 5 v s.wait :: L)) : Sat w0 w (RSt g s :: L) :=
  (Sat.star (L1 := [_, _, _]) h).imp (fun _ hh => ⟨(gc, v), hok, hh⟩)
theorem RSt.mk {g gc : Nat} {v : Value} {s' : StM} {id may others : Int} {wait : List UInt8} {ended told over cut : Bool} (e : (⟨id, may, others, wait, ended, told, over, cut⟩ : StM) = s') (hok : s'.ok)
    (h : Sat w0 w (Blk g (.cells #[.int .i64 id, .int .i64 others, .pointer (some ⟨gc, 0, none⟩), v, .bool ended, .bool told, .bool over, .bool cut] 89 (0, 0)) :: RCredit gc may :: OwnB 5 v wait :: L)) : Sat w0 w (RSt g s' :: L) := by
  subst e
  exact RSt.shut hok h
theorem RSt.ok {g : Nat} {s : StM} (h : Sat w0 w (RSt g s :: L)) : s.ok := by
  obtain ⟨_, _, h1, _⟩ := RSt.opn h
  exact h1

theorem rst_New_no (id most : Int) (h : id < 1 ∨ 65535 < id ∨ most < 1 ∨ 65536 < most) :
    Calls Try.prog 53 #[.int .i64 id, .int .i64 most] w fun e w' => e = .returned (.pointer none) ∧ w = w' := by
  have h' : ¬ (¬ id < 1 ∧ ¬ 65535 < id ∧ ¬ most < 1 ∧ ¬ 65536 < most) := by omega
  by_cases h1 : id < 1
  all_goals by_cases h2 : 65535 < id
  all_goals by_cases h3 : most < 1
  all_goals by_cases h4 : 65536 < most
  all_goals first
    | (exfalso; omega)
    | (clear h h'
       go_enter Try.func53, Try.ntmps53
       go_wp2
       go_ret
       exact ⟨rfl, rfl⟩)

theorem rst_New (id most : Int) (h1 : 1 ≤ id) (h2 : id ≤ 65535) (h3 : 1 ≤ most) (h4 : most ≤ 65536) (hs : Sat w0 w L) :
    Calls Try.prog 53 #[.int .i64 id, .int .i64 most] w fun e w' => ∃ g, e = .returned (.pointer (some ⟨g, 0, none⟩)) ∧ Sat w0 w' (RSt g (StM.new id most) :: L) := by
  have hm : newC most = most := by unfold newC; omega
  go_enter Try.func53, Try.ntmps53
  go_wp2_with fail
  refine (rcredit_New most hs).mono ?_
  rintro _ w1 ⟨g, rfl, hs1⟩
  rw [hm] at hs1
  go_wp2_with fail
  go_ret
  refine ⟨_, rfl, RSt.shut (s := StM.new id most) (gc := g) (v := .slice none 0 0) ⟨h1, h2, h3, h4, by simp [StM.new]⟩ ?_⟩
  have h5 := (OwnB.nilI (t := 5) hs1).swap
  exact h5.alloc _

theorem rst_Done (g : Nat) (s : StM) (hs : Sat w0 w (RSt g s :: L)) :
    Calls Try.prog 55 #[.pointer (some ⟨g, 0, none⟩)] w fun e w' => e = .returned (.bool s.done) ∧ w = w' := by
  obtain ⟨gc, v, hok, h1⟩ := RSt.opn hs
  have c5 : w.cell? ⟨g, 5, none⟩ = some (.bool s.told) := h1.cell 5 rfl
  have c6 : w.cell? ⟨g, 6, none⟩ = some (.bool s.over) := h1.cell 6 rfl
  have c7 : w.cell? ⟨g, 7, none⟩ = some (.bool s.cut) := h1.cell 7 rfl
  unfold StM.done
  cases hc : s.cut
  all_goals cases ht : s.told
  all_goals
    rw [hc] at c7
    rw [ht] at c5
    clear hc ht
    go_enter Try.func55, Try.ntmps55
    go_wp2
    go_ret
    exact ⟨by simp, rfl⟩

theorem rst_End (g : Nat) (s : StM) (hs : Sat w0 w (RSt g s :: L)) :
    Calls Try.prog 34 #[.pointer (some ⟨g, 0, none⟩)] w fun e w' => e = .returned (.bool s.finB) ∧ Sat w0 w' (RSt g s.fin :: L) := by
  obtain ⟨gc, v, hok, h1⟩ := RSt.opn hs
  have c4 : w.cell? ⟨g, 4, none⟩ = some (.bool s.ended) := h1.cell 4 rfl
  have c7 : w.cell? ⟨g, 7, none⟩ = some (.bool s.cut) := h1.cell 7 rfl
  have f4 := h1.frozen 4
  unfold StM.finB StM.fin StM.closed
  cases he : s.ended
  · cases hc : s.cut
    · rw [he] at c4
      rw [hc] at c7
      have HC := hid_ hc
      have HE := hid_ he
      clear hc he
      go_enter Try.func34, Try.ntmps34
      go_wp2_with fail
      go_ret
      have h5 := RSt.shut (s := { s with ended := true }) hok (h1.set 4 (.bool true))
      rw [HC.out] at h5
      exact ⟨rfl, h5⟩
    · rw [he] at c4
      rw [hc] at c7
      clear hc he
      go_enter Try.func34, Try.ntmps34
      go_wp2_with fail
      go_ret
      exact ⟨rfl, hs⟩
  · rw [he] at c4
    clear he
    go_enter Try.func34, Try.ntmps34
    go_wp2_with fail
    go_ret
    exact ⟨rfl, hs⟩
set_option maxRecDepth 100000 in
set_option maxHeartbeats 1000000 in
theorem rst_Send (g : Nat) (s : StM) (v : Value) (b : List UInt8) (hr : RdB w0 v b) (hs : Sat w0 w (RSt g s :: L)) :
    Calls Try.prog 33 #[.pointer (some ⟨g, 0, none⟩), v] w fun e w' => e = .returned (.bool (s.sendB b)) ∧ Sat w0 w' (RSt g (s.send b) :: L) := by
  obtain ⟨gc, vw, hok, h1⟩ := RSt.opn hs
  obtain ⟨a, cap, rfl, _, _⟩ := OwnS.form (Sat.front [_, _] h1)
  obtain ⟨a2, cap2, rfl, _, _, _⟩ := hr.form
  have hbl := hr.len
  have c3 : w.cell? ⟨g, 3, none⟩ = some (.slice a s.wait.length cap) := h1.cell 3 rfl
  have c4 : w.cell? ⟨g, 4, none⟩ = some (.bool s.ended) := h1.cell 4 rfl
  have c7 : w.cell? ⟨g, 7, none⟩ = some (.bool s.cut) := h1.cell 7 rfl
  have hlt : g < w.heap.size := h1.lt
  have hne : w.heap.size ≠ g := by omega
  obtain ⟨hok1, hok2, hok3, hok4, hok5⟩ := hok
  unfold maxLen at hbl
  cases he : s.ended
  · cases hc : s.cut
    · rw [he] at c4
      rw [hc] at c7
      by_cases hlen : b.length + s.wait.length ≤ 65536
      · have e1 : s.sendB b = true := by unfold StM.sendB StM.closed; rw [he, hc]; simp; omega
        have e2 : s.send b = { s with wait := s.wait ++ b } := by unfold StM.send; rw [e1]; simp
        rw [e1, e2]
        have HE := hid_ he
        have HC := hid_ hc
        clear e1 e2 hc he
        have q : decide ((65536 : Int) - (s.wait.length : Int) < (b.length : Int)) = false := decide_eq_false (by omega)
        have h2 := h1.alloc (.cells #[.slice a s.wait.length cap, .slice a2 b.length cap2] 37 (0, 0))
        have HJ := hid_ (rj_Join (l1 := s.wait) (l2 := b) (by omega) h2 (fun W L' h => OwnB.rd (Sat.front (L' ++ [_, _]) (by rw [List.append_assoc]; exact h))) (fun W L' h => RdB.later hr h))
        go_enter Try.func33, Try.ntmps33
        go_wp2_with fail
        refine HJ.out.mono ?_
        rintro _ w3 ⟨a3, c3', rfl, h3⟩
        have f3 := (Sat.front [_] h3).frozen 3
        have k3 : w3.cell? ⟨g, 3, none⟩ = some (.slice a s.wait.length cap) := (Sat.front [_] h3).cell 3 rfl
        go_wp2_with fail
        go_ret
        have h4 := (Sat.front [_] h3).set 3 (.slice a3 (s.wait.length + b.length) c3')
        have h5 := (Sat.front [_, _, _] (Sat.re [0, 2, 1, 3] [_, _, _, _] h4)).drop
        have h6 := RSt.shut (s := { s with wait := s.wait ++ b }) ⟨hok1, hok2, hok3, hok4, by simp; omega⟩ h5
        exact ⟨rfl, h6⟩
      · have e1 : s.sendB b = false := by unfold StM.sendB; simp; intro; omega
        have e2 : s.send b = s := by unfold StM.send; rw [e1]; simp
        rw [e1, e2]
        clear e1 e2 hc he
        have q : decide ((65536 : Int) - (s.wait.length : Int) < (b.length : Int)) = true := decide_eq_true (by omega)
        go_enter Try.func33, Try.ntmps33
        go_wp2_with fail
        go_ret
        exact ⟨rfl, hs⟩
    · have e1 : s.sendB b = false := by unfold StM.sendB StM.closed; rw [hc]; simp
      have e2 : s.send b = s := by unfold StM.send; rw [e1]; simp
      rw [e1, e2]
      rw [he] at c4
      rw [hc] at c7
      clear e1 e2 hc he
      go_enter Try.func33, Try.ntmps33
      go_wp2_with fail
      go_ret
      exact ⟨rfl, hs⟩
  · have e1 : s.sendB b = false := by unfold StM.sendB StM.closed; rw [he]; simp
    have e2 : s.send b = s := by unfold StM.send; rw [e1]; simp
    rw [e1, e2]
    rw [he] at c4
    clear e1 e2 he
    go_enter Try.func33, Try.ntmps33
    go_wp2_with fail
    go_ret
    exact ⟨rfl, hs⟩
set_option maxRecDepth 100000 in
set_option maxHeartbeats 1000000 in
theorem rst_reset (g : Nat) (s : StM) (code : Int) (hs : Sat w0 w (RSt g s :: L)) :
    Calls Try.prog 56 #[.pointer (some ⟨g, 0, none⟩), .int .i64 code] w fun e w' => e = .returned (frV (FrM.resetF s.id code) (.slice none 0 0) (.slice none 0 0)) ∧ Sat w0 w' (RSt g s.reset :: L) := by
  obtain ⟨gc, v, hok, h1⟩ := RSt.opn hs
  have c0 : w.cell? ⟨g, 0, none⟩ = some (.int .i64 s.id) := h1.cell 0 rfl
  have c3 : w.cell? ⟨g, 3, none⟩ = some v := h1.cell 3 rfl
  have c7 : w.cell? ⟨g, 7, none⟩ = some (.bool s.cut) := h1.cell 7 rfl
  have f3 := h1.frozen 3
  have f7 := h1.frozen 7
  have hlt : g < w.heap.size := h1.lt
  have hne : w.heap.size ≠ g := by omega
  go_enter Try.func56, Try.ntmps56
  go_wp2_with fail
  have h2 := (h1.set 7 (.bool true)).set 3 (.slice none 0 0)
  refine post_cell (p := 4) (ty := 43) rfl rfl (alloc_at (by rw [setCell_size, setCell_size])) Try.underlying43 rfl (by kernel_rfl) rfl ⟨rfl, ?_⟩
  exact RSt.mk (wait := []) (cut := true) rfl (StM.reset_ok hok) (Sat.re [1, 2, 0] [_, _, _] (OwnB.nilI (Sat.re [0, 1] [_, _] (Sat.re [2, 0, 1] [_, _, _] (h2.alloc_ _)).drop)))

set_option maxRecDepth 100000 in
set_option maxHeartbeats 1000000 in
theorem rst_Break (g : Nat) (s : StM) (code : Int) (hs : Sat w0 w (RSt g s :: L)) :
    Calls Try.prog 35 #[.pointer (some ⟨g, 0, none⟩), .int .i64 code] w fun e w' => e = .returned (.tuple #[frV (s.breakF code) (.slice none 0 0) (.slice none 0 0), .bool (s.breakB code)]) ∧ Sat w0 w' (RSt g (s.breakS code) :: L) := by
  have hA : ∀ o, Sat w0 (w.alloc o) (Blk w.heap.size o :: RSt g s :: L) := fun o => hs.alloc o
  unfold StM.breakF StM.breakS
  cases hb : s.breakB code
  · have hdone : s.done = true ∨ (s.done = false ∧ code < 0) ∨ (s.done = false ∧ 0 ≤ code ∧ 255 < code) := by
      unfold StM.breakB at hb
      cases hd : s.done
      · right
        rw [hd] at hb
        simp at hb
        by_cases h0 : code < 0
        · exact .inl ⟨rfl, h0⟩
        · exact .inr ⟨rfl, by omega, hb (by omega)⟩
      · exact .inl rfl
    clear hb
    rcases hdone with hd | ⟨hd, hc⟩ | ⟨hd, hc0, hc⟩
    all_goals
      have HD := hid_ hd
      clear hd
      go_enter Try.func35, Try.ntmps35
      go_wp2_with fail
      refine (rst_Done g s (hA _).drop).mono ?_
      rintro _ _ ⟨rfl, rfl⟩
      rw [HD.out]
      go_wp2_with fail
      exact post_cell_tmp (p := 4) (q := 5) (ty := 43) rfl rfl (alloc_at rfl) Try.underlying43 rfl (by kernel_rfl) rfl rfl ⟨rfl, (hA _).drop⟩
  · have hb' := hb
    unfold StM.breakB at hb'
    simp only [Bool.and_eq_true, Bool.not_eq_true', decide_eq_true_eq] at hb'
    obtain ⟨⟨hd, hc0⟩, hc1⟩ := hb'
    have HD := hid_ hd
    clear hd hb
    go_enter Try.func35, Try.ntmps35
    go_wp2_with fail
    refine (rst_Done g s (hA _).drop).mono ?_
    rintro _ _ ⟨rfl, rfl⟩
    rw [HD.out]
    go_wp2_with fail
    refine (rst_reset g s code (Sat.re [1, 0] [_, _] (hA _))).mono ?_
    rintro _ w1 ⟨rfl, h1⟩
    unfold frV
    have h2 : Sat w0 w1 (Blk w.heap.size _ :: RSt g s.reset :: L) := Sat.re [1, 0] [_, _] h1
    have z0 : w1.cell? ⟨w.heap.size, 0, none⟩ = some _ := h2.cell 0 rfl
    have z1 : w1.cell? ⟨w.heap.size, 1, none⟩ = some _ := h2.cell 1 rfl
    have z2 : w1.cell? ⟨w.heap.size, 2, none⟩ = some _ := h2.cell 2 rfl
    have z3 : w1.cell? ⟨w.heap.size, 3, none⟩ = some _ := h2.cell 3 rfl
    have z4 : w1.cell? ⟨w.heap.size, 4, none⟩ = some _ := h2.cell 4 rfl
    have z5 : w1.cell? ⟨w.heap.size, 5, none⟩ = some _ := h2.cell 5 rfl
    have z6 : w1.cell? ⟨w.heap.size, 6, none⟩ = some _ := h2.cell 6 rfl
    have z7 : w1.cell? ⟨w.heap.size, 7, none⟩ = some _ := h2.cell 7 rfl
    have z8 : w1.cell? ⟨w.heap.size, 8, none⟩ = some _ := h2.cell 8 rfl
    have y0 := h2.frozen 0
    have y1 := h2.frozen 1
    have y2 := h2.frozen 2
    have y3 := h2.frozen 3
    have y4 := h2.frozen 4
    have y5 := h2.frozen 5
    have y6 := h2.frozen 6
    have y7 := h2.frozen 7
    have y8 := h2.frozen 8
    go_wp2_with fail
    have h3 := h2.frame (FrM.resetF s.id code) (.slice none 0 0) (.slice none 0 0)
    exact post_cell_tmp (p := 4) (q := 5) (ty := 43) rfl rfl h3.blk.1 Try.underlying43 rfl (by kernel_rfl) rfl rfl ⟨rfl, h3.drop⟩

end
end Go.Proofs.Ytkejadhkebjdcaa
