/- A stream's end as a piece of the heap, and its small functions walked. -/
import Derived.Test.YtkejadhkebjdcaaCreditW
import Derived.Test.YtkejadhkebjdcaaOwn
namespace Go.Proofs.Ytkejadhkebjdcaa
open Go Go.RowKit
set_option linter.unusedVariables false
set_option linter.unusedSimpArgs false

/-- A stream's end. -/
structure StM where
  id : Int
  may : Int
  others : Int
  wait : List UInt8
  ended : Bool
  told : Bool
  over : Bool
  cut : Bool

def StM.ok (s : StM) : Prop := 1 ≤ s.id ∧ s.id ≤ 65535 ∧ 1 ≤ s.others ∧ s.others ≤ 65536 ∧ s.wait.length ≤ 65536
def StM.new (id most : Int) : StM := ⟨id, most, most, [], false, false, false, false⟩
def StM.closed (s : StM) : Bool := s.ended || s.cut
def StM.done (s : StM) : Bool := s.cut || (s.told && s.over)

def StA (g : Nat) (s : StM) : Assn := fun h => ∃ x : Nat × Value, s.ok ∧ Star [Blk g (.cells #[.int .i64 s.id, .pointer (some ⟨x.1, 0, none⟩), .int .i64 s.others, x.2, .bool s.ended, .bool s.told, .bool s.over, .bool s.cut] 78 (0, 0)), Credit x.1 s.may, OwnB 5 x.2 s.wait] h

theorem uinfo8 : ∃ i, Try.prog.info? 5 = some i ∧ i.zero = some (.int .u8 0) ∧ i.size = 1 ∧ i.bytes = 1 := info_at (by kernel_rfl)

section
variable {w0 w : World} {L : List Assn}

theorem StA.opn {g : Nat} {s : StM} (h : Sat w0 w (StA g s :: L)) : ∃ gc v, s.ok ∧
    Sat w0 w (Blk g (.cells #[.int .i64 s.id, .pointer (some ⟨gc, 0, none⟩), .int .i64 s.others, v, .bool s.ended, .bool s.told, .bool s.over, .bool s.cut] 78 (0, 0)) :: Credit gc s.may :: OwnB 5 v s.wait :: L) := by
  obtain ⟨⟨gc, v⟩, h1⟩ := Sat.ex (F := fun (x : Nat × Value) h => s.ok ∧ Star [Blk g (.cells #[.int .i64 s.id, .pointer (some ⟨x.1, 0, none⟩), .int .i64 s.others, x.2, .bool s.ended, .bool s.told, .bool s.over, .bool s.cut] 78 (0, 0)), Credit x.1 s.may, OwnB 5 x.2 s.wait] h) h
  obtain ⟨h2, h3⟩ := Sat.pure (p := s.ok) (A := Star _) h1
  exact ⟨gc, v, h2, Sat.unstar h3⟩
theorem StA.shut {g gc : Nat} {v : Value} {s : StM} (hok : s.ok)
    (h : Sat w0 w (Blk g (.cells #[.int .i64 s.id, .pointer (some ⟨gc, 0, none⟩), .int .i64 s.others, v, .bool s.ended, .bool s.told, .bool s.over, .bool s.cut] 78 (0, 0)) :: Credit gc s.may :: OwnB 5 v s.wait :: L)) : Sat w0 w (StA g s :: L) :=
  (Sat.star (L1 := [_, _, _]) h).imp (fun _ hh => ⟨(gc, v), hok, hh⟩)
theorem StA.mk {g gc : Nat} {v : Value} {s' : StM} {id may others : Int} {wait : List UInt8} {ended told over cut : Bool} (e : (⟨id, may, others, wait, ended, told, over, cut⟩ : StM) = s') (hok : s'.ok)
    (h : Sat w0 w (Blk g (.cells #[.int .i64 id, .pointer (some ⟨gc, 0, none⟩), .int .i64 others, v, .bool ended, .bool told, .bool over, .bool cut] 78 (0, 0)) :: Credit gc may :: OwnB 5 v wait :: L)) : Sat w0 w (StA g s' :: L) := by
  subst e
  exact StA.shut hok h
theorem StA.ok {g : Nat} {s : StM} (h : Sat w0 w (StA g s :: L)) : s.ok := by
  obtain ⟨_, _, h1, _⟩ := StA.opn h
  exact h1

theorem stream_New_no (id most : Int) (h : id < 1 ∨ 65535 < id ∨ most < 1 ∨ 65536 < most) :
    Calls Try.prog 18 #[.int .i64 id, .int .i64 most] w fun e w' => e = .returned (.pointer none) ∧ w = w' := by
  have h' : ¬ (¬ id < 1 ∧ ¬ 65535 < id ∧ ¬ most < 1 ∧ ¬ 65536 < most) := by omega
  by_cases h1 : id < 1
  all_goals by_cases h2 : 65535 < id
  all_goals by_cases h3 : most < 1
  all_goals by_cases h4 : 65536 < most
  all_goals first
    | (exfalso; omega)
    | (clear h h'
       go_enter Try.func18, Try.ntmps18
       go_wp2
       go_ret
       exact ⟨rfl, rfl⟩)

theorem stream_New (id most : Int) (h1 : 1 ≤ id) (h2 : id ≤ 65535) (h3 : 1 ≤ most) (h4 : most ≤ 65536) (hs : Sat w0 w L) :
    Calls Try.prog 18 #[.int .i64 id, .int .i64 most] w fun e w' => ∃ g, e = .returned (.pointer (some ⟨g, 0, none⟩)) ∧ Sat w0 w' (StA g (StM.new id most) :: L) := by
  have hm : newC most = most := by unfold newC; omega
  go_enter Try.func18, Try.ntmps18
  go_wp2_with fail
  refine (credit_New most hs).mono ?_
  rintro _ w1 ⟨g, rfl, hs1⟩
  rw [hm] at hs1
  go_wp2_with fail
  go_ret
  refine ⟨_, rfl, StA.shut (s := StM.new id most) (gc := g) (v := .slice none 0 0) ⟨h1, h2, h3, h4, by simp [StM.new]⟩ ?_⟩
  have h5 := (OwnB.nilI (t := 5) hs1).swap
  exact h5.alloc _

theorem stream_closed_nil : Calls Try.prog 46 #[.pointer none] w fun e w' => e = .returned (.bool true) ∧ w = w' := by
  go_enter Try.func46, Try.ntmps46
  go_wp2
  go_ret
  exact ⟨rfl, rfl⟩

theorem stream_closed (g : Nat) (s : StM) (hs : Sat w0 w (StA g s :: L)) :
    Calls Try.prog 46 #[.pointer (some ⟨g, 0, none⟩)] w fun e w' => e = .returned (.bool s.closed) ∧ w = w' := by
  obtain ⟨gc, v, hok, h1⟩ := StA.opn hs
  have c4 : w.cell? ⟨g, 4, none⟩ = some (.bool s.ended) := h1.cell 4 rfl
  have c7 : w.cell? ⟨g, 7, none⟩ = some (.bool s.cut) := h1.cell 7 rfl
  unfold StM.closed
  cases he : s.ended
  all_goals
    rw [he] at c4
    clear he
    go_enter Try.func46, Try.ntmps46
    go_wp2
    go_ret
    exact ⟨by simp, rfl⟩

theorem stream_End_nil : Calls Try.prog 20 #[.pointer none] w fun e w' => e = .returned (.bool false) ∧ w = w' := by
  go_enter Try.func20, Try.ntmps20
  go_wp2_with fail
  refine stream_closed_nil.mono ?_
  rintro _ _ ⟨rfl, rfl⟩
  go_wp2_with fail
  go_ret
  exact ⟨rfl, rfl⟩

def StM.finB (s : StM) : Bool := !s.closed
def StM.fin (s : StM) : StM := if s.closed then s else { s with ended := true }
theorem StM.fin_ok {s : StM} (h : s.ok) : s.fin.ok := by unfold StM.fin; split <;> exact h

theorem stream_End (g : Nat) (s : StM) (hs : Sat w0 w (StA g s :: L)) :
    Calls Try.prog 20 #[.pointer (some ⟨g, 0, none⟩)] w fun e w' => e = .returned (.bool s.finB) ∧ Sat w0 w' (StA g s.fin :: L) := by
  have hcl := stream_closed g s hs
  unfold StM.finB StM.fin
  obtain ⟨gc, v, hok, h1⟩ := StA.opn hs
  have c4 : w.cell? ⟨g, 4, none⟩ = some (.bool s.ended) := h1.cell 4 rfl
  have f4 := h1.frozen 4
  cases hc : s.closed
  all_goals
    rw [hc] at hcl
    have hcl' := hid_ hcl
    clear hcl hc
    go_enter Try.func20, Try.ntmps20
    go_wp2_with fail
    refine hcl'.out.mono ?_
    rintro _ _ ⟨rfl, rfl⟩
    go_wp2_with fail
    go_ret
  · exact ⟨rfl, StA.shut (s := { s with ended := true }) hok (h1.set 4 _)⟩
  · exact ⟨rfl, hs⟩

theorem stream_Waits_nil : Calls Try.prog 61 #[.pointer none] w fun e w' => e = .returned (.int .i64 0) ∧ w = w' := by
  go_enter Try.func61, Try.ntmps61
  go_wp2
  go_ret
  exact ⟨rfl, rfl⟩

theorem stream_Waits (g : Nat) (s : StM) (hs : Sat w0 w (StA g s :: L)) :
    Calls Try.prog 61 #[.pointer (some ⟨g, 0, none⟩)] w fun e w' => e = .returned (.int .i64 s.wait.length) ∧ w = w' := by
  obtain ⟨gc, v, hok, h1⟩ := StA.opn hs
  obtain ⟨a, cap, rfl, _, _⟩ := OwnS.form (Sat.front [_, _] h1)
  have c3 : w.cell? ⟨g, 3, none⟩ = some (.slice a s.wait.length cap) := h1.cell 3 rfl
  go_enter Try.func61, Try.ntmps61
  go_wp2
  go_ret
  exact ⟨rfl, rfl⟩

theorem stream_Id_nil : Calls Try.prog 43 #[.pointer none] w fun e w' => e = .returned (.int .i64 0) ∧ w = w' := by
  go_enter Try.func43, Try.ntmps43
  go_wp2
  go_ret
  exact ⟨rfl, rfl⟩
theorem stream_Id (g : Nat) (s : StM) (hs : Sat w0 w (StA g s :: L)) :
    Calls Try.prog 43 #[.pointer (some ⟨g, 0, none⟩)] w fun e w' => e = .returned (.int .i64 s.id) ∧ w = w' := by
  obtain ⟨gc, v, hok, h1⟩ := StA.opn hs
  have c0 : w.cell? ⟨g, 0, none⟩ = some (.int .i64 s.id) := h1.cell 0 rfl
  go_enter Try.func43, Try.ntmps43
  go_wp2
  go_ret
  exact ⟨rfl, rfl⟩

theorem stream_Done_nil : Calls Try.prog 44 #[.pointer none] w fun e w' => e = .returned (.bool false) ∧ w = w' := by
  go_enter Try.func44, Try.ntmps44
  go_wp2
  go_ret
  exact ⟨rfl, rfl⟩
theorem stream_Done (g : Nat) (s : StM) (hs : Sat w0 w (StA g s :: L)) :
    Calls Try.prog 44 #[.pointer (some ⟨g, 0, none⟩)] w fun e w' => e = .returned (.bool s.done) ∧ w = w' := by
  obtain ⟨gc, v, hok, h1⟩ := StA.opn hs
  have c5 : w.cell? ⟨g, 5, none⟩ = some (.bool s.told) := h1.cell 5 rfl
  have c6 : w.cell? ⟨g, 6, none⟩ = some (.bool s.over) := h1.cell 6 rfl
  have c7 : w.cell? ⟨g, 7, none⟩ = some (.bool s.cut) := h1.cell 7 rfl
  unfold StM.done
  cases hc : s.cut
  all_goals cases ht : s.told
  all_goals
    rw [hc] at c7
    rw [ht] at c5
    clear hc ht
    go_enter Try.func44, Try.ntmps44
    go_wp2
    go_ret
    exact ⟨by simp, rfl⟩

theorem stream_Send_nil (v : Value) : Calls Try.prog 19 #[.pointer none, v] w fun e w' => e = .returned (.bool false) ∧ w = w' := by
  go_enter Try.func19, Try.ntmps19
  go_wp2_with fail
  refine stream_closed_nil.mono ?_
  rintro _ _ ⟨rfl, rfl⟩
  go_wp2_with fail
  go_ret
  exact ⟨rfl, rfl⟩

def StM.sendB (s : StM) (b : List UInt8) : Bool := !s.closed && decide (b.length + s.wait.length ≤ 65536)
def StM.send (s : StM) (b : List UInt8) : StM := if s.sendB b then { s with wait := s.wait ++ b } else s
theorem StM.send_ok {s : StM} (b : List UInt8) (h : s.ok) : (s.send b).ok := by
  unfold StM.send StM.sendB
  split
  · rename_i hb
    simp at hb
    obtain ⟨h1, h2, h3, h4, h5⟩ := h
    exact ⟨h1, h2, h3, h4, by simp; omega⟩
  · exact h

set_option maxRecDepth 100000 in
set_option maxHeartbeats 800000 in
theorem stream_Send (g : Nat) (s : StM) (v : Value) (b : List UInt8) (hr : RdB w v b) (hs : Sat w0 w (StA g s :: L)) :
    Calls Try.prog 19 #[.pointer (some ⟨g, 0, none⟩), v] w fun e w' => e = .returned (.bool (s.sendB b)) ∧ Sat w0 w' (StA g (s.send b) :: L) := by
  have hcl := stream_closed g s hs
  obtain ⟨gc, vw, hok, h1⟩ := StA.opn hs
  obtain ⟨a, cap, rfl, _, _⟩ := OwnS.form (Sat.front [_, _] h1)
  obtain ⟨a2, cap2, rfl, _, _, _⟩ := hr.form
  have hbl := hr.len
  have c3 : w.cell? ⟨g, 3, none⟩ = some (.slice a s.wait.length cap) := h1.cell 3 rfl
  have f3 := h1.frozen 3
  obtain ⟨hok1, hok2, hok3, hok4, hok5⟩ := hok
  unfold maxLen at hbl
  cases hc : s.closed
  · rw [hc] at hcl
    have hcl' := hid_ hcl
    clear hcl
    by_cases hlen : b.length + s.wait.length ≤ 65536
    · have e1 : s.sendB b = true := by unfold StM.sendB; rw [hc]; simp; omega
      have e2 : s.send b = { s with wait := s.wait ++ b } := by unfold StM.send; rw [e1]; simp
      rw [e1, e2]
      clear e1 e2 hc
      obtain ⟨i0, hi, hz0, hz1, hz2⟩ := uinfo8
      go_enter Try.func19, Try.ntmps19
      go_wp2_with fail
      refine hcl'.out.mono ?_
      rintro _ _ ⟨rfl, rfl⟩
      have h3 := Sat.front [_, _] h1
      go_wp2_with (at_builtin; refine wpList_append_sat (w0 := w0) (e := 5) (sz := 1) rfl _ _ 37 37 rfl Try.underlying37 hi hz0 hz1 hz2 rfl rfl h3 rfl (RdB.src (l := b) Try.underlying37 hr) ?c3 ?c4 ?c5)
      case c3 => simp only [maxLen]; omega
      case c4 => omega
      intro a' c' w1 h4 _
      simp only [← bytesC_append, ← List.length_append] at h4 ⊢
      have h5 : Sat w0 w1 (Blk g _ :: Credit gc s.may :: OwnB _ (.slice a' (s.wait ++ b).length c') (s.wait ++ b) :: L) := Sat.back [_, _] h4
      have c3' : w1.cell? ⟨g, 3, none⟩ = some (.slice a s.wait.length cap) := h5.cell 3 rfl
      have f3' := h5.frozen 3
      clear c3 f3
      go_wp2
      go_ret
      rw [← List.length_append]
      exact ⟨rfl, StA.shut (s := { s with wait := s.wait ++ b }) ⟨hok1, hok2, hok3, hok4, by simp; omega⟩ (h5.set 3 _)⟩
    · have e1 : s.sendB b = false := by unfold StM.sendB; rw [hc]; simp; omega
      have e2 : s.send b = s := by unfold StM.send; rw [e1]; simp
      rw [e1, e2]
      clear e1 e2 hc
      go_enter Try.func19, Try.ntmps19
      go_wp2_with fail
      refine hcl'.out.mono ?_
      rintro _ _ ⟨rfl, rfl⟩
      go_wp2_with fail
      go_ret
      exact ⟨rfl, hs⟩
  · have e1 : s.sendB b = false := by unfold StM.sendB; rw [hc]; simp
    have e2 : s.send b = s := by unfold StM.send; rw [e1]; simp
    rw [e1, e2]
    rw [hc] at hcl
    have hcl' := hid_ hcl
    clear hcl e1 e2 hc
    go_enter Try.func19, Try.ntmps19
    go_wp2_with fail
    refine hcl'.out.mono ?_
    rintro _ _ ⟨rfl, rfl⟩
    go_wp2_with fail
    go_ret
    exact ⟨rfl, hs⟩
end
end Go.Proofs.Ytkejadhkebjdcaa
