/- The filter: time, New, Since, Len. -/
import Derived.Test.YtipkcbphjgmgiaaRepE
namespace Go.Proofs.Ytipkcbphjgmgiaa
open Go Go.RowKit
set_option linter.unusedVariables false
set_option linter.unusedSimpArgs false
attribute [local simp high] sz68 sz66

structure FltM where
  window : Int
  most : Int
  since : Int
  l : List MsgM
def timeC (n : Int) : Int := max 0 (min n 1099511627776)
theorem timeC_bd (n : Int) : 0 ≤ timeC n ∧ timeC n ≤ 1099511627776 := by unfold timeC; omega
def FltM.new (window most now : Int) : FltM := ⟨timeC window, max 1 (min most 256), timeC now + timeC window, []⟩
def FltM.ok (m : FltM) : Prop := (0 ≤ m.window ∧ m.window ≤ 1099511627776) ∧ (1 ≤ m.most ∧ m.most ≤ 256) ∧ (0 ≤ m.since ∧ m.since ≤ 2199023255552) ∧ m.l.length ≤ 256
theorem FltM.new_ok (window most now : Int) : (FltM.new window most now).ok := by
  have h1 := timeC_bd window
  have h2 := timeC_bd now
  unfold FltM.new FltM.ok
  simp only [List.length_nil]
  omega
/-- The filter in memory. -/
def Flt (f : Nat) (m : FltM) : Assn := fun h => ∃ v : Value, m.ok ∧ Star [Blk f (.cells #[.int .i64 m.window, .int .i64 m.most, .int .i64 m.since, v] 63 (0, 0)), Msgs v m.l] h

section
variable {w0 w : World} {L : List Assn}
theorem Flt.opn {f : Nat} {m : FltM} (h : Sat w0 w (Flt f m :: L)) : ∃ a c, m.ok ∧ m.l.length ≤ c ∧ Sat w0 w (Blk f (.cells #[.int .i64 m.window, .int .i64 m.most, .int .i64 m.since, .slice a m.l.length c] 63 (0, 0)) :: Msgs (.slice a m.l.length c) m.l :: L) := by
  obtain ⟨v, h1⟩ := Sat.ex h
  obtain ⟨hok, h2⟩ := Sat.pure h1
  have h3 := Sat.unstar h2
  obtain ⟨a, c, rfl, h4, _⟩ := Msgs.form (Sat.swap h3)
  exact ⟨a, c, hok, h4, h3⟩
theorem Flt.shut {f : Nat} {m : FltM} {v : Value} (hok : m.ok) (h : Sat w0 w (Blk f (.cells #[.int .i64 m.window, .int .i64 m.most, .int .i64 m.since, v] 63 (0, 0)) :: Msgs v m.l :: L)) : Sat w0 w (Flt f m :: L) :=
  Sat.exI (F := fun v h => m.ok ∧ Star [Blk f (.cells #[.int .i64 m.window, .int .i64 m.most, .int .i64 m.since, v] 63 (0, 0)), Msgs v m.l] h) v (Sat.pureI hok (Sat.star (L1 := [_, _]) h))

theorem rep_time (n : Int) : Calls Try.prog 28 #[.int .i64 n] w fun e w' => e = .returned (.int .i64 (timeC n)) ∧ w = w' := by
  unfold timeC
  go_enter Try.func28, Try.ntmps28
  go_wp2_with fail
  go_ret
  exact ⟨rfl, rfl⟩
theorem rep_New (window most now : Int) (hs : Sat w0 w L) :
    Calls Try.prog 20 #[.int .i64 window, .int .i64 most, .int .i64 now] w fun e w' => ∃ f, e = .returned (.pointer (some ⟨f, 0, none⟩)) ∧ Sat w0 w' (Flt f (FltM.new window most now) :: L) := by
  have b1 := timeC_bd window
  have b2 := timeC_bd now
  have e1 : IntKind.i64.wrap (timeC now + timeC window) = timeC now + timeC window := IntWalk.i64_in _ (by omega)
  go_enter Try.func20, Try.ntmps20
  go_wp2_with fail
  refine (rep_time window).mono ?_
  rintro _ _ ⟨rfl, rfl⟩
  go_wp2_with fail
  refine (rep_time now).mono ?_
  rintro _ _ ⟨rfl, rfl⟩
  go_wp2_with fail
  refine (rep_time window).mono ?_
  rintro _ _ ⟨rfl, rfl⟩
  go_wp2_with fail
  go_ret
  refine ⟨_, rfl, Flt.shut (v := .slice none 0 0) (FltM.new_ok ..) (Sat.swap (Msgs.nilI (hs.alloc _)))⟩
theorem rep_Since_nil : Calls Try.prog 22 #[.pointer none] w fun e w' => e = .returned (.int .i64 0) ∧ w = w' := by
  go_enter Try.func22, Try.ntmps22
  go_wp2_with fail
  go_ret
  exact ⟨rfl, rfl⟩
theorem rep_Since {f : Nat} {m : FltM} (hs : Sat w0 w (Flt f m :: L)) : Calls Try.prog 22 #[.pointer (some ⟨f, 0, none⟩)] w fun e w' => e = .returned (.int .i64 m.since) ∧ w = w' := by
  obtain ⟨a, c, hok, hc, h1⟩ := Flt.opn hs
  have c2 : w.cell? ⟨f, 2, none⟩ = some (.int .i64 m.since) := h1.cell 2 rfl
  go_enter Try.func22, Try.ntmps22
  go_wp2_with fail
  go_ret
  exact ⟨rfl, rfl⟩
theorem rep_Len_nil : Calls Try.prog 26 #[.pointer none] w fun e w' => e = .returned (.int .i64 0) ∧ w = w' := by
  go_enter Try.func26, Try.ntmps26
  go_wp2_with fail
  go_ret
  exact ⟨rfl, rfl⟩
theorem rep_Len {f : Nat} {m : FltM} (hs : Sat w0 w (Flt f m :: L)) : Calls Try.prog 26 #[.pointer (some ⟨f, 0, none⟩)] w fun e w' => e = .returned (.int .i64 m.l.length) ∧ w = w' := by
  obtain ⟨a, c, hok, hc, h1⟩ := Flt.opn hs
  have c3 : w.cell? ⟨f, 3, none⟩ = some (.slice a m.l.length c) := h1.cell 3 rfl
  go_enter Try.func26, Try.ntmps26
  go_wp2_with fail
  go_ret
  exact ⟨rfl, rfl⟩
theorem rep_Check_nil (now stamp : Int) (v : Value) : Calls Try.prog 24 #[.pointer none, .int .i64 now, .int .i64 stamp, v] w fun e w' => e = .returned (.int .i64 1) ∧ Below w.heap.size w w' := by
  have hs := (Sat.refl w).alloc2 (.cells #[.pointer none] 37 (0, 0)) (.cells #[.int .i64 now] 2 (0, 0))
  have hb := hs.below
  have c0 := hs.drop.cell 0 rfl
  have c1 := hs.cell 0 rfl
  go_enter Try.func24, Try.ntmps24
  go_wp2_with fail
  go_quiet (fail)
  go_wp2_with fail
  go_ret
  exact ⟨rfl, (Sat.drewN hs _).below⟩
end
end Go.Proofs.Ytipkcbphjgmgiaa
