/- The reference's filter: NewFilter, Time, and its Check. -/
import Derived.Deep.RegionLaw
import Derived.Deep.DeepCutAuto
import Derived.Test.YtipkcbphjgmgiaaRepN
namespace Go.Proofs.Ytipkcbphjgmgiaa
open Go Go.RowKit
set_option linter.unusedVariables false
set_option linter.unusedSimpArgs false

def seenC (m : MsgM) : List Value := [.int .i64 m.stamp, .string (strOf m.key)]
def flatS (l : List MsgM) : List Value := (l.map seenC).flatten
def Seens (v : Value) (l : List MsgM) : Assn := OwnS 73 2 v l.length (flatS l)
theorem flatS_append (a b : List MsgM) : flatS (a ++ b) = flatS a ++ flatS b := by simp [flatS]
theorem flatS_one (m : MsgM) : flatS [m] = seenC m := by simp [flatS]
theorem flatS_get {l : List MsgM} {i j : Nat} {m : MsgM} (hi : l[i]? = some m) (hj : j < 2) : (flatS l)[i * 2 + j]? = (seenC m)[j]? :=
  flatten_get (css := l.map seenC) (sz := 2) (fun cs hcs => by
    obtain ⟨m, _, rfl⟩ := List.mem_map.1 hcs
    rfl) (by rw [List.getElem?_map, hi]; rfl) hj
/-- The reference's filter in memory: the same model. -/
def RFlt (f : Nat) (m : FltM) : Assn := fun h => ∃ v : Value, m.ok ∧ Star [Blk f (.cells #[.int .i64 m.window, .int .i64 m.since, .int .i64 m.most, v] 44 (0, 0)), Seens v m.l] h
theorem info73 : ∃ i, Try.prog.info? 73 = some i ∧ i.zero = some (.agg #[.int .i64 0, .string ByteArray.empty]) ∧ i.size = 2 ∧ i.bytes = 24 := info_at (by kernel_rfl)

section
variable {w0 w : World} {L : List Assn}
theorem RFlt.opn {f : Nat} {m : FltM} (h : Sat w0 w (RFlt f m :: L)) : ∃ a c, m.ok ∧ m.l.length ≤ c ∧ Sat w0 w (Blk f (.cells #[.int .i64 m.window, .int .i64 m.since, .int .i64 m.most, .slice a m.l.length c] 44 (0, 0)) :: Seens (.slice a m.l.length c) m.l :: L) := by
  obtain ⟨v, h1⟩ := Sat.ex h
  obtain ⟨hok, h2⟩ := Sat.pure h1
  have h3 := Sat.unstar h2
  obtain ⟨a, c, rfl, h4, _⟩ := OwnS.form (Sat.swap h3)
  exact ⟨a, c, hok, h4, h3⟩
theorem RFlt.shut {f : Nat} {m : FltM} {v : Value} (hok : m.ok) (h : Sat w0 w (Blk f (.cells #[.int .i64 m.window, .int .i64 m.since, .int .i64 m.most, v] 44 (0, 0)) :: Seens v m.l :: L)) : Sat w0 w (RFlt f m :: L) :=
  Sat.exI (F := fun v h => m.ok ∧ Star [Blk f (.cells #[.int .i64 m.window, .int .i64 m.since, .int .i64 m.most, v] 44 (0, 0)), Seens v m.l] h) v (Sat.pureI hok (Sat.star (L1 := [_, _]) h))
theorem Seens.at {a : Option Addr} {n cap : Nat} {l : List MsgM} (h : Sat w0 w (Seens (.slice a n cap) l :: L)) {i : Nat} {m : MsgM} (hi : l[i]? = some m) :
    ∃ b o, a = some ⟨b, o, none⟩ ∧ w.cell? ⟨b, o + i * 2, none⟩ = some (.int .i64 m.stamp) ∧ w.cell? ⟨b, o + i * 2 + 1, none⟩ = some (.string (strOf m.key)) := by
  have hil : i < l.length := (List.getElem?_eq_some_iff.1 hi).1
  obtain ⟨b, o, c, he, _, _, hc, _⟩ := OwnS.cells h (by omega)
  injection he with e1 e2 e3
  subst e1
  refine ⟨b, o, rfl, ?_, ?_⟩
  · have := hc (i * 2 + 0) _ ((flatS_get hi (by omega)).trans rfl)
    exact this
  · have := hc (i * 2 + 1) _ ((flatS_get hi (by omega)).trans rfl)
    rw [Nat.add_assoc]
    exact this

def tB (n : Int) : Bool := decide (0 ≤ n) && decide (n ≤ 1099511627776)
theorem tB_eq (n : Int) : (n != timeC n) = !tB n := by
  unfold tB timeC
  by_cases h1 : 0 ≤ n
  · by_cases h2 : n ≤ 1099511627776
    · have : n = max 0 (min n 1099511627776) := by omega
      simp [h1, h2, ← this]
    · have : n ≠ max 0 (min n 1099511627776) := by omega
      simp [h1, h2, this]
  · have : n ≠ max 0 (min n 1099511627776) := by omega
    simp [h1, this]
theorem ref_Time (n : Int) : Calls Try.prog 34 #[.int .i64 n] w fun e w' => e = .returned (.bool (tB n)) ∧ w = w' := by
  unfold tB
  by_cases h1 : 0 ≤ n
  all_goals by_cases h2 : n ≤ 1099511627776
  all_goals
    go_enter Try.func34, Try.ntmps34
    go_wp2
    all_goals
      go_ret
      exact ⟨by simp [h1, h2], rfl⟩
theorem ref_clamp (n lo hi : Int) : Calls Try.prog 29 #[.int .i64 n, .int .i64 lo, .int .i64 hi] w fun e w' => e = .returned (.int .i64 (max lo (min n hi))) ∧ w = w' := by
  go_enter Try.func29, Try.ntmps29
  go_wp2_with fail
  go_ret
  exact ⟨rfl, rfl⟩
theorem ref_NewFilter (window most now : Int) (hs : Sat w0 w L) :
    Calls Try.prog 21 #[.int .i64 window, .int .i64 most, .int .i64 now] w fun e w' => ∃ f, e = .returned (.pointer (some ⟨f, 0, none⟩)) ∧ Sat w0 w' (RFlt f (FltM.new window most now) :: L) := by
  have b1 := timeC_bd window
  have b2 := timeC_bd now
  have e1 : IntKind.i64.wrap (timeC now + timeC window) = timeC now + timeC window := IntWalk.i64_in _ (by omega)
  have c1 := fun W => ref_clamp (w := W) window 0 1099511627776
  have c2 := fun W => ref_clamp (w := W) now 0 1099511627776
  have c3 := fun W => ref_clamp (w := W) most 1 256
  rw [show max 0 (min window 1099511627776) = timeC window from rfl] at c1
  rw [show max 0 (min now 1099511627776) = timeC now from rfl] at c2
  go_enter Try.func21, Try.ntmps21
  go_wp2_with fail
  refine (c1 _).mono ?_
  rintro _ _ ⟨rfl, rfl⟩
  go_wp2_with fail
  refine (c2 _).mono ?_
  rintro _ _ ⟨rfl, rfl⟩
  go_wp2_with fail
  refine (c3 _).mono ?_
  rintro _ _ ⟨rfl, rfl⟩
  go_wp2_with fail
  go_ret
  refine ⟨_, rfl, RFlt.shut (v := .slice none 0 0) (FltM.new_ok ..) (Sat.swap (OwnS.nilI (hs.alloc _)))⟩

theorem ref_Check_bad {f : Nat} {m : FltM} {now stamp : Int} {v : Value} {e : List UInt8} (hr : RdB w v e) (hs : Sat w0 w (RFlt f m :: L)) (hb : FltM.bad now stamp e = true) :
    Calls Try.prog 25 #[.pointer (some ⟨f, 0, none⟩), .int .i64 now, .int .i64 stamp, v] w fun e w' => e = .returned (.int .i64 1) ∧ Sat w0 w' (RFlt f m :: L) := by
  obtain ⟨ae, ce, rfl, _, _, _⟩ := hr.form
  unfold FltM.bad at hb
  rw [tB_eq, tB_eq] at hb
  have t1 := fun W => ref_Time (w := W) now
  have t2 := fun W => ref_Time (w := W) stamp
  cases h1 : tB now
  · rw [h1] at t1
    go_enter Try.func25, Try.ntmps25
    go_wp2_with fail
    refine (t1 _).mono ?_
    rintro _ _ ⟨rfl, rfl⟩
    go_wp2_with fail
    go_ret
    exact ⟨rfl, hs⟩
  · cases h2 : tB stamp
    · rw [h1] at t1
      rw [h2] at t2
      go_enter Try.func25, Try.ntmps25
      go_wp2_with fail
      refine (t1 _).mono ?_
      rintro _ _ ⟨rfl, rfl⟩
      go_wp2_with fail
      refine (t2 _).mono ?_
      rintro _ _ ⟨rfl, rfl⟩
      go_wp2_with fail
      go_ret
      exact ⟨rfl, hs⟩
    · rw [h1] at t1
      rw [h2] at t2
      rw [h1, h2] at hb
      simp only [Bool.not_true, Bool.false_or] at hb
      have b3 : ((e.length : Int) != 32) = true := by
        rw [bne_iff_ne] at hb ⊢
        omega
      clear hb
      go_enter Try.func25, Try.ntmps25
      go_wp2_with fail
      refine (t1 _).mono ?_
      rintro _ _ ⟨rfl, rfl⟩
      go_wp2_with fail
      refine (t2 _).mono ?_
      rintro _ _ ⟨rfl, rfl⟩
      go_wp2_with fail
      go_ret
      exact ⟨rfl, hs⟩
end
end Go.Proofs.Ytipkcbphjgmgiaa
