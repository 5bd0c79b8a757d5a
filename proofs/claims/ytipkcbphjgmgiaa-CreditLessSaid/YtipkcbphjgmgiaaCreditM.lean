/- One with more lets at least as much. -/
import Derived.Test.YtipkcbphjgmgiaaCreditP
namespace Go.Proofs.Ytipkcbphjgmgiaa
open Go Go.RowKit
set_option linter.unusedVariables false
set_option linter.unusedSimpArgs false

section
variable {w0 w : World} {L : List Assn}

/-- What the two credits are like behind i calls. -/
def LessI (p q : Int) (i : Nat) (c d u v : Int) : Prop :=
  d - c = q - p - (v - u) ∧ u ≤ v ∧ c ≤ d ∧ 0 ≤ c ∧ d ≤ 1000 + 500 * (i : Int) ∧ 0 ≤ u ∧ v ≤ 500 * (i : Int)
theorem LessI.take {p q : Int} {i : Nat} {c d u v k : Int} (h : LessI p q i c d u v) (h1 : 1 ≤ k) (h2 : k ≤ 500) :
    LessI p q (i + 1) (c - takeC c k) (d - takeC d k) (u + takeC c k) (v + takeC d k) ∧ 0 ≤ takeC c k ∧ takeC c k ≤ 500 ∧ 0 ≤ takeC d k ∧ takeC d k ≤ 500 := by
  unfold LessI at *
  unfold takeC
  omega
theorem LessI.give {p q : Int} {i : Nat} {c d u v k : Int} (h : LessI p q i c d u v) (hi : i < 60) (h1 : 1 ≤ k) (h2 : k ≤ 500) :
    LessI p q (i + 1) (giveC c k) (giveC d k) u v ∧ giveB c k = true ∧ giveB d k = true := by
  obtain ⟨g1, g2, g3, g4, g5, g6, g7⟩ := h
  obtain ⟨e1, e2⟩ := giveB_yes (n := c) (k := k) h1 (by omega)
  obtain ⟨e3, e4⟩ := giveB_yes (n := d) (k := k) h1 (by omega)
  rw [e2, e4]
  refine ⟨?_, e1, e3⟩
  unfold LessI
  omega

set_option maxRecDepth 100000 in
set_option maxHeartbeats 4000000 in
theorem credit_less_law (x y : Int) (a : Option Addr) (len cap : Nat) (zs : List Int) (w : World) (hz : IntsIn w a len cap zs) (hx : (Lit.int .i64 x).wf = true) (hy : (Lit.int .i64 y).wf = true) :
    Calls Try.prog 6 #[.int .i64 x, .int .i64 y, .slice a len cap] w fun e w' => e = .returned (.bool true) ∧ Below w.heap.size w w' := by
  have hs := Sat.refl w
  have bx := um_bd x (m := 1000) (by omega) (by omega)
  have by_ := um_bd y (m := 1000) (by omega) (by omega)
  go_enter Try.func6, Try.ntmps6
  go_wp2_with fail
  all_goals first
    | (have _hh := (by assumption : wrap64 ((IntKind.u64.wrap y).tmod 1000) < wrap64 ((IntKind.u64.wrap x).tmod 1000)); generalize wrap64 ((IntKind.u64.wrap x).tmod 1000) = q at *; generalize wrap64 ((IntKind.u64.wrap y).tmod 1000) = p at *)
    | (generalize wrap64 ((IntKind.u64.wrap x).tmod 1000) = p at *; generalize wrap64 ((IntKind.u64.wrap y).tmod 1000) = q at *)
  all_goals
    have hpq : p ≤ q := by omega
    refine (credit_New' p p (by unfold newC; omega) hs).mono ?_
    rintro _ w1 ⟨g1, rfl, h1⟩
    go_wp2_with fail
    refine (credit_New' q q (by unfold newC; omega) h1).mono ?_
    rintro _ w2 ⟨g2, rfl, h2⟩
    clear h1 hs
    go_wp2_with fail
    go_loopw [9, 10, 34] (fun vin vout vi wr => ∃ (i : Nat) (c d u v : Int), (i ≤ len ∧ i ≤ 60) ∧ LessI p q i c d u v ∧ vi = .int .i64 i ∧ vin = .int .i64 u ∧ vout = .int .i64 v ∧ Sat w wr [Credit g2 d, Credit g1 c]) (fun _ _ i _ => len - (intOf i).toNat)
    case atStart => exact ⟨0, p, q, 0, 0, by omega, by unfold LessI; omega, rfl, rfl, rfl, h2⟩
    case round =>
      obtain ⟨i, c, d, u, v, ⟨hi1, hi2⟩, hI, rfl, rfl, rfl, hs1⟩ := hrel
      clear h2
      have hI' := hI
      obtain ⟨HI1, I2, I3, I4, I5, I6, I7⟩ := hI'
      have hI1 := hid_ HI1
      clear HI1
      by_cases hlt : i < len
      · obtain ⟨b, off, rfl, hcell⟩ := hz.at hlt
        have hci : wr.cell? ⟨b, off + i, none⟩ = some (.int .i64 (zs.getD i 0)) := (hs1.below.cell (p := ⟨b, off + i, none⟩) (hcell i hlt).2).trans (hcell i hlt).1
        by_cases h60 : i < 60
        · generalize zs.getD i 0 = k0 at hci
          have bk := um_bd k0 (m := 500) (by omega) (by omega)
          go_wp2_with fail
          all_goals
            generalize wrap64 ((IntKind.u64.wrap k0).tmod 500) = k at *
            have hk1 : 1 ≤ 1 + k := by omega
            have hk2 : 1 + k ≤ 500 := by omega
            generalize 1 + k = k1 at *
          · obtain ⟨t1, t2, t3, t4, t5⟩ := hI.take hk1 hk2
            refine (credit_Take g1 c k1 hs1.swap).mono ?_
            rintro _ w4 ⟨rfl, h4⟩
            go_wp2_with fail
            refine (credit_Take g2 d k1 h4.swap).mono ?_
            rintro _ w5 ⟨rfl, h5⟩
            clear h4 hs1 hci hI
            generalize takeC c k1 = x1 at *
            generalize takeC d k1 = y1 at *
            generalize c - x1 = c1 at *
            generalize d - y1 = d1 at *
            have t1' := t1
            obtain ⟨_, T2, T3, T4, T5, T6, T7⟩ := t1'
            go_wp2_with (first | ((with_reducible refine (credit_Left g1 _ h5.swap).mono ?_); rintro _ _ ⟨rfl, rfl⟩) | ((with_reducible refine (credit_Left g2 _ h5).mono ?_); rintro _ _ ⟨rfl, rfl⟩))
            go_roundw
            case rel => exact ⟨i + 1, c1, d1, u + x1, v + y1, by omega, t1, by go_num, rfl, rfl, h5⟩
            case measure => simp [intOf]; omega
          · obtain ⟨t1, t2, t3⟩ := hI.give h60 hk1 hk2
            refine (credit_Give g1 c k1 hs1.swap).mono ?_
            rintro _ w4 ⟨rfl, h4⟩
            rw [t2]
            go_wp2_with fail
            refine (credit_Give g2 d k1 h4.swap).mono ?_
            rintro _ w5 ⟨rfl, h5⟩
            rw [t3]
            clear h4 hs1 hci hI t2 t3
            go_wp2_with fail
            go_roundw
            case rel => exact ⟨i + 1, _, _, u, v, by omega, t1, by go_num, rfl, rfl, h5⟩
            case measure => simp [intOf]; omega
        · go_wp2_with (first | ((with_reducible refine (credit_Left g1 _ hs1.swap).mono ?_); rintro _ _ ⟨rfl, rfl⟩) | ((with_reducible refine (credit_Left g2 _ hs1).mono ?_); rintro _ _ ⟨rfl, rfl⟩))
          refine (credit_awake hs1).mono ?_
          rintro _ w2 ⟨rfl, h2⟩
          go_wp2_with fail
          go_ret
          exact ⟨rfl, h2.below⟩
      · go_wp2_with (first | ((with_reducible refine (credit_Left g1 _ hs1.swap).mono ?_); rintro _ _ ⟨rfl, rfl⟩) | ((with_reducible refine (credit_Left g2 _ hs1).mono ?_); rintro _ _ ⟨rfl, rfl⟩))
        refine (credit_awake hs1).mono ?_
        rintro _ w2 ⟨rfl, h2⟩
        go_wp2_with fail
        go_ret
        exact ⟨rfl, h2.below⟩
end
end Go.Proofs.Ytipkcbphjgmgiaa
