/- The law AclPorts, walked. -/
import Derived.Test.YtmnjaaeljpleeaaOpnA
namespace Go.Proofs.Ytmnjaaeljpleeaa
open Go Go.RowKit
set_option linter.unusedVariables false
set_option linter.unusedSimpArgs false

theorem one_hit (r : RuleM) (a : AdM) : hitsTo [r] a [r].length = if r.hit a then [0] else [] := by
  unfold hitsTo hitAt
  cases h : r.hit a <;> simp [h, List.range_succ]
theorem first_one (r : RuleM) (a : AdM) : firstM [r] a = if r.hit a then 0 else -1 := by
  unfold firstM
  rw [one_hit]
  cases r.hit a <;> rfl
theorem allows_one (r : RuleM) (a : AdM) : allowsM [r] a = (r.hit a && r.allow) := by
  unfold allowsM
  rw [one_hit]
  cases r.hit a <;> simp
def anyR (al : Bool) (lo hi : Nat) : RuleM := ⟨0, al, [], 0, ⟨#[]⟩, lo, hi⟩
theorem any_hit {al : Bool} {lo hi : Nat} (h1 : lo ≤ hi) (h2 : hi ≤ 65535) (a : AdM) : (anyR al lo hi).hit a = (a.may && decide ((lo : Int) ≤ a.port) && decide (a.port ≤ (hi : Int))) := by
  have hk : (anyR al lo hi).kindB = true := rfl
  have hm : (anyR al lo hi).may = true := by
    unfold RuleM.may
    rw [hk, decide_eq_true (show (0 : Int) ≤ (anyR al lo hi).low from by show (0 : Int) ≤ (lo : Int); omega), decide_eq_true (show (anyR al lo hi).high ≤ (65535 : Int) from by show (hi : Int) ≤ 65535; omega),
      decide_eq_true (show (anyR al lo hi).low ≤ (anyR al lo hi).high from by show (lo : Int) ≤ (hi : Int); omega)]
    rfl
  have e : (anyR al lo hi).hit a = (true && a.may && decide ((lo : Int) ≤ a.port) && decide (a.port ≤ (hi : Int)) && true) := by
    unfold RuleM.hit
    rw [hm]
    rfl
  rw [e]
  simp

section
variable {w0 w : World} {L : List Assn}
theorem ref_MayAddrV {a : AdM} {x : Option Addr} {c : Nat} {b : Bool} (hm : Hid (a.may = b)) (hr : RdAd w a x c) : Calls Try.prog 13 #[adA a (.slice x a.ip.length c)] w fun e w' => e = .returned (.bool b) ∧ Below w.heap.size w w' := by
  rw [← hm.out]
  exact ref_MayAddr a x c hr.name hr.ip.len

/-- The cells of an address in a box; of a rule. -/
theorem boxA {b : Nat} {t : TypeId} {a : AdM} {v : Value} (h : Sat w0 w (Blk b (.cells #[.int .i64 a.kind, v, .string a.name, .int .i64 a.port] t (0, 0)) :: L)) :
    w.cell? ⟨b, 0, none⟩ = some (.int .i64 a.kind) ∧ w.cell? ⟨b, 1, none⟩ = some v ∧ w.cell? ⟨b, 2, none⟩ = some (.string a.name) ∧ w.cell? ⟨b, 3, none⟩ = some (.int .i64 a.port) :=
  ⟨h.cell 0 rfl, h.cell 1 rfl, h.cell 2 rfl, h.cell 3 rfl⟩
theorem boxR {b : Nat} {t : TypeId} {v0 v1 v2 v3 v4 v5 v6 : Value} (h : Sat w0 w (Blk b (.cells #[v0, v1, v2, v3, v4, v5, v6] t (0, 0)) :: L)) :
    w.cell? ⟨b, 0, none⟩ = some v0 ∧ w.cell? ⟨b, 1, none⟩ = some v1 ∧ w.cell? ⟨b, 2, none⟩ = some v2 ∧ w.cell? ⟨b, 3, none⟩ = some v3 ∧ w.cell? ⟨b, 4, none⟩ = some v4 ∧ w.cell? ⟨b, 5, none⟩ = some v5 ∧ w.cell? ⟨b, 6, none⟩ = some v6 :=
  ⟨h.cell 0 rfl, h.cell 1 rfl, h.cell 2 rfl, h.cell 3 rfl, h.cell 4 rfl, h.cell 5 rfl, h.cell 6 rfl⟩

set_option maxRecDepth 100000 in
set_option maxHeartbeats 4000000 in
theorem acl_ports_law (v u t : Value) (w : World) (hv : IsAddr w v) (hu : IsInt w u) (ht : IsInt w t) :
    Calls Try.prog 6 #[v, u, t] w fun e w' => e = .returned (.bool true) ∧ Below w.heap.size w w' := by
  obtain ⟨a, x, c, rfl, ha⟩ := hv
  obtain ⟨n1, rfl, _⟩ := hu
  obtain ⟨n2, rfl, _⟩ := ht
  have hs := Sat.refl w
  have hb1 := um_bd n1 (m := 65536) (by omega) (by omega)
  obtain ⟨m1, hm1⟩ := Int.eq_ofNat_of_zero_le hb1.1
  rw [hm1] at hb1
  have hb2 := um_bd n2 (m := 65536) (by omega) (by omega)
  obtain ⟨m2, hm2⟩ := Int.eq_ofNat_of_zero_le hb2.1
  rw [hm2] at hb2
  have hlo : ∃ lo hi : Nat, lo ≤ hi ∧ hi ≤ 65535 ∧ ((m2 < m1 ∧ lo = m2 ∧ hi = m1) ∨ (¬ (m2 : Int) < (m1 : Int) ∧ lo = m1 ∧ hi = m2)) := by
    by_cases h : m2 < m1
    · exact ⟨m2, m1, by omega, by omega, .inl ⟨h, rfl, rfl⟩⟩
    · exact ⟨m1, m2, by omega, by omega, .inr ⟨by omega, rfl, rfl⟩⟩
  obtain ⟨lo, hi, hl1, hl2, hcase⟩ := hlo
  unfold adA
  cases hm : a.may
  · have HM := hid_ hm
    have HR := hid_ (show (anyR true lo hi).hit a = false by rw [any_hit hl1 hl2, hm]; rfl)
    clear hm
    rcases hcase with ⟨hc, rfl, rfl⟩ | ⟨hc, rfl, rfl⟩
    all_goals
      go_enter Try.func6, Try.ntmps6
      go_wp2_with fail
      have s2 := hs.alloc2 (.cells #[.int .i64 a.kind, .slice x a.ip.length c, .string a.name, .int .i64 a.port] 25 (0, 0)) (.cells #[.int .i64 0, .bool true, .slice none 0 0, .int .i64 0, .string ⟨#[]⟩, .int .i64 lo, .int .i64 hi] 30 (0, 0))
      refine (ref_MayAddrV HM (ha.mono s2.below)).mono ?_
      rintro _ w3 ⟨rfl, h3⟩
      have s3 := s2.under h3
      obtain ⟨r0, r1, r2, r3, r4, r5, r6⟩ := boxR s3
      obtain ⟨a0, a1, a2, a3⟩ := boxA s3.drop
      go_wp2_with fail
      refine (acl_Match (anyR true lo hi) a none x 0 c ⟨OwnB.rd (t := 5) (OwnB.nilI s3), Nat.zero_le _⟩ (ha.mono s3.below)).mono ?_
      rw [HR.out]
      rintro _ w4 ⟨rfl, h4⟩
      have s4 := s3.under h4
      clear r0 r1 r2 r3 r4 r5 r6 a0 a1 a2 a3
      obtain ⟨r0, r1, r2, r3, r4, r5, r6⟩ := boxR s4
      obtain ⟨a0, a1, a2, a3⟩ := boxA s4.drop
      have hlt : w.heap.size + 1 < w4.heap.size := s4.lt
      have hlt0 : w.heap.size < w4.heap.size := by omega
      have hne : w4.heap.size ≠ w.heap.size := by omega
      have hne1 : w4.heap.size ≠ w.heap.size + 1 := by omega
      go_wp2_with fail
      have s5 := s4.alloc (.cells (ruC (anyR true lo hi) (.slice none (anyR true lo hi).net.length 0)).toArray 30 (0, 0))
      refine (acl_Allows _ 1 [anyR true lo hi] a x c (RdRus.one s5 ⟨OwnB.rd (t := 5) (OwnB.nilI s5), Nat.zero_le _⟩) (ha.mono s5.below)).mono ?_
      rw [allows_one, HR.out]
      rintro _ w6 ⟨rfl, h6⟩
      have s6 := s5.under h6
      go_wp2_with fail
      refine (acl_awake s6).mono ?_
      rintro _ w7 ⟨rfl, s7⟩
      go_wp2_with fail
      go_ret
      exact ⟨rfl, s7.below⟩
  · have HM := hid_ hm
    have hin : ((lo : Int) ≤ a.port ∧ a.port ≤ hi ∧ (anyR false lo hi).hit a = true) ∨ (a.port < (lo : Int) ∧ (anyR false lo hi).hit a = false) ∨ (¬ a.port < (lo : Int) ∧ (hi : Int) < a.port ∧ (anyR false lo hi).hit a = false) := by
      rw [any_hit hl1 hl2, hm]
      by_cases p1 : (lo : Int) ≤ a.port
      · by_cases p2 : a.port ≤ (hi : Int)
        · exact .inl ⟨p1, p2, by simp [p1, p2]⟩
        · exact .inr (.inr ⟨by omega, by omega, by simp [p2]⟩)
      · exact .inr (.inl ⟨by omega, by simp [p1]⟩)
    clear hm
    rcases hin with ⟨p1, p2, p3⟩ | ⟨p1, p3⟩ | ⟨p1, p2, p3⟩
    all_goals
      have HR := hid_ p3
      clear p3
      rcases hcase with ⟨hc, rfl, rfl⟩ | ⟨hc, rfl, rfl⟩
    all_goals
      go_enter Try.func6, Try.ntmps6
      go_wp2_with fail
      have s2 := hs.alloc2 (.cells #[.int .i64 a.kind, .slice x a.ip.length c, .string a.name, .int .i64 a.port] 25 (0, 0)) (.cells #[.int .i64 0, .bool true, .slice none 0 0, .int .i64 0, .string ⟨#[]⟩, .int .i64 lo, .int .i64 hi] 30 (0, 0))
      refine (ref_MayAddrV HM (ha.mono s2.below)).mono ?_
      rintro _ w3 ⟨rfl, h3⟩
      have s3 := s2.under h3
      obtain ⟨r0, r1, r2, r3, r4, r5, r6⟩ := boxR s3
      obtain ⟨a0, a1, a2, a3⟩ := boxA s3.drop
      have f1 := s3.frozen 1
      have hlt : w.heap.size + 1 < w3.heap.size := s3.lt
      have s4 := s3.set 1 (.bool false)
      simp only [List.setIfInBounds_toArray, List.set_cons_succ, List.set_cons_zero] at s4
      go_wp2_with fail
      refine (acl_Match (anyR false lo hi) a none x 0 c ⟨OwnB.rd (t := 5) (OwnB.nilI s4), Nat.zero_le _⟩ (ha.mono s4.below)).mono ?_
      rw [HR.out]
      rintro _ w5 ⟨rfl, h5⟩
      have s5 := s4.under h5
      clear r0 r1 r2 r3 r4 r5 r6 a0 a1 a2 a3 f1 hlt
      obtain ⟨r0, r1, r2, r3, r4, r5, r6⟩ := boxR s5
      obtain ⟨a0, a1, a2, a3⟩ := boxA s5.drop
      have hlt : w.heap.size + 1 < w5.heap.size := s5.lt
      have hlt0 : w.heap.size < w5.heap.size := by omega
      have hne : w5.heap.size ≠ w.heap.size := by omega
      have hne1 : w5.heap.size ≠ w.heap.size + 1 := by omega
      go_wp2_with fail
      have s6 := s5.alloc (.cells (ruC (anyR false lo hi) (.slice none (anyR false lo hi).net.length 0)).toArray 30 (0, 0))
      refine (acl_Allows _ 1 [anyR false lo hi] a x c (RdRus.one s6 ⟨OwnB.rd (t := 5) (OwnB.nilI s6), Nat.zero_le _⟩) (ha.mono s6.below)).mono ?_
      rw [allows_one, HR.out]
      rintro _ w7 ⟨rfl, h7⟩
      have s7 := (s6.under h7).drop
      clear r0 r1 r2 r3 r4 r5 r6 a0 a1 a2 a3 hlt hlt0 hne hne1
      obtain ⟨r0, r1, r2, r3, r4, r5, r6⟩ := boxR s7
      obtain ⟨a0, a1, a2, a3⟩ := boxA s7.drop
      have hlt : w.heap.size + 1 < w7.heap.size := s7.lt
      have hlt0 : w.heap.size < w7.heap.size := by omega
      have hne : w7.heap.size ≠ w.heap.size := by omega
      have hne1 : w7.heap.size ≠ w.heap.size + 1 := by omega
      go_wp2_with fail
      have s8 := s7.alloc (.cells (ruC (anyR false lo hi) (.slice none (anyR false lo hi).net.length 0)).toArray 30 (0, 0))
      refine (acl_First _ 1 [anyR false lo hi] a x c (RdRus.one s8 ⟨OwnB.rd (t := 5) (OwnB.nilI s8), Nat.zero_le _⟩) (ha.mono s8.below)).mono ?_
      rw [first_one, HR.out]
      rintro _ w9 ⟨rfl, h9⟩
      have s9 := s8.under h9
      go_wp2_with fail
      refine (acl_awake s9).mono ?_
      rintro _ w10 ⟨rfl, s10⟩
      go_wp2_with fail
      go_ret
      first
        | exact ⟨rfl, s10.below⟩
        | exact ⟨ret_bool (by simp; try omega), s10.below⟩
end
end Go.Proofs.Ytmnjaaeljpleeaa
