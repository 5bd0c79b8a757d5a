/- slices.Equal at bytes, walked. -/
import Derived.Test.YtkejadhkebjdcaaProg
import Derived.Test.YtkejadhkebjdcaaOwn
namespace Go.Proofs.Ytkejadhkebjdcaa
open Go Go.RowKit
set_option linter.unusedVariables false
set_option linter.unusedSimpArgs false

theorem take_eq_succ {a b : List UInt8} {i : Nat} (ha : i < a.length) (hb : i < b.length) (h : a.take i = b.take i) (he : a.getD i 0 = b.getD i 0) : a.take (i + 1) = b.take (i + 1) := by
  rw [List.take_succ_eq_append_getElem ha, List.take_succ_eq_append_getElem hb, h]
  simp [List.getD, ha, hb] at he
  rw [he]
theorem getD_ne {a b : List UInt8} {i : Nat} (he : a.getD i 0 ≠ b.getD i 0) : (a == b) = false := by
  rw [beq_eq_false_iff_ne]
  rintro rfl
  exact he rfl

section
variable {w0 w : World} {L : List Assn}
set_option maxHeartbeats 1000000 in
theorem equal_bytes (v v' : Value) (a b : List UInt8) (ha : RdB w v a) (hb : RdB w v' b) :
    Calls Try.prog 80 #[v, v'] w fun e w' => e = .returned (.bool (a == b)) ∧ ∃ n, w' = w.drewN n := by
  obtain ⟨xa, ca, rfl, h1, h2, h3⟩ := ha.form
  obtain ⟨xb, cb, rfl, g1, g2, g3⟩ := hb.form
  have hla := ha.len
  have hlb := hb.len
  unfold maxLen at hla hlb
  by_cases hl : a.length = b.length
  · have hlne : ((a.length : Int) != (b.length : Int)) = false := by rw [hl]; simp
    have HL := hid_ hl
    clear hl
    go_enter Try.func80, Try.ntmps80
    go_wp2_with fail
    go_loopw [13] (fun vi wr => ∃ (i n : Nat), i ≤ a.length ∧ vi = .int .i64 i ∧ Hid (a.take i = b.take i) ∧ wr = w.drewN n) (fun vi _ => a.length - (intOf vi).toNat)
    case atStart => exact ⟨0, 0, by omega, rfl, hid_ (by simp), rfl⟩
    case round =>
      obtain ⟨i, n, hi, rfl, htk, rfl⟩ := hrel
      by_cases hlt : i < a.length
      · have hlt2 : i < b.length := by have := HL.out; omega
        obtain ⟨b1, o1, c1, e1, _, _, _, q1⟩ := ha.at hlt
        injection e1 with e1 _ e1'
        subst e1; subst e1'
        obtain ⟨b2, o2, c2, e2, _, _, _, q2⟩ := hb.at hlt2
        injection e2 with e2 _ e2'
        subst e2; subst e2'
        have y1 := q1 i hlt
        have y2 := q2 i hlt2
        clear q1 q2
        have z1 : (i : Int) < (a.length : Int) := by omega
        have z2 : (i : Int) < (b.length : Int) := by omega
        generalize hx : a.getD i 0 = x at *
        generalize hy : b.getD i 0 = y at *
        by_cases hxy : x = y
        · subst hxy
          have hst := hid_ (take_eq_succ hlt hlt2 htk.out (hx.trans hy.symm))
          have hbb : ((x.toNat : Int) != (x.toNat : Int)) = false := by simp
          clear hx hy
          go_wp2_with fail
          go_quiet (fail)
          go_wp2_with fail
          go_roundw
          case rel => exact ⟨i + 1, n + nq, by omega, by go_num, hst, rfl⟩
          case measure => simp [intOf]; omega
        · have hne := hid_ (getD_ne (a := a) (b := b) (i := i) (by rw [hx, hy]; exact hxy))
          have hbb : ((x.toNat : Int) != (y.toNat : Int)) = true := by
            rw [bne_iff_ne]
            intro h
            exact hxy (UInt8.toNat_inj.1 (by omega))
          clear hx hy hxy
          go_wp2_with fail
          go_quiet (fail)
          go_wp2_with fail
          go_ret
          exact ⟨by rw [hne.out]; rfl, n + nq, World.drewN_drewN _ _ _⟩
      · have heq := hid_ (show (a == b) = true by
          have h5 := htk.out
          have h6 := HL.out
          rw [List.take_of_length_le (by omega), List.take_of_length_le (by omega)] at h5
          simpa using h5)
        go_wp2
        go_ret
        exact ⟨by rw [heq.out]; rfl, n, rfl⟩
  · have hlne : ((a.length : Int) != (b.length : Int)) = true := by rw [bne_iff_ne]; omega
    have hne := hid_ (show (a == b) = false by rw [beq_eq_false_iff_ne]; rintro rfl; exact hl rfl)
    clear hl
    go_enter Try.func80, Try.ntmps80
    go_wp2
    go_ret
    exact ⟨by rw [hne.out]; rfl, 0, rfl⟩
end
end Go.Proofs.Ytkejadhkebjdcaa
