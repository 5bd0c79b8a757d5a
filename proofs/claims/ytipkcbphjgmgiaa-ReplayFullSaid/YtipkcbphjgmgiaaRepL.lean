/- The law ReplayFull, walked. -/
import Derived.Test.YtipkcbphjgmgiaaRepN
namespace Go.Proofs.Ytipkcbphjgmgiaa
open Go Go.RowKit
set_option linter.unusedVariables false
set_option linter.unusedSimpArgs false

def kf (i : Nat) : List UInt8 := keyL [UInt8.ofNat i, 1]
def k92 : List UInt8 := keyL [9, 2]
def ks (n : Nat) : List MsgM := (List.range n).map fun j => ⟨kf j, 10⟩
def fullM (most n : Nat) : FltM := ⟨5, most, 5, ks n⟩
theorem kf_cons (i : Nat) : kf i = UInt8.ofNat i :: 1 :: List.replicate 30 0 := rfl
theorem kf_inj {i j : Nat} (hi : i < 256) (hj : j < 256) (h : kf i = kf j) : i = j := by
  rw [kf_cons, kf_cons] at h
  injection h with h1 _
  have := congrArg UInt8.toNat h1
  simp at this
  omega
theorem kf_92 (i : Nat) : kf i ≠ k92 := by
  rw [kf_cons]
  intro h
  have h2 : UInt8.ofNat i :: (1 : UInt8) :: List.replicate 30 0 = 9 :: 2 :: List.replicate 30 0 := h
  injection h2 with _ h3
  injection h3 with h4 _
  exact absurd h4 (by decide)
theorem ks_any {n i : Nat} (hn : n ≤ 256) (hi : i < 256) : (ks n).any (fun x => x.key == kf i) = decide (i < n) := by
  rw [Bool.eq_iff_iff, List.any_eq_true, decide_eq_true_eq]
  constructor
  · rintro ⟨m, hm, he⟩
    obtain ⟨j, hj, rfl⟩ := List.mem_map.1 hm
    have hj' := List.mem_range.1 hj
    rw [beq_iff_eq] at he
    have := kf_inj (by omega) hi he
    omega
  · intro h
    exact ⟨⟨kf i, 10⟩, List.mem_map.2 ⟨i, List.mem_range.2 h, rfl⟩, by simp⟩
theorem ks_any92 (n : Nat) : (ks n).any (fun x => x.key == k92) = false := by
  rw [List.any_eq_false]
  intro m hm
  obtain ⟨j, _, rfl⟩ := List.mem_map.1 hm
  rw [beq_iff_eq]
  exact kf_92 j
theorem ks_stamp {n : Nat} {x : MsgM} (h : x ∈ ks n) : x.stamp = 10 := by
  obtain ⟨j, _, rfl⟩ := List.mem_map.1 h
  rfl
theorem ks_len (n : Nat) : (ks n).length = n := by simp [ks]
theorem young_all {most n : Nat} {now : Int} (h : now ≤ 15) : (fullM most n).young now = ks n := by
  unfold FltM.young fullM
  refine List.filter_eq_self.2 fun x hx => ?_
  have := ks_stamp hx
  unfold oldB
  rw [decide_eq_false (show ¬ x.stamp < now - 5 by omega)]
  rfl
theorem young_none {most n : Nat} : (fullM most n).young 16 = [] := by
  unfold FltM.young fullM
  refine List.filter_eq_nil_iff.2 fun x hx => ?_
  have := ks_stamp hx
  unfold oldB
  rw [decide_eq_true (show x.stamp < 16 - 5 by omega)]
  simp
theorem bad_no {t : Int} {e : List UInt8} (h0 : 0 ≤ t) (h1 : t ≤ 100) (he : e.length = 32) : FltM.bad t t e = false := by
  unfold FltM.bad
  rw [timeC_id h0 (by omega), he]
  simp
theorem far_no {most n : Nat} {t : Int} (h : 10 ≤ t) : (fullM most n).far t t = false := by
  unfold FltM.far fullM
  simp only
  rw [decide_eq_false (by omega), decide_eq_false (by omega), decide_eq_false (by omega)]
  rfl
theorem ks_succ (n : Nat) : ks n ++ [⟨kf n, 10⟩] = ks (n + 1) := by
  unfold ks
  rw [List.range_succ, List.map_append]
  rfl
theorem full_new {most n : Nat} (h : n < most) (hm : most ≤ 20) : (fullM most n).says 10 10 (kf n) = 0 ∧ (fullM most n).check 10 10 (kf n) = fullM most (n + 1) := by
  have hy := young_all (most := most) (n := n) (now := 10) (by omega)
  obtain ⟨r1, r2⟩ := says_new (m := fullM most n) (e := kf n) (bad_no (t := 10) (by omega) (by omega) (keyL_len _)) (far_no (by omega)) (by rw [hy, ks_any (by omega) (by omega)]; simp) (by rw [hy, ks_len]; show ¬ (most : Int) ≤ n; omega)
  refine ⟨r1, ?_⟩
  rw [r2, hy, ks_succ]
  rfl
theorem full_full {most i : Nat} (h : most ≤ i) (hi : i < 256) : (fullM most most).says 10 10 (kf i) = 7 ∧ (fullM most most).check 10 10 (kf i) = fullM most most := by
  have hy := young_all (most := most) (n := most) (now := 10) (by omega)
  obtain ⟨r1, r2⟩ := says_full (m := fullM most most) (e := kf i) (bad_no (t := 10) (by omega) (by omega) (keyL_len _)) (far_no (by omega)) (by rw [hy, ks_any (by omega) hi]; simp; omega) (by rw [hy, ks_len]; exact Int.le_refl _)
  refine ⟨r1, ?_⟩
  rw [r2, hy]
  rfl
theorem full_old {most : Nat} (h : 1 ≤ most) (hm : most ≤ 20) : (fullM most most).says 10 10 (kf 0) = 8 ∧ (fullM most most).check 10 10 (kf 0) = fullM most most := by
  have hy := young_all (most := most) (n := most) (now := 10) (by omega)
  obtain ⟨r1, r2⟩ := says_seen (m := fullM most most) (e := kf 0) (bad_no (t := 10) (by omega) (by omega) (keyL_len _)) (far_no (by omega)) (by rw [hy, ks_any (by omega) (by omega)]; simp; omega)
  refine ⟨r1, ?_⟩
  rw [r2, hy]
  rfl
theorem full_15 {most : Nat} : (fullM most most).says 15 15 k92 = 7 ∧ (fullM most most).check 15 15 k92 = fullM most most := by
  have hy := young_all (most := most) (n := most) (now := 15) (by omega)
  obtain ⟨r1, r2⟩ := says_full (m := fullM most most) (e := k92) (bad_no (t := 15) (by omega) (by omega) (keyL_len _)) (far_no (by omega)) (by rw [hy, ks_any92]) (by rw [hy, ks_len]; exact Int.le_refl _)
  refine ⟨r1, ?_⟩
  rw [r2, hy]
  rfl
theorem full_16 {most : Nat} (h : 1 ≤ most) : (fullM most most).says 16 16 k92 = 0 ∧ ((fullM most most).check 16 16 k92).l.length = 1 := by
  have hy := young_none (most := most) (n := most)
  obtain ⟨r1, r2⟩ := says_new (m := fullM most most) (e := k92) (bad_no (t := 16) (by omega) (by omega) (keyL_len _)) (far_no (by omega)) (by rw [hy]; rfl) (by rw [hy]; show ¬ (most : Int) ≤ 0; omega)
  refine ⟨r1, ?_⟩
  rw [r2, hy]
  rfl

section
variable {w0 w : World} {L : List Assn}
theorem rd2 {g : Nat} {a b : Int} {x y : UInt8} (ha : (x.toNat : Int) = a) (hb : (y.toNat : Int) = b) (h : Sat w0 w (Blk g (.cells #[.int .u8 a, .int .u8 b] 5 (0, 0)) :: L)) : RdB w (.slice (some ⟨g, 0, none⟩) 2 2) [x, y] := by
  subst ha hb
  have h1 : Sat w0 w (OwnB 5 (.slice (some ⟨g, 0, none⟩) 2 2) [x, y] :: L) := OwnS.ofBlk h (Nat.le_refl _) (by unfold maxLen; omega) (by simp) (by simp [bytesC])
  exact OwnB.rd h1

set_option maxRecDepth 100000 in
set_option maxHeartbeats 2000000 in
theorem replay_full_law (v0 v1 : Value) (w : World) (h0 : IsIntR w v0) (h1 : IsIntR w v1) :
    Calls Try.prog 10 #[v0, v1] w fun e w' => e = .returned (.bool true) ∧ Below w.heap.size w w' := by
  obtain ⟨n0, rfl, _⟩ := h0
  obtain ⟨n1, rfl, _⟩ := h1
  have hs := Sat.refl w
  have b0 := um_bd n0 (m := 20) (by omega) (by omega)
  have b1 := um_bd n1 (m := 10) (by omega) (by omega)
  obtain ⟨c0, hc0⟩ := Int.eq_ofNat_of_zero_le b0.1
  obtain ⟨mo, hmo⟩ := Int.eq_ofNat_of_zero_le b1.1
  rw [hc0] at b0
  rw [hmo] at b1
  obtain ⟨most, hmost⟩ : ∃ most : Nat, 1 + c0 = most := ⟨_, rfl⟩
  have hm1 : 1 ≤ most := by omega
  have hm2 : most ≤ 20 := by omega
  have hmo9 : mo ≤ 9 := by omega
  have e1 : IntKind.i64.wrap (1 + (c0 : Int)) = (most : Int) := by rw [IntWalk.i64_in _ (by omega)]; omega
  have e2 : (1 : Int) + (c0 : Int) = (most : Int) := by omega
  have hnew : FltM.new 5 most 0 = fullM most 0 := by
    unfold FltM.new fullM
    rw [timeC_id (by omega) (by omega), timeC_id (by omega) (by omega)]
    congr 1
    omega
  have HN := hid_ hnew
  clear hnew hmost
  go_enter Try.func10, Try.ntmps10
  go_wp2_with fail
  refine (rep_New 5 most 0 hs).mono ?_
  rw [HN.out]
  rintro _ w1 ⟨f, rfl, h2⟩
  go_wp2_with fail
  go_loopg [22] (most + mo) (fun gg v22 wr => ∃ i : Nat, i ≤ most + mo ∧ most + mo - i ≤ gg ∧ v22 = .int .i64 i ∧ Sat w wr [Flt f (fullM most (min i most))])
  case atStart => exact ⟨0, by omega, by omega, rfl, by rw [Nat.zero_min]; exact h2⟩
  case round =>
    obtain ⟨i, hi, hgg, rfl, h3⟩ := hrel
    clear h2
    by_cases hlt : i < most + mo
    · have hi256 : i < 256 := by omega
      have ew : IntKind.u8.wrap (i : Int) = (i : Int) := by
        unfold IntKind.wrap
        simp only [IntKind.signed, IntKind.bits, Bool.false_and, Bool.false_eq_true, if_false]
        omega
      have h4 := h3.alloc (.cells #[.int .u8 (i : Int), .int .u8 1] 5 (0, 0))
      have hrd := rd2 (x := UInt8.ofNat i) (y := 1) (by simp; omega) rfl h4
      by_cases hn : i < most
      · have hni : (i : Int) < (most : Int) := by omega
        obtain ⟨r1, r2⟩ := full_new hn hm2
        rw [show min i most = i by omega] at h4
        have R1 := hid_ r1
        have R2 := hid_ r2
        clear r1 r2 h3
        go_wp2_with fail
        refine (rep_Key hrd h4).mono ?_
        rintro _ w2 ⟨a, c, rfl, h5⟩
        go_wp2_with fail
        have h6 := Sat.re [2, 0, 1] [_, _, _] h5
        refine (rep_Check (fun W A h => OwnB.rd (Sat.front [_] h)) h6).mono ?_
        rw [show keyL [UInt8.ofNat i, 1] = kf i from rfl, R1.out, R2.out]
        rintro _ w3 ⟨rfl, h7⟩
        go_wp2_with fail
        go_roundg (most + mo - (i + 1))
        case measure => omega
        case rel => exact ⟨i + 1, by omega, by omega, by go_num, by rw [show min (i + 1) most = i + 1 by omega]; exact Sat.re [0] [_] (Sat.re [1, 2, 0] [_, _, _] h7).drop.drop⟩
      · have hni : ¬ (i : Int) < (most : Int) := by omega
        obtain ⟨r1, r2⟩ := full_full (most := most) (i := i) (by omega) hi256
        rw [show min i most = most by omega] at h4
        have R1 := hid_ r1
        have R2 := hid_ r2
        clear r1 r2 h3
        go_wp2_with fail
        refine (rep_Key hrd h4).mono ?_
        rintro _ w2 ⟨a, c, rfl, h5⟩
        go_wp2_with fail
        have h6 := Sat.re [2, 0, 1] [_, _, _] h5
        refine (rep_Check (fun W A h => OwnB.rd (Sat.front [_] h)) h6).mono ?_
        rw [show keyL [UInt8.ofNat i, 1] = kf i from rfl, R1.out, R2.out]
        rintro _ w3 ⟨rfl, h7⟩
        go_wp2_with fail
        go_roundg (most + mo - (i + 1))
        case measure => omega
        case rel => exact ⟨i + 1, by omega, by omega, by go_num, by rw [show min (i + 1) most = most by omega]; exact Sat.re [0] [_] (Sat.re [1, 2, 0] [_, _, _] h7).drop.drop⟩
    · obtain rfl : i = most + mo := by omega
      rw [show min (most + mo) most = most by omega] at h3
      obtain ⟨r1, r2⟩ := full_old hm1 hm2
      obtain ⟨r3, r4⟩ := full_15 (most := most)
      obtain ⟨r5, r6⟩ := full_16 hm1
      have R1 := hid_ r1
      have R2 := hid_ r2
      have R3 := hid_ r3
      have R4 := hid_ r4
      have R5 := hid_ r5
      have R6 := hid_ r6
      have RL := hid_ (ks_len most)
      clear r1 r2 r3 r4 r5 r6
      go_wp2_with fail
      refine (rep_Len h3).mono ?_
      rw [show (fullM most most).l.length = most from RL.out]
      rintro _ _ ⟨rfl, rfl⟩
      go_wp2_with fail
      have h4 := h3.alloc (.cells #[.int .u8 0, .int .u8 1] 5 (0, 0))
      refine (rep_Key (rd2 (x := 0) (y := 1) rfl rfl h4) h4.drop).mono ?_
      rintro _ w2 ⟨a, c, rfl, h5⟩
      go_wp2_with fail
      refine (rep_Check (fun W A h => OwnB.rd h.swap) h5.swap).mono ?_
      rw [show keyL [0, 1] = kf 0 from rfl, R1.out, R2.out]
      rintro _ w3 ⟨rfl, h6⟩
      go_wp2_with fail
      have h7 := (Sat.drop h6.swap).alloc (.cells #[.int .u8 9, .int .u8 2] 5 (0, 0))
      refine (rep_Key (rd2 (x := 9) (y := 2) rfl rfl h7) h7.drop).mono ?_
      rintro _ w4 ⟨a2, c2, rfl, h8⟩
      go_wp2_with fail
      refine (rep_Check (fun W A h => OwnB.rd h.swap) h8.swap).mono ?_
      rw [show keyL [9, 2] = k92 from rfl, R3.out, R4.out]
      rintro _ w5 ⟨rfl, h9⟩
      go_wp2_with fail
      have h10 := (Sat.drop h9.swap).alloc (.cells #[.int .u8 9, .int .u8 2] 5 (0, 0))
      refine (rep_Key (rd2 (x := 9) (y := 2) rfl rfl h10) h10.drop).mono ?_
      rintro _ w6 ⟨a3, c3, rfl, h11⟩
      go_wp2_with fail
      refine (rep_Check (fun W A h => OwnB.rd h.swap) h11.swap).mono ?_
      rw [show keyL [9, 2] = k92 from rfl, R5.out]
      rintro _ w7 ⟨rfl, h12⟩
      go_wp2_with fail
      refine (rep_Len h12).mono ?_
      rw [R6.out]
      rintro _ _ ⟨rfl, rfl⟩
      go_wp2_with fail
      refine (rep_awake h12).mono ?_
      rintro _ w8 ⟨rfl, h13⟩
      go_wp2_with fail
      go_ret
      exact ⟨rfl, h13.below⟩
end
end Go.Proofs.Ytipkcbphjgmgiaa
