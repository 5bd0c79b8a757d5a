/- The document's rules: Match; walked (printed by gen_rrm.py). -/
import Derived.BigQuiet
import Derived.Test.YtmnjaaeljpleeaaDoorRrf
namespace Go.Proofs.YtmnjaaeljpleeaaDoor
open Go Go.RowKit
set_option linter.unusedVariables false
set_option linter.unusedSimpArgs false
section
variable {w0 w : World} {L : List Assn}
theorem ref_MayRuleV {r : RuleM} {x : Option Addr} {c : Nat} {b : Bool} (hm : Hid (r.may = b)) (hr : RdRu w r x c) : Calls Tryd.prog 7 #[ruV r (.slice x r.net.length c)] w fun e w' => e = .returned (.bool b) ∧ Below w.heap.size w w' := by
  rw [← hm.out]
  exact ref_MayRule r x c hr
theorem ref_MayAddrV {a : AdM} {x : Option Addr} {c : Nat} {b : Bool} (hm : Hid (a.may = b)) (hr : RdAd w a x c) : Calls Tryd.prog 23 #[adA a (.slice x a.ip.length c)] w fun e w' => e = .returned (.bool b) ∧ Below w.heap.size w w' := by
  rw [← hm.out]
  exact ref_MayAddr a x c hr.name hr.ip.len
theorem may_kind {r : RuleM} (h : r.may = true) : r.kind = 0 ∨ r.kind = 1 ∨ r.kind = 2 ∧ 1 ≤ r.name.size := by
  unfold RuleM.may RuleM.kindB at h
  simp only [Bool.and_eq_true, decide_eq_true_eq] at h
  obtain ⟨_, h⟩ := h
  by_cases k0 : r.kind = 0
  · exact .inl k0
  · by_cases k1 : r.kind = 1
    · exact .inr (.inl k1)
    · by_cases k2 : r.kind = 2
      · rw [if_neg k0, if_neg k1, if_pos k2] at h
        simp only [Bool.and_eq_true] at h
        have h1 := h.1.1
        unfold nameOk at h1
        simp only [Bool.and_eq_true, decide_eq_true_eq] at h1
        refine .inr (.inr ⟨k2, ?_⟩)
        have := h1.1.2
        rw [Array.length_toList] at this
        exact this
      · rw [if_neg k0, if_neg k1, if_neg k2] at h
        cases h

set_option maxRecDepth 100000 in
set_option maxHeartbeats 1200000 in
theorem ref_Match (w : World) (r : RuleM) (a : AdM) (x y : Option Addr) (c d : Nat) (hr : RdRu w r x c) (ha : RdAd w a y d) :
    Calls Tryd.prog 9 #[ruV r (.slice x r.net.length c), adA a (.slice y a.ip.length d)] w fun e w' => e = .returned (.bool (r.hit a)) ∧ Below w.heap.size w w' := by
  unfold ruV adA
  have hA : ∀ o p, Sat w ((w.alloc o).alloc p) (Blk (w.heap.size + 1) p :: Blk w.heap.size o :: []) := fun o p => (Sat.refl w).alloc2 o p
  have hB : ∀ o p, Below w.heap.size w ((w.alloc o).alloc p) := fun o p => (hA o p).below
  cases hm : r.may
  · have e1 : r.hit a = false := by unfold RuleM.hit; rw [hm]; simp
    rw [e1]
    have HM := hid_ hm
    clear hm e1
    go_enter Tryd.func9, Tryd.ntmps9
    go_wp2_with fail
    refine (ref_MayRuleV HM (hr.mono (hB _ _))).mono ?_
    rintro _ w1 ⟨rfl, h1⟩
    have h2 := (hA _ _).under h1
    go_wp2_with fail
    go_ret
    exact ⟨rfl, h2.below⟩
  cases hm2 : a.may
  · have e1 : r.hit a = false := by unfold RuleM.hit; rw [hm2]; simp
    rw [e1]
    have HM := hid_ hm
    have HM2 := hid_ hm2
    clear hm hm2 e1
    go_enter Tryd.func9, Tryd.ntmps9
    go_wp2_with fail
    refine (ref_MayRuleV HM (hr.mono (hB _ _))).mono ?_
    rintro _ w1 ⟨rfl, h1⟩
    have h2 := (hA _ _).under h1
    have p0 : w1.cell? ⟨w.heap.size + 1, 0, none⟩ = some (.int .i64 a.kind) := h2.cell 0 rfl
    have p1 : w1.cell? ⟨w.heap.size + 1, 1, none⟩ = some (.slice y a.ip.length d) := h2.cell 1 rfl
    have p2 : w1.cell? ⟨w.heap.size + 1, 2, none⟩ = some (.string a.name) := h2.cell 2 rfl
    have p3 : w1.cell? ⟨w.heap.size + 1, 3, none⟩ = some (.int .i64 a.port) := h2.cell 3 rfl
    go_wp2_with fail
    refine (ref_MayAddrV HM2 (ha.mono h2.below)).mono ?_
    rintro _ w3 ⟨rfl, h3⟩
    have h4 := h2.under h3
    clear p0 p1 p2 p3
    have p0 : w3.cell? ⟨w.heap.size + 1, 0, none⟩ = some (.int .i64 a.kind) := h4.cell 0 rfl
    have p1 : w3.cell? ⟨w.heap.size + 1, 1, none⟩ = some (.slice y a.ip.length d) := h4.cell 1 rfl
    have p2 : w3.cell? ⟨w.heap.size + 1, 2, none⟩ = some (.string a.name) := h4.cell 2 rfl
    have p3 : w3.cell? ⟨w.heap.size + 1, 3, none⟩ = some (.int .i64 a.port) := h4.cell 3 rfl
    have r0 : w3.cell? ⟨w.heap.size, 0, none⟩ = some (.int .i64 r.kind) := h4.drop.cell 0 rfl
    have r1 : w3.cell? ⟨w.heap.size, 1, none⟩ = some (.bool r.allow) := h4.drop.cell 1 rfl
    have r2 : w3.cell? ⟨w.heap.size, 2, none⟩ = some (.slice x r.net.length c) := h4.drop.cell 2 rfl
    have r3 : w3.cell? ⟨w.heap.size, 3, none⟩ = some (.int .i64 r.bits) := h4.drop.cell 3 rfl
    have r4 : w3.cell? ⟨w.heap.size, 4, none⟩ = some (.string r.name) := h4.drop.cell 4 rfl
    have r5 : w3.cell? ⟨w.heap.size, 5, none⟩ = some (.int .i64 r.low) := h4.drop.cell 5 rfl
    have r6 : w3.cell? ⟨w.heap.size, 6, none⟩ = some (.int .i64 r.high) := h4.drop.cell 6 rfl
    go_wp2_with fail
    go_ret
    exact ⟨rfl, h4.below⟩
  have e0 : r.hit a = (decide (r.low ≤ a.port) && decide (a.port ≤ r.high) && (if r.kind = 1 then a.ip.length == r.net.length && startsB a.ip r.net r.bits.toNat else if r.kind = 2 then a.kind == 3 && (a.name.data.toList == r.name.data.toList || sufB a.name (⟨#[46]⟩ ++ r.name)) else true)) := by
    unfold RuleM.hit; rw [hm, hm2]; simp
  have HM := hid_ hm
  have HM2 := hid_ hm2
  have hn := RuleM.may_net hm
  have hnm := RuleM.may_name hm
  have hkk := may_kind hm
  clear hm hm2
  by_cases hp : a.port < r.low ∨ r.high < a.port
  · have E1 := hid_ (show r.hit a = false by rw [e0, Bool.eq_false_iff]; simp; intro _ _; omega)
    have hp' : a.port < r.low ∨ (¬ a.port < r.low ∧ r.high < a.port) := by omega
    clear hp e0 hn hnm hkk
    rcases hp' with hp | ⟨hp, hp2⟩
    all_goals
      go_enter Tryd.func9, Tryd.ntmps9
      go_wp2_with fail
      refine (ref_MayRuleV HM (hr.mono (hB _ _))).mono ?_
      rintro _ w1 ⟨rfl, h1⟩
      have h2 := (hA _ _).under h1
      have p0 : w1.cell? ⟨w.heap.size + 1, 0, none⟩ = some (.int .i64 a.kind) := h2.cell 0 rfl
      have p1 : w1.cell? ⟨w.heap.size + 1, 1, none⟩ = some (.slice y a.ip.length d) := h2.cell 1 rfl
      have p2 : w1.cell? ⟨w.heap.size + 1, 2, none⟩ = some (.string a.name) := h2.cell 2 rfl
      have p3 : w1.cell? ⟨w.heap.size + 1, 3, none⟩ = some (.int .i64 a.port) := h2.cell 3 rfl
      go_wp2_with fail
      refine (ref_MayAddrV HM2 (ha.mono h2.below)).mono ?_
      rintro _ w3 ⟨rfl, h3⟩
      have h4 := h2.under h3
      clear p0 p1 p2 p3
      have p0 : w3.cell? ⟨w.heap.size + 1, 0, none⟩ = some (.int .i64 a.kind) := h4.cell 0 rfl
      have p1 : w3.cell? ⟨w.heap.size + 1, 1, none⟩ = some (.slice y a.ip.length d) := h4.cell 1 rfl
      have p2 : w3.cell? ⟨w.heap.size + 1, 2, none⟩ = some (.string a.name) := h4.cell 2 rfl
      have p3 : w3.cell? ⟨w.heap.size + 1, 3, none⟩ = some (.int .i64 a.port) := h4.cell 3 rfl
      have r0 : w3.cell? ⟨w.heap.size, 0, none⟩ = some (.int .i64 r.kind) := h4.drop.cell 0 rfl
      have r1 : w3.cell? ⟨w.heap.size, 1, none⟩ = some (.bool r.allow) := h4.drop.cell 1 rfl
      have r2 : w3.cell? ⟨w.heap.size, 2, none⟩ = some (.slice x r.net.length c) := h4.drop.cell 2 rfl
      have r3 : w3.cell? ⟨w.heap.size, 3, none⟩ = some (.int .i64 r.bits) := h4.drop.cell 3 rfl
      have r4 : w3.cell? ⟨w.heap.size, 4, none⟩ = some (.string r.name) := h4.drop.cell 4 rfl
      have r5 : w3.cell? ⟨w.heap.size, 5, none⟩ = some (.int .i64 r.low) := h4.drop.cell 5 rfl
      have r6 : w3.cell? ⟨w.heap.size, 6, none⟩ = some (.int .i64 r.high) := h4.drop.cell 6 rfl
      go_wp2
      go_ret
      exact ⟨ret_bool E1.out.symm, h4.below⟩
  · have hp1 : ¬ a.port < r.low := by omega
    have hp2 : ¬ r.high < a.port := by omega
    replace e0 : r.hit a = (if r.kind = 1 then a.ip.length == r.net.length && startsB a.ip r.net r.bits.toNat else if r.kind = 2 then a.kind == 3 && (a.name.data.toList == r.name.data.toList || sufB a.name (⟨#[46]⟩ ++ r.name)) else true) := by
      rw [e0, decide_eq_true (show r.low ≤ a.port by omega), decide_eq_true (show a.port ≤ r.high by omega)]; simp
    clear hp
    rcases hkk with k0 | k1 | ⟨k2, hsz1⟩
    · have E1 := hid_ (show r.hit a = true by rw [e0, if_neg (by omega), if_neg (by omega)])
      have b0 : (r.kind == 0) = true := by simp [k0]
      clear e0 hn hnm k0
      go_enter Tryd.func9, Tryd.ntmps9
      go_wp2_with fail
      refine (ref_MayRuleV HM (hr.mono (hB _ _))).mono ?_
      rintro _ w1 ⟨rfl, h1⟩
      have h2 := (hA _ _).under h1
      have p0 : w1.cell? ⟨w.heap.size + 1, 0, none⟩ = some (.int .i64 a.kind) := h2.cell 0 rfl
      have p1 : w1.cell? ⟨w.heap.size + 1, 1, none⟩ = some (.slice y a.ip.length d) := h2.cell 1 rfl
      have p2 : w1.cell? ⟨w.heap.size + 1, 2, none⟩ = some (.string a.name) := h2.cell 2 rfl
      have p3 : w1.cell? ⟨w.heap.size + 1, 3, none⟩ = some (.int .i64 a.port) := h2.cell 3 rfl
      go_wp2_with fail
      refine (ref_MayAddrV HM2 (ha.mono h2.below)).mono ?_
      rintro _ w3 ⟨rfl, h3⟩
      have h4 := h2.under h3
      clear p0 p1 p2 p3
      have p0 : w3.cell? ⟨w.heap.size + 1, 0, none⟩ = some (.int .i64 a.kind) := h4.cell 0 rfl
      have p1 : w3.cell? ⟨w.heap.size + 1, 1, none⟩ = some (.slice y a.ip.length d) := h4.cell 1 rfl
      have p2 : w3.cell? ⟨w.heap.size + 1, 2, none⟩ = some (.string a.name) := h4.cell 2 rfl
      have p3 : w3.cell? ⟨w.heap.size + 1, 3, none⟩ = some (.int .i64 a.port) := h4.cell 3 rfl
      have r0 : w3.cell? ⟨w.heap.size, 0, none⟩ = some (.int .i64 r.kind) := h4.drop.cell 0 rfl
      have r1 : w3.cell? ⟨w.heap.size, 1, none⟩ = some (.bool r.allow) := h4.drop.cell 1 rfl
      have r2 : w3.cell? ⟨w.heap.size, 2, none⟩ = some (.slice x r.net.length c) := h4.drop.cell 2 rfl
      have r3 : w3.cell? ⟨w.heap.size, 3, none⟩ = some (.int .i64 r.bits) := h4.drop.cell 3 rfl
      have r4 : w3.cell? ⟨w.heap.size, 4, none⟩ = some (.string r.name) := h4.drop.cell 4 rfl
      have r5 : w3.cell? ⟨w.heap.size, 5, none⟩ = some (.int .i64 r.low) := h4.drop.cell 5 rfl
      have r6 : w3.cell? ⟨w.heap.size, 6, none⟩ = some (.int .i64 r.high) := h4.drop.cell 6 rfl
      go_wp2
      go_ret
      exact ⟨ret_bool E1.out.symm, h4.below⟩
    · obtain ⟨hl, hb0, hb1⟩ := hn k1
      rw [if_pos k1] at e0
      have b0 : (r.kind == 0) = false := by simp [k1]
      have b1 : (r.kind == 1) = true := by simp [k1]
      have b2 : (r.kind == 2) = false := by simp [k1]
      obtain ⟨k, hk⟩ := Int.eq_ofNat_of_zero_le hb0
      have e0 : r.hit a = (a.ip.length == r.net.length && startsB a.ip r.net k) := by rw [e0, hk]; rfl
      rw [hk] at hb1
      have HK := hid_ hk
      clear hn hnm k1 hb0 hk
      by_cases hlen : a.ip.length = r.net.length
      · have E1 := hid_ (show r.hit a = startsB a.ip r.net k by rw [e0, hlen]; simp)
        have bl : ((a.ip.length : Int) != (r.net.length : Int)) = false := by simp [hlen]
        have hl1 : k ≤ 8 * r.net.length := by omega
        have hl2 : k ≤ 8 * a.ip.length := by omega
        have hk128 : k ≤ 128 := by omega
        have hbA := hid_ (fun (W : World) (h : Below w.heap.size w W) (i : Nat) (hi : i < k) => rr_bit (w := W) _ a.ip i (by omega) (ha.ip.mono h))
        have hbR := hid_ (fun (W : World) (h : Below w.heap.size w W) (i : Nat) (hi : i < k) => rr_bit (w := W) _ r.net i (by omega) (hr.net.mono h))
        clear e0 hl hlen hb1 hl1 hl2
        go_enter Tryd.func9, Tryd.ntmps9
        go_wp2_with fail
        refine (ref_MayRuleV HM (hr.mono (hB _ _))).mono ?_
        rintro _ w1 ⟨rfl, h1⟩
        have h2 := (hA _ _).under h1
        have p0 : w1.cell? ⟨w.heap.size + 1, 0, none⟩ = some (.int .i64 a.kind) := h2.cell 0 rfl
        have p1 : w1.cell? ⟨w.heap.size + 1, 1, none⟩ = some (.slice y a.ip.length d) := h2.cell 1 rfl
        have p2 : w1.cell? ⟨w.heap.size + 1, 2, none⟩ = some (.string a.name) := h2.cell 2 rfl
        have p3 : w1.cell? ⟨w.heap.size + 1, 3, none⟩ = some (.int .i64 a.port) := h2.cell 3 rfl
        go_wp2_with fail
        refine (ref_MayAddrV HM2 (ha.mono h2.below)).mono ?_
        rintro _ w3 ⟨rfl, h3⟩
        have h4 := h2.under h3
        clear p0 p1 p2 p3
        have p0 : w3.cell? ⟨w.heap.size + 1, 0, none⟩ = some (.int .i64 a.kind) := h4.cell 0 rfl
        have p1 : w3.cell? ⟨w.heap.size + 1, 1, none⟩ = some (.slice y a.ip.length d) := h4.cell 1 rfl
        have p2 : w3.cell? ⟨w.heap.size + 1, 2, none⟩ = some (.string a.name) := h4.cell 2 rfl
        have p3 : w3.cell? ⟨w.heap.size + 1, 3, none⟩ = some (.int .i64 a.port) := h4.cell 3 rfl
        have r0 : w3.cell? ⟨w.heap.size, 0, none⟩ = some (.int .i64 r.kind) := h4.drop.cell 0 rfl
        have r1 : w3.cell? ⟨w.heap.size, 1, none⟩ = some (.bool r.allow) := h4.drop.cell 1 rfl
        have r2 : w3.cell? ⟨w.heap.size, 2, none⟩ = some (.slice x r.net.length c) := h4.drop.cell 2 rfl
        have r3 : w3.cell? ⟨w.heap.size, 3, none⟩ = some (.int .i64 r.bits) := h4.drop.cell 3 rfl
        have r4 : w3.cell? ⟨w.heap.size, 4, none⟩ = some (.string r.name) := h4.drop.cell 4 rfl
        have r5 : w3.cell? ⟨w.heap.size, 5, none⟩ = some (.int .i64 r.low) := h4.drop.cell 5 rfl
        have r6 : w3.cell? ⟨w.heap.size, 6, none⟩ = some (.int .i64 r.high) := h4.drop.cell 6 rfl
        rw [HK.out] at r3 h4 ⊢
        go_wp2_with fail
        go_loopg [74] k (fun gg v74 wr => ∃ i : Nat, i ≤ k ∧ k - i ≤ gg ∧ v74 = .int .i64 i ∧ (∀ j, j < i → bitN a.ip j = bitN r.net j) ∧ Sat w wr [Blk (w.heap.size + 1) (.cells #[.int .i64 a.kind, .slice y a.ip.length d, .string a.name, .int .i64 a.port] 25 (0, 0)), Blk w.heap.size (.cells #[.int .i64 r.kind, .bool r.allow, .slice x r.net.length c, .int .i64 k, .string r.name, .int .i64 r.low, .int .i64 r.high] 29 (0, 0))])
        case atStart => exact ⟨0, Nat.zero_le _, by omega, rfl, fun j h => absurd h (Nat.not_lt_zero _), h4⟩
        case round =>
          obtain ⟨i, hi, hgg, rfl, hb, h5⟩ := hrel
          have HB := hid_ hb
          clear hb p0 p1 p2 p3 r0 r1 r2 r3 r4 r5 r6
          by_cases hlt : i < k
          · have p1 : wr.cell? ⟨w.heap.size + 1, 1, none⟩ = some (.slice y a.ip.length d) := h5.cell 1 rfl
            have r2 : wr.cell? ⟨w.heap.size, 2, none⟩ = some (.slice x r.net.length c) := h5.drop.cell 2 rfl
            have hbw := h5.below
            have HBW := hid_ (fun n => (Sat.drewN h5 n).below)
            by_cases h0 : bitN a.ip i = bitN r.net i
            · have hne : (((bitN r.net i : Nat) : Int) != ((bitN r.net i : Nat) : Int)) = false := by simp
              have hbA2 := hid_ (fun n => hbA.out (wr.drewN n) (HBW.out n) i hlt)
              have hbR2 := hid_ (fun n => hbR.out (wr.drewN n) (HBW.out n) i hlt)
              rw [h0] at hbA2
              go_wp2_with fail
              go_quiet ((go_at_call 19; first | with_reducible exact quiet_same (hbA2.out _) | with_reducible exact quiet_same (hbR2.out _)))
              go_wp2_with fail
              go_roundg (k - (i + 1))
              case measure => omega
              case rel =>
                refine ⟨i + 1, by omega, by omega, by go_num, fun j h1 => ?_, Sat.drewN h5 _⟩
                by_cases hj : j = i
                · rw [hj]; exact h0
                · exact HB.out j (by omega)
            · have hne : (((bitN a.ip i : Nat) : Int) != ((bitN r.net i : Nat) : Int)) = true := by simp; omega
              have hfin : startsB a.ip r.net k = false := by
                unfold startsB
                rw [List.all_eq_false]
                exact ⟨i, by rw [List.mem_range]; omega, by simp [h0]⟩
              have HF := hid_ hfin
              have hbA2 := hid_ (fun n => hbA.out (wr.drewN n) (HBW.out n) i hlt)
              have hbR2 := hid_ (fun n => hbR.out (wr.drewN n) (HBW.out n) i hlt)
              clear h0 hfin
              go_wp2_with fail
              go_quiet ((go_at_call 19; first | with_reducible exact quiet_same (hbA2.out _) | with_reducible exact quiet_same (hbR2.out _)))
              go_wp2_with fail
              go_ret
              exact ⟨ret_bool (by rw [E1.out, HF.out]), (Sat.drewN h5 _).below⟩
          · obtain rfl : i = k := by omega
            have hfin : startsB a.ip r.net i = true := by
              unfold startsB
              rw [List.all_eq_true]
              intro j hj
              rw [List.mem_range] at hj
              simp [HB.out j (by omega)]
            have HF := hid_ hfin
            clear hfin
            go_wp2_with fail
            go_ret
            exact ⟨ret_bool (by rw [E1.out, HF.out]), h5.below⟩
      · have E1 := hid_ (show r.hit a = false by rw [e0]; simp [hlen])
        have bl : ((a.ip.length : Int) != (r.net.length : Int)) = true := by rw [bne_iff_ne]; omega
        clear e0 hlen hl hb1
        go_enter Tryd.func9, Tryd.ntmps9
        go_wp2_with fail
        refine (ref_MayRuleV HM (hr.mono (hB _ _))).mono ?_
        rintro _ w1 ⟨rfl, h1⟩
        have h2 := (hA _ _).under h1
        have p0 : w1.cell? ⟨w.heap.size + 1, 0, none⟩ = some (.int .i64 a.kind) := h2.cell 0 rfl
        have p1 : w1.cell? ⟨w.heap.size + 1, 1, none⟩ = some (.slice y a.ip.length d) := h2.cell 1 rfl
        have p2 : w1.cell? ⟨w.heap.size + 1, 2, none⟩ = some (.string a.name) := h2.cell 2 rfl
        have p3 : w1.cell? ⟨w.heap.size + 1, 3, none⟩ = some (.int .i64 a.port) := h2.cell 3 rfl
        go_wp2_with fail
        refine (ref_MayAddrV HM2 (ha.mono h2.below)).mono ?_
        rintro _ w3 ⟨rfl, h3⟩
        have h4 := h2.under h3
        clear p0 p1 p2 p3
        have p0 : w3.cell? ⟨w.heap.size + 1, 0, none⟩ = some (.int .i64 a.kind) := h4.cell 0 rfl
        have p1 : w3.cell? ⟨w.heap.size + 1, 1, none⟩ = some (.slice y a.ip.length d) := h4.cell 1 rfl
        have p2 : w3.cell? ⟨w.heap.size + 1, 2, none⟩ = some (.string a.name) := h4.cell 2 rfl
        have p3 : w3.cell? ⟨w.heap.size + 1, 3, none⟩ = some (.int .i64 a.port) := h4.cell 3 rfl
        have r0 : w3.cell? ⟨w.heap.size, 0, none⟩ = some (.int .i64 r.kind) := h4.drop.cell 0 rfl
        have r1 : w3.cell? ⟨w.heap.size, 1, none⟩ = some (.bool r.allow) := h4.drop.cell 1 rfl
        have r2 : w3.cell? ⟨w.heap.size, 2, none⟩ = some (.slice x r.net.length c) := h4.drop.cell 2 rfl
        have r3 : w3.cell? ⟨w.heap.size, 3, none⟩ = some (.int .i64 r.bits) := h4.drop.cell 3 rfl
        have r4 : w3.cell? ⟨w.heap.size, 4, none⟩ = some (.string r.name) := h4.drop.cell 4 rfl
        have r5 : w3.cell? ⟨w.heap.size, 5, none⟩ = some (.int .i64 r.low) := h4.drop.cell 5 rfl
        have r6 : w3.cell? ⟨w.heap.size, 6, none⟩ = some (.int .i64 r.high) := h4.drop.cell 6 rfl
        go_wp2
        go_ret
        exact ⟨ret_bool E1.out.symm, h4.below⟩
    · have hsz := hnm k2
      rw [if_neg (by omega), if_pos k2] at e0
      have b0 : (r.kind == 0) = false := by simp [k2]
      have b2 : (r.kind == 2) = true := by simp [k2]
      have hak : a.kind = 3 ∨ a.name.size = 0 := by
        have h1 := HM2.out
        unfold AdM.may at h1
        by_cases q3 : a.kind = 3
        · exact .inl q3
        · right
          simp only [Bool.and_eq_true] at h1
          obtain ⟨_, h1⟩ := h1
          by_cases q1 : a.kind = 1
          · rw [if_pos q1] at h1
            simp only [Bool.and_eq_true, beq_iff_eq] at h1
            exact h1.2
          · rw [if_neg q1] at h1
            by_cases q4 : a.kind = 4
            · rw [if_pos q4] at h1
              simp only [Bool.and_eq_true, beq_iff_eq] at h1
              exact h1.2
            · rw [if_neg q4, if_neg q3] at h1
              cases h1
      have hdot : (⟨#[46]⟩ ++ r.name : ByteArray).size = 1 + r.name.size := by rw [ByteArray.size_append]; rfl
      have E1 : r.hit a = (a.name.data.toList == r.name.data.toList || sufB a.name (⟨#[46]⟩ ++ r.name)) := by
        rw [e0]
        rcases hak with h | h
        · simp [h]
        · have h1 : a.name.data.toList = [] := List.eq_nil_of_length_eq_zero (by rw [Array.length_toList]; exact h)
          have h2 : (a.name.data.toList == r.name.data.toList) = false := by
            rw [h1, beq_eq_false_iff_ne]
            intro he
            have : r.name.data.toList.length = 0 := by rw [← he]; rfl
            rw [Array.length_toList] at this
            have h3 : r.name.data.size = r.name.size := rfl
            omega
          have h3 : sufB a.name (⟨#[46]⟩ ++ r.name) = false := by unfold sufB; rw [hdot, decide_eq_false (by omega)]; rfl
          rw [h2, h3]
          simp
      have hna := ha.name
      unfold maxLen at hna
      have b4' : (a.name.toList == r.name.toList) = (a.name.data.toList == r.name.data.toList) := by rw [ByteArray.toList_eq, ByteArray.toList_eq]
      clear e0 hn hnm k2 hak
      cases b4 : (a.name.toList == r.name.toList)
      · have E2 := hid_ (show r.hit a = sufB a.name (⟨#[46]⟩ ++ r.name) by rw [E1, ← b4', b4]; rfl)
        by_cases hnm2 : r.name.size < a.name.size
        · have qd : decide ((r.name.size : Int) < (a.name.size : Int)) = true := decide_eq_true (by omega)
          obtain ⟨p, hp⟩ : ∃ p, a.name.size - r.name.size = p := ⟨_, rfl⟩
          obtain ⟨q, hq⟩ : ∃ q, p - 1 = q := ⟨_, rfl⟩
          have e1 : (a.name.size : Int) - (r.name.size : Int) = (p : Int) := by omega
          have e2 : (p : Int) - 1 = (q : Int) := by omega
          have hqn : (q : Int) ≤ (a.name.size : Int) := by omega
          have hadd : ¬ 9223372036854775807 < 1 + r.name.size := by omega
          have HQ := hid_ (show a.name.size - (1 + r.name.size) = q by omega)
          have HD := hid_ hdot
          clear hp hq hdot E1 b4'
          go_enter Tryd.func9, Tryd.ntmps9
          go_wp2_with fail
          refine (ref_MayRuleV HM (hr.mono (hB _ _))).mono ?_
          rintro _ w1 ⟨rfl, h1⟩
          have h2 := (hA _ _).under h1
          have p0 : w1.cell? ⟨w.heap.size + 1, 0, none⟩ = some (.int .i64 a.kind) := h2.cell 0 rfl
          have p1 : w1.cell? ⟨w.heap.size + 1, 1, none⟩ = some (.slice y a.ip.length d) := h2.cell 1 rfl
          have p2 : w1.cell? ⟨w.heap.size + 1, 2, none⟩ = some (.string a.name) := h2.cell 2 rfl
          have p3 : w1.cell? ⟨w.heap.size + 1, 3, none⟩ = some (.int .i64 a.port) := h2.cell 3 rfl
          go_wp2_with fail
          refine (ref_MayAddrV HM2 (ha.mono h2.below)).mono ?_
          rintro _ w3 ⟨rfl, h3⟩
          have h4 := h2.under h3
          clear p0 p1 p2 p3
          have p0 : w3.cell? ⟨w.heap.size + 1, 0, none⟩ = some (.int .i64 a.kind) := h4.cell 0 rfl
          have p1 : w3.cell? ⟨w.heap.size + 1, 1, none⟩ = some (.slice y a.ip.length d) := h4.cell 1 rfl
          have p2 : w3.cell? ⟨w.heap.size + 1, 2, none⟩ = some (.string a.name) := h4.cell 2 rfl
          have p3 : w3.cell? ⟨w.heap.size + 1, 3, none⟩ = some (.int .i64 a.port) := h4.cell 3 rfl
          have r0 : w3.cell? ⟨w.heap.size, 0, none⟩ = some (.int .i64 r.kind) := h4.drop.cell 0 rfl
          have r1 : w3.cell? ⟨w.heap.size, 1, none⟩ = some (.bool r.allow) := h4.drop.cell 1 rfl
          have r2 : w3.cell? ⟨w.heap.size, 2, none⟩ = some (.slice x r.net.length c) := h4.drop.cell 2 rfl
          have r3 : w3.cell? ⟨w.heap.size, 3, none⟩ = some (.int .i64 r.bits) := h4.drop.cell 3 rfl
          have r4 : w3.cell? ⟨w.heap.size, 4, none⟩ = some (.string r.name) := h4.drop.cell 4 rfl
          have r5 : w3.cell? ⟨w.heap.size, 5, none⟩ = some (.int .i64 r.low) := h4.drop.cell 5 rfl
          have r6 : w3.cell? ⟨w.heap.size, 6, none⟩ = some (.int .i64 r.high) := h4.drop.cell 6 rfl
          go_wp2_with fail
          go_quiet (fail)
          go_wp2_with fail
          go_quiet (fail)
          go_wp2_with fail
          go_ret
          exact ⟨ret_bool (by rw [E2.out]; unfold sufB; rw [HD.out, HQ.out, extract_end, ByteArray.toList_eq (⟨#[46]⟩ ++ r.name), decide_eq_true (show 1 + r.name.size ≤ a.name.size by omega), Bool.true_and]), (Sat.drewN (Sat.drewN h4 _) _).below⟩
        · have qd : decide ((r.name.size : Int) < (a.name.size : Int)) = false := decide_eq_false (by omega)
          have E3 := hid_ (show r.hit a = false by rw [E2.out]; unfold sufB; rw [hdot, decide_eq_false (by omega)]; rfl)
          clear E1 b4' hdot
          go_enter Tryd.func9, Tryd.ntmps9
          go_wp2_with fail
          refine (ref_MayRuleV HM (hr.mono (hB _ _))).mono ?_
          rintro _ w1 ⟨rfl, h1⟩
          have h2 := (hA _ _).under h1
          have p0 : w1.cell? ⟨w.heap.size + 1, 0, none⟩ = some (.int .i64 a.kind) := h2.cell 0 rfl
          have p1 : w1.cell? ⟨w.heap.size + 1, 1, none⟩ = some (.slice y a.ip.length d) := h2.cell 1 rfl
          have p2 : w1.cell? ⟨w.heap.size + 1, 2, none⟩ = some (.string a.name) := h2.cell 2 rfl
          have p3 : w1.cell? ⟨w.heap.size + 1, 3, none⟩ = some (.int .i64 a.port) := h2.cell 3 rfl
          go_wp2_with fail
          refine (ref_MayAddrV HM2 (ha.mono h2.below)).mono ?_
          rintro _ w3 ⟨rfl, h3⟩
          have h4 := h2.under h3
          clear p0 p1 p2 p3
          have p0 : w3.cell? ⟨w.heap.size + 1, 0, none⟩ = some (.int .i64 a.kind) := h4.cell 0 rfl
          have p1 : w3.cell? ⟨w.heap.size + 1, 1, none⟩ = some (.slice y a.ip.length d) := h4.cell 1 rfl
          have p2 : w3.cell? ⟨w.heap.size + 1, 2, none⟩ = some (.string a.name) := h4.cell 2 rfl
          have p3 : w3.cell? ⟨w.heap.size + 1, 3, none⟩ = some (.int .i64 a.port) := h4.cell 3 rfl
          have r0 : w3.cell? ⟨w.heap.size, 0, none⟩ = some (.int .i64 r.kind) := h4.drop.cell 0 rfl
          have r1 : w3.cell? ⟨w.heap.size, 1, none⟩ = some (.bool r.allow) := h4.drop.cell 1 rfl
          have r2 : w3.cell? ⟨w.heap.size, 2, none⟩ = some (.slice x r.net.length c) := h4.drop.cell 2 rfl
          have r3 : w3.cell? ⟨w.heap.size, 3, none⟩ = some (.int .i64 r.bits) := h4.drop.cell 3 rfl
          have r4 : w3.cell? ⟨w.heap.size, 4, none⟩ = some (.string r.name) := h4.drop.cell 4 rfl
          have r5 : w3.cell? ⟨w.heap.size, 5, none⟩ = some (.int .i64 r.low) := h4.drop.cell 5 rfl
          have r6 : w3.cell? ⟨w.heap.size, 6, none⟩ = some (.int .i64 r.high) := h4.drop.cell 6 rfl
          go_wp2_with fail
          go_quiet (fail)
          go_wp2_with fail
          go_quiet (fail)
          go_wp2_with fail
          go_ret
          exact ⟨ret_bool E3.out.symm, (Sat.drewN (Sat.drewN h4 _) _).below⟩
      · have E2 := hid_ (show r.hit a = true by rw [E1, ← b4', b4]; rfl)
        clear E1 b4' hdot
        go_enter Tryd.func9, Tryd.ntmps9
        go_wp2_with fail
        refine (ref_MayRuleV HM (hr.mono (hB _ _))).mono ?_
        rintro _ w1 ⟨rfl, h1⟩
        have h2 := (hA _ _).under h1
        have p0 : w1.cell? ⟨w.heap.size + 1, 0, none⟩ = some (.int .i64 a.kind) := h2.cell 0 rfl
        have p1 : w1.cell? ⟨w.heap.size + 1, 1, none⟩ = some (.slice y a.ip.length d) := h2.cell 1 rfl
        have p2 : w1.cell? ⟨w.heap.size + 1, 2, none⟩ = some (.string a.name) := h2.cell 2 rfl
        have p3 : w1.cell? ⟨w.heap.size + 1, 3, none⟩ = some (.int .i64 a.port) := h2.cell 3 rfl
        go_wp2_with fail
        refine (ref_MayAddrV HM2 (ha.mono h2.below)).mono ?_
        rintro _ w3 ⟨rfl, h3⟩
        have h4 := h2.under h3
        clear p0 p1 p2 p3
        have p0 : w3.cell? ⟨w.heap.size + 1, 0, none⟩ = some (.int .i64 a.kind) := h4.cell 0 rfl
        have p1 : w3.cell? ⟨w.heap.size + 1, 1, none⟩ = some (.slice y a.ip.length d) := h4.cell 1 rfl
        have p2 : w3.cell? ⟨w.heap.size + 1, 2, none⟩ = some (.string a.name) := h4.cell 2 rfl
        have p3 : w3.cell? ⟨w.heap.size + 1, 3, none⟩ = some (.int .i64 a.port) := h4.cell 3 rfl
        have r0 : w3.cell? ⟨w.heap.size, 0, none⟩ = some (.int .i64 r.kind) := h4.drop.cell 0 rfl
        have r1 : w3.cell? ⟨w.heap.size, 1, none⟩ = some (.bool r.allow) := h4.drop.cell 1 rfl
        have r2 : w3.cell? ⟨w.heap.size, 2, none⟩ = some (.slice x r.net.length c) := h4.drop.cell 2 rfl
        have r3 : w3.cell? ⟨w.heap.size, 3, none⟩ = some (.int .i64 r.bits) := h4.drop.cell 3 rfl
        have r4 : w3.cell? ⟨w.heap.size, 4, none⟩ = some (.string r.name) := h4.drop.cell 4 rfl
        have r5 : w3.cell? ⟨w.heap.size, 5, none⟩ = some (.int .i64 r.low) := h4.drop.cell 5 rfl
        have r6 : w3.cell? ⟨w.heap.size, 6, none⟩ = some (.int .i64 r.high) := h4.drop.cell 6 rfl
        go_wp2_with fail
        go_quiet (fail)
        go_wp2_with fail
        go_quiet (fail)
        go_wp2_with fail
        go_ret
        exact ⟨ret_bool E2.out.symm, (Sat.drewN (Sat.drewN h4 _) _).below⟩
end
end Go.Proofs.YtmnjaaeljpleeaaDoor
