/- The document's DecodeAddr, walked. -/
import Derived.Test.YtanihjibjjpdbaaDoorRefHi
namespace Go.Proofs.YtanihjibjjpdbaaDoor
open Go Go.RowKit
set_option linter.unusedVariables false
set_option linter.unusedSimpArgs false

section plain
variable {b : List UInt8}
theorem high2 (b : List UInt8) (i : Nat) : highB b i 2 = (b.getD i 0).toNat * 256 + (b.getD (i + 1) 0).toNat := by simp [highB]
theorem decA_nil (h : b.length = 0) : decA b = (2, AdM.zero, 0) := by unfold decA; rw [if_pos h]
theorem decA_err {e : Int} (h : 0 < b.length) (hl : lensB b = (e, 0, 0)) (he : e ≠ 0) : decA b = (e, AdM.zero, 0) := by unfold decA; rw [if_neg (by omega), hl, if_pos he]
theorem decA_ip {k n : Nat} (h : 0 < b.length) (hk : (b.getD 0 0).toNat = k) (hkn : k = 1 ∧ n = 4 ∨ k = 4 ∧ n = 16) :
    decA b = if b.length < 1 + n then (2, AdM.zero, 0) else if b.length < 1 + n + 2 then (2, AdM.zero, 0) else (0, ⟨k, (b.drop 1).take n, ByteArray.empty, highB b (1 + n) 2⟩, 1 + n + 2) := by
  have hl : lensB b = (0, n, 0) := by
    unfold lensB
    rcases hkn with ⟨rfl, rfl⟩ | ⟨rfl, rfl⟩
    · rw [if_pos hk]
    · rw [if_neg (by omega), if_pos hk]
  have hc : cutAd b n 0 = ⟨k, (b.drop 1).take n, ByteArray.empty, 0⟩ := by
    unfold cutAd
    rw [if_neg (by omega), hk]
  unfold decA
  rw [if_neg (by omega), hl]
  simp only [hc, ne_eq, not_true_eq_false, if_false, Nat.add_zero, high2]
  by_cases h1 : b.length < 1 + n
  · rw [if_pos h1, if_pos h1]
  · have hxl : ((b.drop 1).take n).length = n := by rw [List.length_take, List.length_drop]; omega
    have hmay : (⟨k, (b.drop 1).take n, ByteArray.empty, 0⟩ : AdM).may = true := by
      rw [may_iff]
      refine ⟨Int.le_refl _, by simp, ?_⟩
      simp only [hxl]
      rcases hkn with ⟨rfl, rfl⟩ | ⟨rfl, rfl⟩
      · left; exact ⟨rfl, rfl, rfl⟩
      · right; left; exact ⟨rfl, rfl, rfl⟩
    rw [if_neg h1, if_neg h1, hmay, if_neg (by simp), show (((b.getD (1 + n) 0).toNat * 256 + (b.getD (1 + n + 1) 0).toNat : Nat) : Int) = ((b.getD (1 + n) 0).toNat : Int) * 256 + ((b.getD (1 + n + 1) 0).toNat : Int) by omega]
theorem decA_name {n : Nat} (h : 2 ≤ b.length) (hk : (b.getD 0 0).toNat = 3) (hn : (b.getD 1 0).toNat = n) (h1 : 1 ≤ n) (h2 : n ≤ 64) :
    decA b = if b.length < 2 + n then (2, AdM.zero, 0) else if nameOk ((b.drop 2).take n) = false then (3, AdM.zero, 0) else if b.length < 2 + n + 2 then (2, AdM.zero, 0) else (0, ⟨3, [], strOf ((b.drop 2).take n), highB b (2 + n) 2⟩, 2 + n + 2) := by
  have hl : lensB b = (0, n, 1) := by
    unfold lensB
    rw [if_neg (by omega), if_neg (by omega), if_pos hk, if_neg (by omega), hn, if_neg (by omega)]
  have hc : cutAd b n 1 = ⟨3, [], strOf ((b.drop 2).take n), 0⟩ := by
    unfold cutAd
    rw [if_pos hk]
  have hmay : (⟨3, [], strOf ((b.drop 2).take n), 0⟩ : AdM).may = nameOk ((b.drop 2).take n) := by
    unfold AdM.may
    rw [strOf_toList]
    simp
  unfold decA
  rw [if_neg (by omega), hl]
  simp only [hc, hmay, ne_eq, not_true_eq_false, if_false, high2, show 1 + 1 + n = 2 + n by omega]
  rw [show (((b.getD (2 + n) 0).toNat * 256 + (b.getD (2 + n + 1) 0).toNat : Nat) : Int) = ((b.getD (2 + n) 0).toNat : Int) * 256 + ((b.getD (2 + n + 1) 0).toNat : Int) by omega]
end plain

theorem Vw.cell {w0 W : World} {L L' : List Assn} {b0 o0 c i : Nat} {l : List UInt8} (h : Vw w0 L (.slice (some ⟨b0, o0, none⟩) l.length c) l) (hs : Sat w0 W (L' ++ L)) (hi : i < l.length) : W.cell? ⟨b0, o0 + i, none⟩ = some (.int .u8 (l.getD i 0).toNat) := by
  obtain ⟨b1, o1, c1, e1, _, _, _, h1⟩ := (h W L' hs).at hi
  injection e1 with e1 _ _
  injection e1 with e1
  injection e1 with e1 e2 _
  subst e1 e2
  exact h1 i hi
section
variable {w0 w : World} {L : List Assn}
set_option maxRecDepth 100000 in
set_option maxHeartbeats 1000000 in
theorem ref_DecodeAddr {v : Value} {b : List UInt8} (hs : Sat w0 w L) (hv : Vw w0 L v b) :
    Calls Tryd.prog 16 #[v] w (DecOk w0 L (decA b)) := by
  have hr := hv w [] hs
  obtain ⟨a0, c0, rfl, hc0, hcm, hnil⟩ := hr.form
  unfold maxLen at hcm
  have h2 := hs.alloc2 (.cells #[.int .i64 0, .slice none 0 0, .string ⟨#[]⟩, .int .i64 0] 25 (0, 0)) (.cells #[.int .i64 0, .slice none 0 0, .string ⟨#[]⟩, .int .i64 0] 25 (0, 0))
  have HC := hid_ (And.intro hc0 hcm)
  clear hc0 hcm hnil
  obtain ⟨W2, hW2⟩ : ∃ W, (w.alloc (.cells #[.int .i64 0, .slice none 0 0, .string ⟨#[]⟩, .int .i64 0] 25 (0, 0))).alloc (.cells #[.int .i64 0, .slice none 0 0, .string ⟨#[]⟩, .int .i64 0] 25 (0, 0)) = W := ⟨_, rfl⟩
  rw [hW2] at h2
  have HW := hid_ hW2
  obtain ⟨g, hgg⟩ : ∃ g, w.heap.size = g := ⟨_, rfl⟩
  obtain ⟨g1, hg1⟩ : ∃ g1, g + 1 = g1 := ⟨_, rfl⟩
  rw [hgg, hg1] at h2
  have HG := hid_ hgg
  have HG1 := hid_ hg1
  clear hW2 hgg hg1
  go_enter Tryd.func16, Tryd.ntmps16
  go_upto_region 2 with fail
  rw [HW.out, HG.out, HG1.out]
  clear HW HG HG1
  by_cases h0 : b.length = 0
  · have q0 : ((b.length : Int) == 0) = true := by simp [h0]
    have E := hid_ (decA_nil h0)
    clear h0
    have hz := h2
    have hg := Sat.front [_] h2
    have z0 : W2.cell? ⟨g1, 0, none⟩ = some (.int .i64 0) := hz.cell 0 rfl
    have z1 : W2.cell? ⟨g1, 1, none⟩ = some (.slice none 0 0) := hz.cell 1 rfl
    have z2 : W2.cell? ⟨g1, 2, none⟩ = some (.string ⟨#[]⟩) := hz.cell 2 rfl
    have z3 : W2.cell? ⟨g1, 3, none⟩ = some (.int .i64 0) := hz.cell 3 rfl
    have r0 : W2.cell? ⟨g, 0, none⟩ = some (.int .i64 0) := hg.cell 0 rfl
    have r1 : W2.cell? ⟨g, 1, none⟩ = some (.slice none 0 0) := hg.cell 1 rfl
    have r2 : W2.cell? ⟨g, 2, none⟩ = some (.string ⟨#[]⟩) := hg.cell 2 rfl
    have r3 : W2.cell? ⟨g, 3, none⟩ = some (.int .i64 0) := hg.cell 3 rfl
    have f0 : W2.frozen? ⟨g, 0, none⟩ = false := hg.frozen 0
    have f1 : W2.frozen? ⟨g, 1, none⟩ = false := hg.frozen 1
    have f2 : W2.frozen? ⟨g, 2, none⟩ = false := hg.frozen 2
    have f3 : W2.frozen? ⟨g, 3, none⟩ = false := hg.frozen 3
    go_wp2_with fail
    refine bodyPost_ret (v := .tuple #[.agg #[.int .i64 0, .slice none 0 0, .string ByteArray.empty, .int .i64 0], .int .i64 0, .int .i64 2]) (by simp [results, Tryd.results16, go_sem, r0, r1, r2, r3, f0, f1, f2, f3] <;> rfl) rfl ?_
    rw [E.out]
    exact DecOk.no (Sat.set4 hg).drop.drop
  have q0 : ((b.length : Int) == 0) = false := by rw [beq_eq_false_iff_ne]; omega
  have hpos : 0 < b.length := by omega
  obtain ⟨b0, o0, c0', he, -, -, -, -⟩ := hr.at hpos
  injection he with he1 he2 he3
  subst he1 he3
  clear he2 h0
  obtain ⟨kd, hkd⟩ : ∃ k, (b.getD 0 0).toNat = k := ⟨_, rfl⟩
  have hkb : kd < 256 := by rw [← hkd]; exact UInt8.toNat_lt _
  have e0 : W2.cell? ⟨b0, o0, none⟩ = some (.int .u8 (kd : Int)) := by rw [← hkd]; exact hv.cell (L' := [_, _]) (i := 0) h2 hpos
  have s0 : IntKind.i64.wrap (kd : Int) = (kd : Int) := i64_in (by omega) (by omega)
  have hz0 : (0 : Int) < (b.length : Int) := by omega
  have h3 := h2.alloc (.cells #[.int .i64 kd, .slice none 0 0, .string ⟨#[]⟩, .int .i64 0] 25 (0, 0))
  obtain ⟨W3, hW3⟩ : ∃ W, W2.alloc (.cells #[.int .i64 kd, .slice none 0 0, .string ⟨#[]⟩, .int .i64 0] 25 (0, 0)) = W := ⟨_, rfl⟩
  rw [hW3] at h3
  have HW := hid_ hW3
  obtain ⟨g2, hgg⟩ : ∃ g, W2.heap.size = g := ⟨_, rfl⟩
  rw [hgg] at h3
  have HG := hid_ hgg
  have HK := hid_ hkd
  clear hW3 hgg hkd hr h2
  go_upto_region 5 with fail
  rw [HW.out, HG.out]
  clear HW HG e0
  have y00 : W3.cell? ⟨g2, 0, none⟩ = some (.int .i64 kd) := h3.cell 0 rfl
  have y01 : W3.cell? ⟨g2, 1, none⟩ = some (.slice none 0 0) := h3.cell 1 rfl
  have y02 : W3.cell? ⟨g2, 2, none⟩ = some (.string ⟨#[]⟩) := h3.cell 2 rfl
  have y03 : W3.cell? ⟨g2, 3, none⟩ = some (.int .i64 0) := h3.cell 3 rfl
  by_cases k1 : kd = 1
  · subst k1
    clear y00 y01 y02 y03
    replace h3 : Sat w0 W3 (Blk g2 (.cells #[.int .i64 1, .slice none 0 0, .string ⟨#[]⟩, .int .i64 0] 25 (0, 0)) :: _) := h3
    have HD : Hid (decA b = if b.length < 5 then (2, AdM.zero, 0) else if b.length < 7 then (2, AdM.zero, 0) else (0, ⟨1, (b.drop 1).take 4, ByteArray.empty, highB b 5 2⟩, 7)) := hid_ (decA_ip (k := 1) (n := 4) hpos HK.out (by omega))
    have y0 : W3.cell? ⟨g2, 0, none⟩ = some (.int .i64 1) := h3.cell 0 rfl
    have y1 : W3.cell? ⟨g2, 1, none⟩ = some (.slice none 0 0) := h3.cell 1 rfl
    have y2 : W3.cell? ⟨g2, 2, none⟩ = some (.string ⟨#[]⟩) := h3.cell 2 rfl
    have y3 : W3.cell? ⟨g2, 3, none⟩ = some (.int .i64 0) := h3.cell 3 rfl
    go_upto_region 19 with fail
    by_cases l1 : b.length < 5
    · have E := hid_ (HD.out.trans (if_pos l1))
      have q1 : decide ((b.length : Int) < 5) = true := decide_eq_true (by omega)
      clear l1 HD
      have hz := Sat.front [_] h3
      have hg := Sat.front [_, _] h3
      have z0 : W3.cell? ⟨g1, 0, none⟩ = some (.int .i64 0) := hz.cell 0 rfl
      have z1 : W3.cell? ⟨g1, 1, none⟩ = some (.slice none 0 0) := hz.cell 1 rfl
      have z2 : W3.cell? ⟨g1, 2, none⟩ = some (.string ⟨#[]⟩) := hz.cell 2 rfl
      have z3 : W3.cell? ⟨g1, 3, none⟩ = some (.int .i64 0) := hz.cell 3 rfl
      have r0 : W3.cell? ⟨g, 0, none⟩ = some (.int .i64 0) := hg.cell 0 rfl
      have r1 : W3.cell? ⟨g, 1, none⟩ = some (.slice none 0 0) := hg.cell 1 rfl
      have r2 : W3.cell? ⟨g, 2, none⟩ = some (.string ⟨#[]⟩) := hg.cell 2 rfl
      have r3 : W3.cell? ⟨g, 3, none⟩ = some (.int .i64 0) := hg.cell 3 rfl
      have f0 : W3.frozen? ⟨g, 0, none⟩ = false := hg.frozen 0
      have f1 : W3.frozen? ⟨g, 1, none⟩ = false := hg.frozen 1
      have f2 : W3.frozen? ⟨g, 2, none⟩ = false := hg.frozen 2
      have f3 : W3.frozen? ⟨g, 3, none⟩ = false := hg.frozen 3
      go_wp2_with fail
      refine bodyPost_ret (v := .tuple #[.agg #[.int .i64 0, .slice none 0 0, .string ByteArray.empty, .int .i64 0], .int .i64 0, .int .i64 2]) (by simp [results, Tryd.results16, go_sem, r0, r1, r2, r3, f0, f1, f2, f3] <;> rfl) rfl ?_
      rw [E.out]
      exact DecOk.no (Sat.set4 hg).drop.drop.drop
    have D := hid_ (HD.out.trans (if_neg l1))
    have q1 : decide ((b.length : Int) < 5) = false := decide_eq_false (by omega)
    obtain ⟨x, hx⟩ : ∃ x, (b.drop 1).take 4 = x := ⟨_, rfl⟩
    have hxl : x.length = 4 := by rw [← hx, List.length_take, List.length_drop]; omega
    have hvx := hv.cut (lo := 1) (hi := 5) (by omega) (by omega)
    replace hvx : RdB W3 (.slice (some ⟨b0, o0 + 1, none⟩) 4 (c0 - 1)) x := by rw [← hx]; exact hvx W3 [_, _, _] h3
    have hb : 5 ≤ (b.length : Int) ∧ (b.length : Int) ≤ (c0 : Int) := by have := HC.out; omega
    have h4 := OwnB.nilI (t := 5) h3
    rw [hx] at D
    have HX := hid_ hxl
    clear HD l1 hx hxl
    go_wp2_with (at_builtin; refine wpList_append_b (w0 := w0) rfl _ _ 23 rfl rfl h4 rfl (slSrc hvx) x 4 rfl HX.out (by omega) ?_)
    intro a3 c3 w3 h5
    replace h5 := h5.swap
    clear h4 hvx y0 y1 y2 y3
    have y0 : w3.cell? ⟨g2, 0, none⟩ = some (.int .i64 1) := h5.cell 0 rfl
    have y1 : w3.cell? ⟨g2, 1, none⟩ = some (.slice none 0 0) := h5.cell 1 rfl
    have y2 : w3.cell? ⟨g2, 2, none⟩ = some (.string ⟨#[]⟩) := h5.cell 2 rfl
    have y3 : w3.cell? ⟨g2, 3, none⟩ = some (.int .i64 0) := h5.cell 3 rfl
    have p0 : w3.frozen? ⟨g2, 0, none⟩ = false := h5.frozen 0
    have p1 : w3.frozen? ⟨g2, 1, none⟩ = false := h5.frozen 1
    have p2 : w3.frozen? ⟨g2, 2, none⟩ = false := h5.frozen 2
    have p3 : w3.frozen? ⟨g2, 3, none⟩ = false := h5.frozen 3
    have hX := h5.set 1 (.slice a3 4 c3)
    obtain ⟨W4, hW4⟩ : ∃ W, w3.setCell ⟨g2, 1, none⟩ (.slice a3 4 c3) = W := ⟨_, rfl⟩
    rw [hW4] at hX
    have HW := hid_ hW4
    clear hW4
    go_upto_region 26 with fail
    rw [HW.out]
    clear HW y0 y1 y2 y3 p0 p1 p2 p3 h5
    by_cases l2 : b.length < 7
    · have E := hid_ (D.out.trans (if_pos l2))
      have q2 : decide ((b.length : Int) < 7) = true := decide_eq_true (by omega)
      clear l2 D
      have hz := Sat.front [_, _] hX
      have hg := Sat.front [_, _, _] hX
      have z0 : W4.cell? ⟨g1, 0, none⟩ = some (.int .i64 0) := hz.cell 0 rfl
      have z1 : W4.cell? ⟨g1, 1, none⟩ = some (.slice none 0 0) := hz.cell 1 rfl
      have z2 : W4.cell? ⟨g1, 2, none⟩ = some (.string ⟨#[]⟩) := hz.cell 2 rfl
      have z3 : W4.cell? ⟨g1, 3, none⟩ = some (.int .i64 0) := hz.cell 3 rfl
      have r0 : W4.cell? ⟨g, 0, none⟩ = some (.int .i64 0) := hg.cell 0 rfl
      have r1 : W4.cell? ⟨g, 1, none⟩ = some (.slice none 0 0) := hg.cell 1 rfl
      have r2 : W4.cell? ⟨g, 2, none⟩ = some (.string ⟨#[]⟩) := hg.cell 2 rfl
      have r3 : W4.cell? ⟨g, 3, none⟩ = some (.int .i64 0) := hg.cell 3 rfl
      have f0 : W4.frozen? ⟨g, 0, none⟩ = false := hg.frozen 0
      have f1 : W4.frozen? ⟨g, 1, none⟩ = false := hg.frozen 1
      have f2 : W4.frozen? ⟨g, 2, none⟩ = false := hg.frozen 2
      have f3 : W4.frozen? ⟨g, 3, none⟩ = false := hg.frozen 3
      go_wp2_with fail
      refine bodyPost_ret (v := .tuple #[.agg #[.int .i64 0, .slice none 0 0, .string ByteArray.empty, .int .i64 0], .int .i64 0, .int .i64 2]) (by simp [results, Tryd.results16, go_sem, r0, r1, r2, r3, f0, f1, f2, f3] <;> rfl) rfl ?_
      rw [E.out]
      exact DecOk.no (Sat.set4 hg).drop.drop.drop.drop
    have E := D.out.trans (if_neg l2)
    have q2 : decide ((b.length : Int) < 7) = false := decide_eq_false (by omega)
    clear D l2
    go_wp2_with fail
    refine (ref_High (i := 5) (n := 2) (by omega) rfl (by omega) (by omega) (hv.more [_, _, _, _]) (hX : Sat w0 W4 ([_, _, _, _] ++ L))).mono ?_
    rintro _ w5 ⟨rfl, h7⟩
    have hpl := highB_lt b (5) 2
    obtain ⟨P, hP⟩ : ∃ P, highB b (5) 2 = P := ⟨_, rfl⟩
    rw [hP] at hpl E ⊢
    have s7 : IntKind.i64.wrap (P : Int) = (P : Int) := i64_in (by omega) (by omega)
    have hg2 := h7
    have v0 : w5.cell? ⟨g2, 0, none⟩ = some (.int .i64 1) := hg2.cell 0 rfl
    have v1 : w5.cell? ⟨g2, 1, none⟩ = some (.slice a3 4 c3) := hg2.cell 1 rfl
    have v2 : w5.cell? ⟨g2, 2, none⟩ = some (.string ⟨#[]⟩) := hg2.cell 2 rfl
    have v3 : w5.cell? ⟨g2, 3, none⟩ = some (.int .i64 0) := hg2.cell 3 rfl
    have m0 : w5.frozen? ⟨g2, 0, none⟩ = false := hg2.frozen 0
    have m1 : w5.frozen? ⟨g2, 1, none⟩ = false := hg2.frozen 1
    have m2 : w5.frozen? ⟨g2, 2, none⟩ = false := hg2.frozen 2
    have m3 : w5.frozen? ⟨g2, 3, none⟩ = false := hg2.frozen 3
    have hX := h7.set 3 (.int .i64 P)
    obtain ⟨W6, hW6⟩ : ∃ W, w5.setCell ⟨g2, 3, none⟩ (.int .i64 P) = W := ⟨_, rfl⟩
    rw [hW6] at hX
    have HW := hid_ hW6
    clear hW6 hP hpl h7 hg2
    go_upto_region 29 with fail
    rw [HW.out]
    clear HW v0 v1 v2 v3 m0 m1 m2 m3
    have hg := Sat.front [_, _, _] hX
    have x0 : W6.cell? ⟨g2, 0, none⟩ = some (.int .i64 1) := hX.cell 0 rfl
    have x1 : W6.cell? ⟨g2, 1, none⟩ = some (.slice a3 4 c3) := hX.cell 1 rfl
    have x2 : W6.cell? ⟨g2, 2, none⟩ = some (.string ByteArray.empty) := hX.cell 2 rfl
    have x3 : W6.cell? ⟨g2, 3, none⟩ = some (.int .i64 P) := hX.cell 3 rfl
    have r0 : W6.cell? ⟨g, 0, none⟩ = some (.int .i64 0) := hg.cell 0 rfl
    have r1 : W6.cell? ⟨g, 1, none⟩ = some (.slice none 0 0) := hg.cell 1 rfl
    have r2 : W6.cell? ⟨g, 2, none⟩ = some (.string ⟨#[]⟩) := hg.cell 2 rfl
    have r3 : W6.cell? ⟨g, 3, none⟩ = some (.int .i64 0) := hg.cell 3 rfl
    have f0 : W6.frozen? ⟨g, 0, none⟩ = false := hg.frozen 0
    have f1 : W6.frozen? ⟨g, 1, none⟩ = false := hg.frozen 1
    have f2 : W6.frozen? ⟨g, 2, none⟩ = false := hg.frozen 2
    have f3 : W6.frozen? ⟨g, 3, none⟩ = false := hg.frozen 3
    go_wp2_with fail
    refine bodyPost_ret (v := .tuple #[.agg #[.int .i64 1, .slice a3 4 c3, .string ByteArray.empty, .int .i64 P], .int .i64 7, .int .i64 0]) (by simp [results, Tryd.results16, go_sem, r0, r1, r2, r3, f0, f1, f2, f3] <;> rfl) rfl ?_
    rw [E]
    have h9 := Sat.front [_, _] (Sat.set4 (y0 := .int .i64 1) (y1 := .slice a3 4 c3) (y2 := .string ⟨#[]⟩) (y3 := .int .i64 P) hg)
    refine ⟨a3, c3, ?_, ?_⟩
    · show _ = Ending.returned (.tuple #[.agg #[.int .i64 1, .slice a3 x.length c3, .string ByteArray.empty, .int .i64 P], .int .i64 7, .int .i64 0])
      rw [HX.out]
    · show Sat w0 _ (OwnB 5 (.slice a3 x.length c3) x :: L)
      rw [HX.out]
      exact h9.d2.d2.d2
  by_cases k4 : kd = 4
  · subst k4
    clear y00 y01 y02 y03
    replace h3 : Sat w0 W3 (Blk g2 (.cells #[.int .i64 4, .slice none 0 0, .string ⟨#[]⟩, .int .i64 0] 25 (0, 0)) :: _) := h3
    have HD : Hid (decA b = if b.length < 17 then (2, AdM.zero, 0) else if b.length < 19 then (2, AdM.zero, 0) else (0, ⟨4, (b.drop 1).take 16, ByteArray.empty, highB b 17 2⟩, 19)) := hid_ (decA_ip (k := 4) (n := 16) hpos HK.out (by omega))
    have y0 : W3.cell? ⟨g2, 0, none⟩ = some (.int .i64 4) := h3.cell 0 rfl
    have y1 : W3.cell? ⟨g2, 1, none⟩ = some (.slice none 0 0) := h3.cell 1 rfl
    have y2 : W3.cell? ⟨g2, 2, none⟩ = some (.string ⟨#[]⟩) := h3.cell 2 rfl
    have y3 : W3.cell? ⟨g2, 3, none⟩ = some (.int .i64 0) := h3.cell 3 rfl
    go_upto_region 19 with fail
    by_cases l1 : b.length < 17
    · have E := hid_ (HD.out.trans (if_pos l1))
      have q1 : decide ((b.length : Int) < 17) = true := decide_eq_true (by omega)
      clear l1 HD
      have hz := Sat.front [_] h3
      have hg := Sat.front [_, _] h3
      have z0 : W3.cell? ⟨g1, 0, none⟩ = some (.int .i64 0) := hz.cell 0 rfl
      have z1 : W3.cell? ⟨g1, 1, none⟩ = some (.slice none 0 0) := hz.cell 1 rfl
      have z2 : W3.cell? ⟨g1, 2, none⟩ = some (.string ⟨#[]⟩) := hz.cell 2 rfl
      have z3 : W3.cell? ⟨g1, 3, none⟩ = some (.int .i64 0) := hz.cell 3 rfl
      have r0 : W3.cell? ⟨g, 0, none⟩ = some (.int .i64 0) := hg.cell 0 rfl
      have r1 : W3.cell? ⟨g, 1, none⟩ = some (.slice none 0 0) := hg.cell 1 rfl
      have r2 : W3.cell? ⟨g, 2, none⟩ = some (.string ⟨#[]⟩) := hg.cell 2 rfl
      have r3 : W3.cell? ⟨g, 3, none⟩ = some (.int .i64 0) := hg.cell 3 rfl
      have f0 : W3.frozen? ⟨g, 0, none⟩ = false := hg.frozen 0
      have f1 : W3.frozen? ⟨g, 1, none⟩ = false := hg.frozen 1
      have f2 : W3.frozen? ⟨g, 2, none⟩ = false := hg.frozen 2
      have f3 : W3.frozen? ⟨g, 3, none⟩ = false := hg.frozen 3
      go_wp2_with fail
      refine bodyPost_ret (v := .tuple #[.agg #[.int .i64 0, .slice none 0 0, .string ByteArray.empty, .int .i64 0], .int .i64 0, .int .i64 2]) (by simp [results, Tryd.results16, go_sem, r0, r1, r2, r3, f0, f1, f2, f3] <;> rfl) rfl ?_
      rw [E.out]
      exact DecOk.no (Sat.set4 hg).drop.drop.drop
    have D := hid_ (HD.out.trans (if_neg l1))
    have q1 : decide ((b.length : Int) < 17) = false := decide_eq_false (by omega)
    obtain ⟨x, hx⟩ : ∃ x, (b.drop 1).take 16 = x := ⟨_, rfl⟩
    have hxl : x.length = 16 := by rw [← hx, List.length_take, List.length_drop]; omega
    have hvx := hv.cut (lo := 1) (hi := 17) (by omega) (by omega)
    replace hvx : RdB W3 (.slice (some ⟨b0, o0 + 1, none⟩) 16 (c0 - 1)) x := by rw [← hx]; exact hvx W3 [_, _, _] h3
    have hb : 17 ≤ (b.length : Int) ∧ (b.length : Int) ≤ (c0 : Int) := by have := HC.out; omega
    have h4 := OwnB.nilI (t := 5) h3
    rw [hx] at D
    have HX := hid_ hxl
    clear HD l1 hx hxl
    go_wp2_with (at_builtin; refine wpList_append_b (w0 := w0) rfl _ _ 23 rfl rfl h4 rfl (slSrc hvx) x 16 rfl HX.out (by omega) ?_)
    intro a3 c3 w3 h5
    replace h5 := h5.swap
    clear h4 hvx y0 y1 y2 y3
    have y0 : w3.cell? ⟨g2, 0, none⟩ = some (.int .i64 4) := h5.cell 0 rfl
    have y1 : w3.cell? ⟨g2, 1, none⟩ = some (.slice none 0 0) := h5.cell 1 rfl
    have y2 : w3.cell? ⟨g2, 2, none⟩ = some (.string ⟨#[]⟩) := h5.cell 2 rfl
    have y3 : w3.cell? ⟨g2, 3, none⟩ = some (.int .i64 0) := h5.cell 3 rfl
    have p0 : w3.frozen? ⟨g2, 0, none⟩ = false := h5.frozen 0
    have p1 : w3.frozen? ⟨g2, 1, none⟩ = false := h5.frozen 1
    have p2 : w3.frozen? ⟨g2, 2, none⟩ = false := h5.frozen 2
    have p3 : w3.frozen? ⟨g2, 3, none⟩ = false := h5.frozen 3
    have hX := h5.set 1 (.slice a3 16 c3)
    obtain ⟨W4, hW4⟩ : ∃ W, w3.setCell ⟨g2, 1, none⟩ (.slice a3 16 c3) = W := ⟨_, rfl⟩
    rw [hW4] at hX
    have HW := hid_ hW4
    clear hW4
    go_upto_region 26 with fail
    rw [HW.out]
    clear HW y0 y1 y2 y3 p0 p1 p2 p3 h5
    by_cases l2 : b.length < 19
    · have E := hid_ (D.out.trans (if_pos l2))
      have q2 : decide ((b.length : Int) < 19) = true := decide_eq_true (by omega)
      clear l2 D
      have hz := Sat.front [_, _] hX
      have hg := Sat.front [_, _, _] hX
      have z0 : W4.cell? ⟨g1, 0, none⟩ = some (.int .i64 0) := hz.cell 0 rfl
      have z1 : W4.cell? ⟨g1, 1, none⟩ = some (.slice none 0 0) := hz.cell 1 rfl
      have z2 : W4.cell? ⟨g1, 2, none⟩ = some (.string ⟨#[]⟩) := hz.cell 2 rfl
      have z3 : W4.cell? ⟨g1, 3, none⟩ = some (.int .i64 0) := hz.cell 3 rfl
      have r0 : W4.cell? ⟨g, 0, none⟩ = some (.int .i64 0) := hg.cell 0 rfl
      have r1 : W4.cell? ⟨g, 1, none⟩ = some (.slice none 0 0) := hg.cell 1 rfl
      have r2 : W4.cell? ⟨g, 2, none⟩ = some (.string ⟨#[]⟩) := hg.cell 2 rfl
      have r3 : W4.cell? ⟨g, 3, none⟩ = some (.int .i64 0) := hg.cell 3 rfl
      have f0 : W4.frozen? ⟨g, 0, none⟩ = false := hg.frozen 0
      have f1 : W4.frozen? ⟨g, 1, none⟩ = false := hg.frozen 1
      have f2 : W4.frozen? ⟨g, 2, none⟩ = false := hg.frozen 2
      have f3 : W4.frozen? ⟨g, 3, none⟩ = false := hg.frozen 3
      go_wp2_with fail
      refine bodyPost_ret (v := .tuple #[.agg #[.int .i64 0, .slice none 0 0, .string ByteArray.empty, .int .i64 0], .int .i64 0, .int .i64 2]) (by simp [results, Tryd.results16, go_sem, r0, r1, r2, r3, f0, f1, f2, f3] <;> rfl) rfl ?_
      rw [E.out]
      exact DecOk.no (Sat.set4 hg).drop.drop.drop.drop
    have E := D.out.trans (if_neg l2)
    have q2 : decide ((b.length : Int) < 19) = false := decide_eq_false (by omega)
    clear D l2
    go_wp2_with fail
    refine (ref_High (i := 17) (n := 2) (by omega) rfl (by omega) (by omega) (hv.more [_, _, _, _]) (hX : Sat w0 W4 ([_, _, _, _] ++ L))).mono ?_
    rintro _ w5 ⟨rfl, h7⟩
    have hpl := highB_lt b (17) 2
    obtain ⟨P, hP⟩ : ∃ P, highB b (17) 2 = P := ⟨_, rfl⟩
    rw [hP] at hpl E ⊢
    have s7 : IntKind.i64.wrap (P : Int) = (P : Int) := i64_in (by omega) (by omega)
    have hg2 := h7
    have v0 : w5.cell? ⟨g2, 0, none⟩ = some (.int .i64 4) := hg2.cell 0 rfl
    have v1 : w5.cell? ⟨g2, 1, none⟩ = some (.slice a3 16 c3) := hg2.cell 1 rfl
    have v2 : w5.cell? ⟨g2, 2, none⟩ = some (.string ⟨#[]⟩) := hg2.cell 2 rfl
    have v3 : w5.cell? ⟨g2, 3, none⟩ = some (.int .i64 0) := hg2.cell 3 rfl
    have m0 : w5.frozen? ⟨g2, 0, none⟩ = false := hg2.frozen 0
    have m1 : w5.frozen? ⟨g2, 1, none⟩ = false := hg2.frozen 1
    have m2 : w5.frozen? ⟨g2, 2, none⟩ = false := hg2.frozen 2
    have m3 : w5.frozen? ⟨g2, 3, none⟩ = false := hg2.frozen 3
    have hX := h7.set 3 (.int .i64 P)
    obtain ⟨W6, hW6⟩ : ∃ W, w5.setCell ⟨g2, 3, none⟩ (.int .i64 P) = W := ⟨_, rfl⟩
    rw [hW6] at hX
    have HW := hid_ hW6
    clear hW6 hP hpl h7 hg2
    go_upto_region 29 with fail
    rw [HW.out]
    clear HW v0 v1 v2 v3 m0 m1 m2 m3
    have hg := Sat.front [_, _, _] hX
    have x0 : W6.cell? ⟨g2, 0, none⟩ = some (.int .i64 4) := hX.cell 0 rfl
    have x1 : W6.cell? ⟨g2, 1, none⟩ = some (.slice a3 16 c3) := hX.cell 1 rfl
    have x2 : W6.cell? ⟨g2, 2, none⟩ = some (.string ByteArray.empty) := hX.cell 2 rfl
    have x3 : W6.cell? ⟨g2, 3, none⟩ = some (.int .i64 P) := hX.cell 3 rfl
    have r0 : W6.cell? ⟨g, 0, none⟩ = some (.int .i64 0) := hg.cell 0 rfl
    have r1 : W6.cell? ⟨g, 1, none⟩ = some (.slice none 0 0) := hg.cell 1 rfl
    have r2 : W6.cell? ⟨g, 2, none⟩ = some (.string ⟨#[]⟩) := hg.cell 2 rfl
    have r3 : W6.cell? ⟨g, 3, none⟩ = some (.int .i64 0) := hg.cell 3 rfl
    have f0 : W6.frozen? ⟨g, 0, none⟩ = false := hg.frozen 0
    have f1 : W6.frozen? ⟨g, 1, none⟩ = false := hg.frozen 1
    have f2 : W6.frozen? ⟨g, 2, none⟩ = false := hg.frozen 2
    have f3 : W6.frozen? ⟨g, 3, none⟩ = false := hg.frozen 3
    go_wp2_with fail
    refine bodyPost_ret (v := .tuple #[.agg #[.int .i64 4, .slice a3 16 c3, .string ByteArray.empty, .int .i64 P], .int .i64 19, .int .i64 0]) (by simp [results, Tryd.results16, go_sem, r0, r1, r2, r3, f0, f1, f2, f3] <;> rfl) rfl ?_
    rw [E]
    have h9 := Sat.front [_, _] (Sat.set4 (y0 := .int .i64 4) (y1 := .slice a3 16 c3) (y2 := .string ⟨#[]⟩) (y3 := .int .i64 P) hg)
    refine ⟨a3, c3, ?_, ?_⟩
    · show _ = Ending.returned (.tuple #[.agg #[.int .i64 4, .slice a3 x.length c3, .string ByteArray.empty, .int .i64 P], .int .i64 19, .int .i64 0])
      rw [HX.out]
    · show Sat w0 _ (OwnB 5 (.slice a3 x.length c3) x :: L)
      rw [HX.out]
      exact h9.d2.d2.d2
  by_cases k3 : kd = 3
  · subst k3
    clear y00 y01 y02 y03
    replace h3 : Sat w0 W3 (Blk g2 (.cells #[.int .i64 3, .slice none 0 0, .string ⟨#[]⟩, .int .i64 0] 25 (0, 0)) :: _) := h3
    have y0 : W3.cell? ⟨g2, 0, none⟩ = some (.int .i64 3) := h3.cell 0 rfl
    have y1 : W3.cell? ⟨g2, 1, none⟩ = some (.slice none 0 0) := h3.cell 1 rfl
    have y2 : W3.cell? ⟨g2, 2, none⟩ = some (.string ⟨#[]⟩) := h3.cell 2 rfl
    have y3 : W3.cell? ⟨g2, 3, none⟩ = some (.int .i64 0) := h3.cell 3 rfl
    by_cases l0 : b.length < 2
    · have E := hid_ (decA_err (e := 2) hpos (by unfold lensB; rw [HK.out, if_neg (by decide), if_neg (by decide), if_pos rfl, if_pos l0]) (by decide))
      have q1 : decide ((b.length : Int) < 2) = true := decide_eq_true (by omega)
      clear l0
      have hz := Sat.front [_] h3
      have hg := Sat.front [_, _] h3
      have z0 : W3.cell? ⟨g1, 0, none⟩ = some (.int .i64 0) := hz.cell 0 rfl
      have z1 : W3.cell? ⟨g1, 1, none⟩ = some (.slice none 0 0) := hz.cell 1 rfl
      have z2 : W3.cell? ⟨g1, 2, none⟩ = some (.string ⟨#[]⟩) := hz.cell 2 rfl
      have z3 : W3.cell? ⟨g1, 3, none⟩ = some (.int .i64 0) := hz.cell 3 rfl
      have r0 : W3.cell? ⟨g, 0, none⟩ = some (.int .i64 0) := hg.cell 0 rfl
      have r1 : W3.cell? ⟨g, 1, none⟩ = some (.slice none 0 0) := hg.cell 1 rfl
      have r2 : W3.cell? ⟨g, 2, none⟩ = some (.string ⟨#[]⟩) := hg.cell 2 rfl
      have r3 : W3.cell? ⟨g, 3, none⟩ = some (.int .i64 0) := hg.cell 3 rfl
      have f0 : W3.frozen? ⟨g, 0, none⟩ = false := hg.frozen 0
      have f1 : W3.frozen? ⟨g, 1, none⟩ = false := hg.frozen 1
      have f2 : W3.frozen? ⟨g, 2, none⟩ = false := hg.frozen 2
      have f3 : W3.frozen? ⟨g, 3, none⟩ = false := hg.frozen 3
      go_wp2_with fail
      refine bodyPost_ret (v := .tuple #[.agg #[.int .i64 0, .slice none 0 0, .string ByteArray.empty, .int .i64 0], .int .i64 0, .int .i64 2]) (by simp [results, Tryd.results16, go_sem, r0, r1, r2, r3, f0, f1, f2, f3] <;> rfl) rfl ?_
      rw [E.out]
      exact DecOk.no (Sat.set4 hg).drop.drop.drop
    have q1 : decide ((b.length : Int) < 2) = false := decide_eq_false (by omega)
    have l2 : 2 ≤ b.length := by omega
    obtain ⟨n, hn⟩ : ∃ n, (b.getD 1 0).toNat = n := ⟨_, rfl⟩
    have hnb : n < 256 := by rw [← hn]; exact UInt8.toNat_lt _
    have e1 : W3.cell? ⟨b0, o0 + 1, none⟩ = some (.int .u8 (n : Int)) := by rw [← hn]; exact hv.cell (L' := [_, _, _]) (i := 1) h3 (by omega)
    have s1 : IntKind.i64.wrap (n : Int) = (n : Int) := i64_in (by omega) (by omega)
    have z1 : (1 : Int) < (b.length : Int) := by omega
    have HN := hid_ hn
    clear hn l0
    by_cases n0 : n = 0
    · have E := hid_ (decA_err (e := 3) hpos (by unfold lensB; rw [HK.out, HN.out, if_neg (by decide), if_neg (by decide), if_pos rfl, if_neg (by omega), if_pos (.inl n0)]) (by decide))
      have q2 : decide ((n : Int) < 1) = true := decide_eq_true (by omega)
      clear n0
      have hz := Sat.front [_] h3
      have hg := Sat.front [_, _] h3
      have z0 : W3.cell? ⟨g1, 0, none⟩ = some (.int .i64 0) := hz.cell 0 rfl
      have z1 : W3.cell? ⟨g1, 1, none⟩ = some (.slice none 0 0) := hz.cell 1 rfl
      have z2 : W3.cell? ⟨g1, 2, none⟩ = some (.string ⟨#[]⟩) := hz.cell 2 rfl
      have z3 : W3.cell? ⟨g1, 3, none⟩ = some (.int .i64 0) := hz.cell 3 rfl
      have r0 : W3.cell? ⟨g, 0, none⟩ = some (.int .i64 0) := hg.cell 0 rfl
      have r1 : W3.cell? ⟨g, 1, none⟩ = some (.slice none 0 0) := hg.cell 1 rfl
      have r2 : W3.cell? ⟨g, 2, none⟩ = some (.string ⟨#[]⟩) := hg.cell 2 rfl
      have r3 : W3.cell? ⟨g, 3, none⟩ = some (.int .i64 0) := hg.cell 3 rfl
      have f0 : W3.frozen? ⟨g, 0, none⟩ = false := hg.frozen 0
      have f1 : W3.frozen? ⟨g, 1, none⟩ = false := hg.frozen 1
      have f2 : W3.frozen? ⟨g, 2, none⟩ = false := hg.frozen 2
      have f3 : W3.frozen? ⟨g, 3, none⟩ = false := hg.frozen 3
      go_wp2_with fail
      refine bodyPost_ret (v := .tuple #[.agg #[.int .i64 0, .slice none 0 0, .string ByteArray.empty, .int .i64 0], .int .i64 0, .int .i64 3]) (by simp [results, Tryd.results16, go_sem, r0, r1, r2, r3, f0, f1, f2, f3] <;> rfl) rfl ?_
      rw [E.out]
      exact DecOk.no (Sat.set4 hg).drop.drop.drop
    have q2 : decide ((n : Int) < 1) = false := decide_eq_false (by omega)
    by_cases n1 : 64 < n
    · have E := hid_ (decA_err (e := 3) hpos (by unfold lensB; rw [HK.out, HN.out, if_neg (by decide), if_neg (by decide), if_pos rfl, if_neg (by omega), if_pos (.inr n1)]) (by decide))
      have q3 : decide (64 < (n : Int)) = true := decide_eq_true (by omega)
      clear n1 n0
      have hz := Sat.front [_] h3
      have hg := Sat.front [_, _] h3
      have z0 : W3.cell? ⟨g1, 0, none⟩ = some (.int .i64 0) := hz.cell 0 rfl
      have z1 : W3.cell? ⟨g1, 1, none⟩ = some (.slice none 0 0) := hz.cell 1 rfl
      have z2 : W3.cell? ⟨g1, 2, none⟩ = some (.string ⟨#[]⟩) := hz.cell 2 rfl
      have z3 : W3.cell? ⟨g1, 3, none⟩ = some (.int .i64 0) := hz.cell 3 rfl
      have r0 : W3.cell? ⟨g, 0, none⟩ = some (.int .i64 0) := hg.cell 0 rfl
      have r1 : W3.cell? ⟨g, 1, none⟩ = some (.slice none 0 0) := hg.cell 1 rfl
      have r2 : W3.cell? ⟨g, 2, none⟩ = some (.string ⟨#[]⟩) := hg.cell 2 rfl
      have r3 : W3.cell? ⟨g, 3, none⟩ = some (.int .i64 0) := hg.cell 3 rfl
      have f0 : W3.frozen? ⟨g, 0, none⟩ = false := hg.frozen 0
      have f1 : W3.frozen? ⟨g, 1, none⟩ = false := hg.frozen 1
      have f2 : W3.frozen? ⟨g, 2, none⟩ = false := hg.frozen 2
      have f3 : W3.frozen? ⟨g, 3, none⟩ = false := hg.frozen 3
      go_wp2_with fail
      refine bodyPost_ret (v := .tuple #[.agg #[.int .i64 0, .slice none 0 0, .string ByteArray.empty, .int .i64 0], .int .i64 0, .int .i64 3]) (by simp [results, Tryd.results16, go_sem, r0, r1, r2, r3, f0, f1, f2, f3] <;> rfl) rfl ?_
      rw [E.out]
      exact DecOk.no (Sat.set4 hg).drop.drop.drop
    have q3 : decide (64 < (n : Int)) = false := decide_eq_false (by omega)
    have HD := hid_ (decA_name l2 HK.out HN.out (by omega) (by omega))
    have hb : 1 ≤ n ∧ n ≤ 64 := by omega
    clear n0 n1
    go_upto_region 19 with fail
    clear e1 q2 q3
    by_cases l1 : b.length < 2 + n
    · have E := hid_ (HD.out.trans (if_pos l1))
      have q1 : decide ((b.length : Int) < 2 + (n : Int)) = true := decide_eq_true (by omega)
      clear l1 HD
      have hz := Sat.front [_] h3
      have hg := Sat.front [_, _] h3
      have z0 : W3.cell? ⟨g1, 0, none⟩ = some (.int .i64 0) := hz.cell 0 rfl
      have z1 : W3.cell? ⟨g1, 1, none⟩ = some (.slice none 0 0) := hz.cell 1 rfl
      have z2 : W3.cell? ⟨g1, 2, none⟩ = some (.string ⟨#[]⟩) := hz.cell 2 rfl
      have z3 : W3.cell? ⟨g1, 3, none⟩ = some (.int .i64 0) := hz.cell 3 rfl
      have r0 : W3.cell? ⟨g, 0, none⟩ = some (.int .i64 0) := hg.cell 0 rfl
      have r1 : W3.cell? ⟨g, 1, none⟩ = some (.slice none 0 0) := hg.cell 1 rfl
      have r2 : W3.cell? ⟨g, 2, none⟩ = some (.string ⟨#[]⟩) := hg.cell 2 rfl
      have r3 : W3.cell? ⟨g, 3, none⟩ = some (.int .i64 0) := hg.cell 3 rfl
      have f0 : W3.frozen? ⟨g, 0, none⟩ = false := hg.frozen 0
      have f1 : W3.frozen? ⟨g, 1, none⟩ = false := hg.frozen 1
      have f2 : W3.frozen? ⟨g, 2, none⟩ = false := hg.frozen 2
      have f3 : W3.frozen? ⟨g, 3, none⟩ = false := hg.frozen 3
      go_wp2_with fail
      refine bodyPost_ret (v := .tuple #[.agg #[.int .i64 0, .slice none 0 0, .string ByteArray.empty, .int .i64 0], .int .i64 0, .int .i64 2]) (by simp [results, Tryd.results16, go_sem, r0, r1, r2, r3, f0, f1, f2, f3] <;> rfl) rfl ?_
      rw [E.out]
      exact DecOk.no (Sat.set4 hg).drop.drop.drop
    have D := hid_ (HD.out.trans (if_neg l1))
    have q1 : decide ((b.length : Int) < 2 + (n : Int)) = false := decide_eq_false (by omega)
    obtain ⟨x, hx⟩ : ∃ x, (b.drop 2).take n = x := ⟨_, rfl⟩
    have hxl : x.length = n := by rw [← hx, List.length_take, List.length_drop]; omega
    have hvx := hv.cut (lo := 2) (hi := 2 + n) (by omega) (by omega)
    rw [show 2 + n - 2 = n by omega, hx] at hvx
    have hcv := conv_rd Tryd.underlying23 Tryd.underlying5 Tryd.underlying9 (hvx W3 [_, _, _] h3)
    have hb2 : 2 + (n : Int) ≤ (b.length : Int) ∧ (b.length : Int) ≤ (c0 : Int) := by have := HC.out; omega
    have t1 : (2 + (n : Int)).toNat = 2 + n := by omega
    have t2 : 2 + n - 2 = n := by omega
    have hsz : (strOf x).size ≤ maxLen := by rw [← size_data, strOf_toList]; unfold maxLen; omega
    rw [hx] at D
    have HX := hid_ hxl
    have HSZ := hid_ hsz
    have HT : Hid ((strOf x).data.toList = x) := hid_ (strOf_toList x)
    clear HD l1 hx hxl hvx hsz
    have p2 : W3.frozen? ⟨g2, 2, none⟩ = false := h3.frozen 2
    have hX := h3.set 2 (.string (strOf x))
    obtain ⟨W4, hW4⟩ : ∃ W, W3.setCell ⟨g2, 2, none⟩ (.string (strOf x)) = W := ⟨_, rfl⟩
    rw [hW4] at hX
    have HW := hid_ hW4
    clear hW4
    go_upto_region 23 with fail
    rw [HW.out]
    clear HW y0 y1 y2 y3 p2 h3 hcv
    replace hX : Sat w0 W4 (Blk g2 (.cells #[.int .i64 3, .slice none 0 0, .string (strOf x), .int .i64 0] 25 (0, 0)) :: _) := hX
    have y0 : W4.cell? ⟨g2, 0, none⟩ = some (.int .i64 3) := hX.cell 0 rfl
    have y1 : W4.cell? ⟨g2, 1, none⟩ = some (.slice none 0 0) := hX.cell 1 rfl
    have y2 : W4.cell? ⟨g2, 2, none⟩ = some (.string (strOf x)) := hX.cell 2 rfl
    have y3 : W4.cell? ⟨g2, 3, none⟩ = some (.int .i64 0) := hX.cell 3 rfl
    go_wp2_with fail
    refine (ref_mayName _ HSZ.out).mono ?_
    rintro _ _ ⟨rfl, rfl⟩
    rw [HT.out]
    obtain ⟨ok, hok⟩ : ∃ ok, nameOk x = ok := ⟨_, rfl⟩
    rw [hok] at D ⊢
    clear hok
    cases ok
    · have E := hid_ (D.out.trans (if_pos rfl))
      clear D
      have hz := Sat.front [_] hX
      have hg := Sat.front [_, _] hX
      have z0 : W4.cell? ⟨g1, 0, none⟩ = some (.int .i64 0) := hz.cell 0 rfl
      have z1 : W4.cell? ⟨g1, 1, none⟩ = some (.slice none 0 0) := hz.cell 1 rfl
      have z2 : W4.cell? ⟨g1, 2, none⟩ = some (.string ⟨#[]⟩) := hz.cell 2 rfl
      have z3 : W4.cell? ⟨g1, 3, none⟩ = some (.int .i64 0) := hz.cell 3 rfl
      have r0 : W4.cell? ⟨g, 0, none⟩ = some (.int .i64 0) := hg.cell 0 rfl
      have r1 : W4.cell? ⟨g, 1, none⟩ = some (.slice none 0 0) := hg.cell 1 rfl
      have r2 : W4.cell? ⟨g, 2, none⟩ = some (.string ⟨#[]⟩) := hg.cell 2 rfl
      have r3 : W4.cell? ⟨g, 3, none⟩ = some (.int .i64 0) := hg.cell 3 rfl
      have f0 : W4.frozen? ⟨g, 0, none⟩ = false := hg.frozen 0
      have f1 : W4.frozen? ⟨g, 1, none⟩ = false := hg.frozen 1
      have f2 : W4.frozen? ⟨g, 2, none⟩ = false := hg.frozen 2
      have f3 : W4.frozen? ⟨g, 3, none⟩ = false := hg.frozen 3
      go_wp2_with fail
      refine bodyPost_ret (v := .tuple #[.agg #[.int .i64 0, .slice none 0 0, .string ByteArray.empty, .int .i64 0], .int .i64 0, .int .i64 3]) (by simp [results, Tryd.results16, go_sem, r0, r1, r2, r3, f0, f1, f2, f3] <;> rfl) rfl ?_
      rw [E.out]
      exact DecOk.no (Sat.set4 hg).drop.drop.drop
    replace D := hid_ (D.out.trans (if_neg (by decide)))
    go_upto_region 26 with fail
    clear y0 y1 y2 y3
    by_cases l2 : b.length < 2 + n + 2
    · have E := hid_ (D.out.trans (if_pos l2))
      have q2 : decide ((b.length : Int) < 2 + (n : Int) + 2) = true := decide_eq_true (by omega)
      clear l2 D
      have hz := Sat.front [_] hX
      have hg := Sat.front [_, _] hX
      have z0 : W4.cell? ⟨g1, 0, none⟩ = some (.int .i64 0) := hz.cell 0 rfl
      have z1 : W4.cell? ⟨g1, 1, none⟩ = some (.slice none 0 0) := hz.cell 1 rfl
      have z2 : W4.cell? ⟨g1, 2, none⟩ = some (.string ⟨#[]⟩) := hz.cell 2 rfl
      have z3 : W4.cell? ⟨g1, 3, none⟩ = some (.int .i64 0) := hz.cell 3 rfl
      have r0 : W4.cell? ⟨g, 0, none⟩ = some (.int .i64 0) := hg.cell 0 rfl
      have r1 : W4.cell? ⟨g, 1, none⟩ = some (.slice none 0 0) := hg.cell 1 rfl
      have r2 : W4.cell? ⟨g, 2, none⟩ = some (.string ⟨#[]⟩) := hg.cell 2 rfl
      have r3 : W4.cell? ⟨g, 3, none⟩ = some (.int .i64 0) := hg.cell 3 rfl
      have f0 : W4.frozen? ⟨g, 0, none⟩ = false := hg.frozen 0
      have f1 : W4.frozen? ⟨g, 1, none⟩ = false := hg.frozen 1
      have f2 : W4.frozen? ⟨g, 2, none⟩ = false := hg.frozen 2
      have f3 : W4.frozen? ⟨g, 3, none⟩ = false := hg.frozen 3
      go_wp2_with fail
      refine bodyPost_ret (v := .tuple #[.agg #[.int .i64 0, .slice none 0 0, .string ByteArray.empty, .int .i64 0], .int .i64 0, .int .i64 2]) (by simp [results, Tryd.results16, go_sem, r0, r1, r2, r3, f0, f1, f2, f3] <;> rfl) rfl ?_
      rw [E.out]
      exact DecOk.no (Sat.set4 hg).drop.drop.drop
    have E := D.out.trans (if_neg l2)
    have q2 : decide ((b.length : Int) < 2 + (n : Int) + 2) = false := decide_eq_false (by omega)
    clear D l2
    go_wp2_with fail
    refine (ref_High (i := 2 + n) (n := 2) (by omega) rfl (by omega) (by omega) (hv.more [_, _, _]) (hX : Sat w0 W4 ([_, _, _] ++ L))).mono ?_
    rintro _ w5 ⟨rfl, h7⟩
    have hpl := highB_lt b (2 + n) 2
    obtain ⟨P, hP⟩ : ∃ P, highB b (2 + n) 2 = P := ⟨_, rfl⟩
    rw [hP] at hpl E ⊢
    have s7 : IntKind.i64.wrap (P : Int) = (P : Int) := i64_in (by omega) (by omega)
    have hg2 := h7
    have v0 : w5.cell? ⟨g2, 0, none⟩ = some (.int .i64 3) := hg2.cell 0 rfl
    have v1 : w5.cell? ⟨g2, 1, none⟩ = some (.slice none 0 0) := hg2.cell 1 rfl
    have v2 : w5.cell? ⟨g2, 2, none⟩ = some (.string (strOf x)) := hg2.cell 2 rfl
    have v3 : w5.cell? ⟨g2, 3, none⟩ = some (.int .i64 0) := hg2.cell 3 rfl
    have m0 : w5.frozen? ⟨g2, 0, none⟩ = false := hg2.frozen 0
    have m1 : w5.frozen? ⟨g2, 1, none⟩ = false := hg2.frozen 1
    have m2 : w5.frozen? ⟨g2, 2, none⟩ = false := hg2.frozen 2
    have m3 : w5.frozen? ⟨g2, 3, none⟩ = false := hg2.frozen 3
    have hX := h7.set 3 (.int .i64 P)
    obtain ⟨W6, hW6⟩ : ∃ W, w5.setCell ⟨g2, 3, none⟩ (.int .i64 P) = W := ⟨_, rfl⟩
    rw [hW6] at hX
    have HW := hid_ hW6
    clear hW6 hP hpl h7 hg2
    go_upto_region 29 with fail
    rw [HW.out]
    clear HW v0 v1 v2 v3 m0 m1 m2 m3
    have hg := Sat.front [_, _] hX
    have x0 : W6.cell? ⟨g2, 0, none⟩ = some (.int .i64 3) := hX.cell 0 rfl
    have x1 : W6.cell? ⟨g2, 1, none⟩ = some (.slice none 0 0) := hX.cell 1 rfl
    have x2 : W6.cell? ⟨g2, 2, none⟩ = some (.string (strOf x)) := hX.cell 2 rfl
    have x3 : W6.cell? ⟨g2, 3, none⟩ = some (.int .i64 P) := hX.cell 3 rfl
    have r0 : W6.cell? ⟨g, 0, none⟩ = some (.int .i64 0) := hg.cell 0 rfl
    have r1 : W6.cell? ⟨g, 1, none⟩ = some (.slice none 0 0) := hg.cell 1 rfl
    have r2 : W6.cell? ⟨g, 2, none⟩ = some (.string ⟨#[]⟩) := hg.cell 2 rfl
    have r3 : W6.cell? ⟨g, 3, none⟩ = some (.int .i64 0) := hg.cell 3 rfl
    have f0 : W6.frozen? ⟨g, 0, none⟩ = false := hg.frozen 0
    have f1 : W6.frozen? ⟨g, 1, none⟩ = false := hg.frozen 1
    have f2 : W6.frozen? ⟨g, 2, none⟩ = false := hg.frozen 2
    have f3 : W6.frozen? ⟨g, 3, none⟩ = false := hg.frozen 3
    go_wp2_with fail
    refine bodyPost_ret (v := .tuple #[.agg #[.int .i64 3, .slice none 0 0, .string (strOf x), .int .i64 P], .int .i64 (2 + n + 2), .int .i64 0]) (by simp [results, Tryd.results16, go_sem, r0, r1, r2, r3, f0, f1, f2, f3] <;> rfl) rfl ?_
    rw [E]
    have h9 := Sat.set4 (y0 := .int .i64 3) (y1 := .slice none 0 0) (y2 := .string (strOf x)) (y3 := .int .i64 P) hg
    refine ⟨none, 0, ?_, ?_⟩
    · show _ = Ending.returned (.tuple #[.agg #[.int .i64 3, .slice none 0 0, .string (strOf x), .int .i64 P], .int .i64 ((2 + n + 2 : Nat) : Int), .int .i64 0])
      rw [show ((2 + n + 2 : Nat) : Int) = 2 + n + 2 by omega]
    · exact OwnB.nilI h9.drop.drop.drop
  have E := hid_ (decA_err (e := 3) hpos (by unfold lensB; rw [HK.out, if_neg k1, if_neg k4, if_neg k3]) (by decide))
  have q1 : ((kd : Int) == 1) = false := by rw [beq_eq_false_iff_ne]; omega
  have q2 : ((kd : Int) == 4) = false := by rw [beq_eq_false_iff_ne]; omega
  have q3 : ((kd : Int) == 3) = false := by rw [beq_eq_false_iff_ne]; omega
  clear k1 k3 k4
  have hz := Sat.front [_] h3
  have hg := Sat.front [_, _] h3
  have z0 : W3.cell? ⟨g1, 0, none⟩ = some (.int .i64 0) := hz.cell 0 rfl
  have z1 : W3.cell? ⟨g1, 1, none⟩ = some (.slice none 0 0) := hz.cell 1 rfl
  have z2 : W3.cell? ⟨g1, 2, none⟩ = some (.string ⟨#[]⟩) := hz.cell 2 rfl
  have z3 : W3.cell? ⟨g1, 3, none⟩ = some (.int .i64 0) := hz.cell 3 rfl
  have r0 : W3.cell? ⟨g, 0, none⟩ = some (.int .i64 0) := hg.cell 0 rfl
  have r1 : W3.cell? ⟨g, 1, none⟩ = some (.slice none 0 0) := hg.cell 1 rfl
  have r2 : W3.cell? ⟨g, 2, none⟩ = some (.string ⟨#[]⟩) := hg.cell 2 rfl
  have r3 : W3.cell? ⟨g, 3, none⟩ = some (.int .i64 0) := hg.cell 3 rfl
  have f0 : W3.frozen? ⟨g, 0, none⟩ = false := hg.frozen 0
  have f1 : W3.frozen? ⟨g, 1, none⟩ = false := hg.frozen 1
  have f2 : W3.frozen? ⟨g, 2, none⟩ = false := hg.frozen 2
  have f3 : W3.frozen? ⟨g, 3, none⟩ = false := hg.frozen 3
  go_wp2_with fail
  refine bodyPost_ret (v := .tuple #[.agg #[.int .i64 0, .slice none 0 0, .string ByteArray.empty, .int .i64 0], .int .i64 0, .int .i64 3]) (by simp [results, Tryd.results16, go_sem, r0, r1, r2, r3, f0, f1, f2, f3] <;> rfl) rfl ?_
  rw [E.out]
  exact DecOk.no (Sat.set4 hg).drop.drop.drop
end
end Go.Proofs.YtanihjibjjpdbaaDoor
