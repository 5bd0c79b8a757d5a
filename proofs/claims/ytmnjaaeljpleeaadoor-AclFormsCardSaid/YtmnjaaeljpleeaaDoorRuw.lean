/- A rule's text: acl.Text, walked (printed by gen_rut.py). -/
import Derived.Deep.RegionHeld3
import Derived.Deep.RegionLaw
import Derived.Deep.DeepCutAuto
import Derived.BigQuiet
import Derived.Test.YtmnjaaeljpleeaaDoorRut
namespace Go.Proofs.YtmnjaaeljpleeaaDoor
open Go Go.RowKit
set_option linter.unusedVariables false
set_option linter.unusedSimpArgs false

def txtP (r : RuleM) : List UInt8 := if r.allow then [97, 108, 108, 111, 119, 32] else [100, 101, 110, 121, 32]
def txtB (r : RuleM) : List UInt8 := if r.kind = 0 then [97, 110, 121] else if r.kind = 1 then digL r.net ++ [47] ++ Lib.itoa r.bits else [46] ++ r.name.data.toList
/-- A rule's text. -/
def txtR (r : RuleM) : List UInt8 := if r.may then txtP r ++ txtB r ++ [32] ++ Lib.itoa r.low ++ [45] ++ Lib.itoa r.high else []
theorem strOf_lit (l : List UInt8) : (⟨l.toArray⟩ : ByteArray) = strOf l := rfl
theorem strOf_name (s : ByteArray) : s = strOf s.data.toList := (strOf_data s).symm
theorem RuleM.may_low {r : RuleM} (h : r.may = true) : 0 ≤ r.low ∧ r.low ≤ r.high ∧ r.high ≤ 65535 := by
  unfold RuleM.may at h
  simp only [Bool.and_eq_true, decide_eq_true_eq] at h
  omega
theorem RuleM.may_bits {r : RuleM} (h : r.may = true) (hk : r.kind = 1) : 0 ≤ r.bits ∧ r.bits ≤ 128 ∧ r.net.length ≤ 16 := by
  unfold RuleM.may RuleM.kindB at h
  simp only [Bool.and_eq_true, decide_eq_true_eq] at h
  obtain ⟨_, h⟩ := h
  rw [if_neg (by omega), if_pos hk] at h
  simp only [Bool.and_eq_true, decide_eq_true_eq, Bool.or_eq_true, beq_iff_eq] at h
  obtain ⟨⟨⟨⟨h1, h2⟩, h3⟩, _⟩, _⟩ := h
  omega
theorem RuleM.may_nm {r : RuleM} (h : r.may = true) (hk : r.kind = 2) : r.name.size ≤ 1000 := by
  unfold RuleM.may RuleM.kindB at h
  simp only [Bool.and_eq_true, decide_eq_true_eq] at h
  obtain ⟨_, h⟩ := h
  rw [if_neg (by omega), if_neg (by omega), if_pos hk] at h
  simp only [Bool.and_eq_true, decide_eq_true_eq] at h
  have h1 := h.1.1
  unfold nameOk at h1
  simp only [Bool.and_eq_true, decide_eq_true_eq] at h1
  have h2 := h1.2
  rw [Array.length_toList] at h2
  have : r.name.size = r.name.data.size := rfl
  omega

theorem may_kindC {r : RuleM} (h : r.may = true) : r.kind = 0 ∨ r.kind = 1 ∨ r.kind = 2 := by
  unfold RuleM.may RuleM.kindB at h
  simp only [Bool.and_eq_true, decide_eq_true_eq] at h
  obtain ⟨_, h⟩ := h
  by_cases k0 : r.kind = 0
  · exact .inl k0
  · by_cases k1 : r.kind = 1
    · exact .inr (.inl k1)
    · by_cases k2 : r.kind = 2
      · exact .inr (.inr k2)
      · rw [if_neg k0, if_neg k1, if_neg k2] at h
        cases h

section
variable {w0 w : World} {L : List Assn}
set_option maxRecDepth 100000 in
set_option maxHeartbeats 4000000 in
theorem acl_Text (r : RuleM) (x : Option Addr) (c : Nat) (ht : TabOk w0) (hz : TzOk w0) (hr : RdRu w0 r x c) (hs : Sat w0 w L) :
    Calls Tryd.prog 10 #[ruV r (.slice x r.net.length c)] w fun e w' => e = .returned (.string (strOf (txtR r))) ∧ Sat w0 w' L := by
  unfold ruV
  have hpos := ht.pos
  have hs1 := hs.alloc (.cells #[.int .i64 r.kind, .bool r.allow, .slice x r.net.length c, .int .i64 r.bits, .string r.name, .int .i64 r.low, .int .i64 r.high] 29 (0, 0))
  have hcell : ∀ (W : World) (g : Nat), Sat w0 W (Blk g (.cells #[.int .i64 r.kind, .bool r.allow, .slice x r.net.length c, .int .i64 r.bits, .string r.name, .int .i64 r.low, .int .i64 r.high] 29 (0, 0)) :: L) → (W.cell? ⟨g, 0, none⟩ = some (.int .i64 r.kind) ∧ W.cell? ⟨g, 1, none⟩ = some (.bool r.allow) ∧ W.cell? ⟨g, 2, none⟩ = some (.slice x r.net.length c) ∧ W.cell? ⟨g, 3, none⟩ = some (.int .i64 r.bits) ∧ W.cell? ⟨g, 4, none⟩ = some (.string r.name) ∧ W.cell? ⟨g, 5, none⟩ = some (.int .i64 r.low) ∧ W.cell? ⟨g, 6, none⟩ = some (.int .i64 r.high)) :=
    fun W g hW => ⟨hW.cell 0 rfl, hW.cell 1 rfl, hW.cell 2 rfl, hW.cell 3 rfl, hW.cell 4 rfl, hW.cell 5 rfl, hW.cell 6 rfl⟩
  have hMay : ∀ b : Bool, Hid (r.may = b) → Calls Tryd.prog 6 #[.agg #[.int .i64 r.kind, .bool r.allow, .slice x r.net.length c, .int .i64 r.bits, .string r.name, .int .i64 r.low, .int .i64 r.high]] (w.alloc (.cells #[.int .i64 r.kind, .bool r.allow, .slice x r.net.length c, .int .i64 r.bits, .string r.name, .int .i64 r.low, .int .i64 r.high] 29 (0, 0))) fun e w' => e = .returned (.bool b) ∧ Below (w.alloc (.cells #[.int .i64 r.kind, .bool r.allow, .slice x r.net.length c, .int .i64 r.bits, .string r.name, .int .i64 r.low, .int .i64 r.high] 29 (0, 0))).heap.size (w.alloc (.cells #[.int .i64 r.kind, .bool r.allow, .slice x r.net.length c, .int .i64 r.bits, .string r.name, .int .i64 r.low, .int .i64 r.high] 29 (0, 0))) w' := fun b HM => acl_MayV HM (hr.mono ((hs.alloc _).below))
  cases hm : r.may
  · have e1 : txtR r = [] := by unfold txtR; rw [hm]; rfl
    rw [e1]
    have HM := hid_ hm
    clear hm e1 hcell
    go_enter Tryd.func10, Tryd.ntmps10
    go_wp2_with fail
    refine (hMay _ HM).mono ?_
    rintro _ w1 ⟨rfl, h1⟩
    have h2 := hs1.under h1
    go_wp2_with fail
    go_ret
    exact ⟨rfl, h2.drop⟩
  have HM := hid_ hm
  have hkk := may_kindC hm
  obtain ⟨hl0, hl1, hl2⟩ := RuleM.may_low hm
  have hbits := RuleM.may_bits hm
  have hnm := RuleM.may_nm hm
  have E := hid_ (show txtR r = txtP r ++ txtB r ++ [32] ++ Lib.itoa r.low ++ [45] ++ Lib.itoa r.high by unfold txtR; rw [hm]; rfl)
  have q1 := itoa_port hl0 (by omega : r.low ≤ 65535)
  have q2 := itoa_port (by omega : 0 ≤ r.high) hl2
  have hI1 : ∀ (W : World) (g : Nat), Sat w0 W (Blk g (.cells #[.int .i64 r.kind, .bool r.allow, .slice x r.net.length c, .int .i64 r.bits, .string r.name, .int .i64 r.low, .int .i64 r.high] 29 (0, 0)) :: L) → Calls Tryd.prog 25 #[.int .i64 r.low] W fun e W' => e = .returned (.string (itoaB r.low)) ∧ Sat w0 W' (Blk g (.cells #[.int .i64 r.kind, .bool r.allow, .slice x r.net.length c, .int .i64 r.bits, .string r.name, .int .i64 r.low, .int .i64 r.high] 29 (0, 0)) :: L) := by
    intro W g hW
    refine (itoa_walk r.low (by omega) (by omega) (ht.later hW.below hpos)).mono ?_
    rintro _ W' ⟨rfl, hb⟩
    exact ⟨rfl, hW.under hb⟩
  have hI2 : ∀ (W : World) (g : Nat), Sat w0 W (Blk g (.cells #[.int .i64 r.kind, .bool r.allow, .slice x r.net.length c, .int .i64 r.bits, .string r.name, .int .i64 r.low, .int .i64 r.high] 29 (0, 0)) :: L) → Calls Tryd.prog 25 #[.int .i64 r.high] W fun e W' => e = .returned (.string (itoaB r.high)) ∧ Sat w0 W' (Blk g (.cells #[.int .i64 r.kind, .bool r.allow, .slice x r.net.length c, .int .i64 r.bits, .string r.name, .int .i64 r.low, .int .i64 r.high] 29 (0, 0)) :: L) := by
    intro W g hW
    refine (itoa_walk r.high (by omega) (by omega) (ht.later hW.below hpos)).mono ?_
    rintro _ W' ⟨rfl, hb⟩
    exact ⟨rfl, hW.under hb⟩
  have z1 : (itoaB r.low).size ≤ 5 := by rw [itoaB, strOf_size]; exact q1
  have z2 : (itoaB r.high).size ≤ 5 := by rw [itoaB, strOf_size]; exact q2
  obtain ⟨I1, hI1e⟩ : ∃ I, itoaB r.low = I := ⟨_, rfl⟩
  obtain ⟨I2, hI2e⟩ : ∃ I, itoaB r.high = I := ⟨_, rfl⟩
  rw [hI1e] at hI1 z1
  rw [hI2e] at hI2 z2
  have HI1 := hid_ (show I1 = strOf (Lib.itoa r.low) from hI1e.symm)
  have HI2 := hid_ (show I2 = strOf (Lib.itoa r.high) from hI2e.symm)
  have HIT : ∀ (n : Int), 0 ≤ n → n ≤ 65535 → ∀ (W : World) (g : Nat), Sat w0 W (Blk g (.cells #[.int .i64 r.kind, .bool r.allow, .slice x r.net.length c, .int .i64 r.bits, .string r.name, .int .i64 r.low, .int .i64 r.high] 29 (0, 0)) :: L) → Calls Tryd.prog 25 #[.int .i64 n] W fun e W' => e = .returned (.string (itoaB n)) ∧ Sat w0 W' (Blk g (.cells #[.int .i64 r.kind, .bool r.allow, .slice x r.net.length c, .int .i64 r.bits, .string r.name, .int .i64 r.low, .int .i64 r.high] 29 (0, 0)) :: L) := by
    intro n hn0 hn1 W g hW
    refine (itoa_walk n (by omega) (by omega) (ht.later hW.below hpos)).mono ?_
    rintro _ W' ⟨rfl, hb⟩
    exact ⟨rfl, hW.under hb⟩
  have HPOS := hid_ hpos
  have HLL := hid_ hl0
  clear hm hI1e hI2e q1 q2 hl0 hl1 hl2 hpos
  obtain ⟨g, hg⟩ : ∃ g, w.heap.size = g := ⟨_, rfl⟩
  cases hal : r.allow
  · have HP := hid_ (show txtP r = [100, 101, 110, 121, 32] by unfold txtP; rw [hal]; rfl)
    rw [hal] at hs1 hcell hI1 hI2 HIT hMay
    rcases hkk with k0 | k1 | k2
    · skip
      have HB := hid_ (show txtB r = [97, 110, 121] by unfold txtB; rw [if_pos k0])
      have b0k : (r.kind == 0) = true := by simp [k0]
      have b1k : (r.kind == 1) = false := by simp [k0]
      have b2k : (r.kind == 2) = false := by simp [k0]
      clear HIT hbits hnm k0
      go_enter Tryd.func10, Tryd.ntmps10
      go_wp2_with fail
      refine (hMay _ HM).mono ?_
      rintro _ w1 ⟨rfl, h1⟩
      have h2 := hs1.under h1
      rw [hg] at h2
      clear hs1 h1 hMay
      obtain ⟨d0, d1, d2, d3, d4, d5, d6⟩ := hcell _ _ h2
      go_upto_region 13 with fail
      obtain ⟨T, hT⟩ : ∃ T, ((⟨#[100, 101, 110, 121, 32]⟩ : ByteArray) ++ ⟨#[97, 110, 121]⟩) = T := ⟨_, rfl⟩
      have hTs : T.size ≤ 2000 := by rw [← hT, ByteArray.size_append]; show 5 + 3 ≤ 2000; omega
      rw [hT]
      have HT := hid_ hT
      clear hT
      have s1 : (T ++ ⟨#[32]⟩).size = T.size + 1 := by rw [ByteArray.size_append]; rfl
      have s2 : (T ++ ⟨#[32]⟩ ++ I1).size = T.size + 1 + I1.size := by rw [ByteArray.size_append, s1]
      have s3 : (T ++ ⟨#[32]⟩ ++ I1 ++ ⟨#[45]⟩).size = T.size + 1 + I1.size + 1 := by rw [ByteArray.size_append, s2]; rfl
      have v1 : ¬ 9223372036854775807 < T.size + 1 := by omega
      have v2 : ¬ 9223372036854775807 < T.size + 1 + I1.size := by omega
      have v3 : ¬ 9223372036854775807 < T.size + 1 + I1.size + 1 := by omega
      have v4 : ¬ 9223372036854775807 < T.size + 1 + I1.size + 1 + I2.size := by omega
      have v5 : ¬ 9223372036854775807 < (T ++ ⟨#[32]⟩).size + I1.size := by omega
      have v6 : ¬ 9223372036854775807 < (T ++ ⟨#[32]⟩ ++ I1).size + 1 := by omega
      have v7 : ¬ 9223372036854775807 < (T ++ ⟨#[32]⟩ ++ I1 ++ ⟨#[45]⟩).size + I2.size := by omega
      clear s1 s2 s3 hTs
      have t0 := h2.drew
      go_region_held3 (fun W => W.cell? ⟨g, 0, none⟩ = some (.int .i64 r.kind) ∧ W.cell? ⟨g, 1, none⟩ = some (.bool false) ∧ W.cell? ⟨g, 2, none⟩ = some (.slice x r.net.length c) ∧ W.cell? ⟨g, 3, none⟩ = some (.int .i64 r.bits) ∧ W.cell? ⟨g, 4, none⟩ = some (.string r.name) ∧ W.cell? ⟨g, 5, none⟩ = some (.int .i64 r.low) ∧ W.cell? ⟨g, 6, none⟩ = some (.int .i64 r.high))
        (first | with_reducible exact hcell _ _ hn | with_reducible exact hcell _ _ t0)
        (first | (go_at_call 25; with_reducible refine (hI1 _ g ?_).mono ?_; (first | with_reducible exact hn | with_reducible exact t0); rintro _ wn ⟨rfl, hn⟩)
               | (go_at_call 25; with_reducible refine (hI2 _ g ?_).mono ?_; (first | with_reducible exact hn | with_reducible exact t0); rintro _ wn ⟨rfl, hn⟩))
      go_wp2_with fail
      go_ret
      have hfin : T ++ ⟨#[32]⟩ ++ I1 ++ ⟨#[45]⟩ ++ I2 = strOf (txtR r) := by
        rw [E.out, HP.out, HB.out, ← HT.out]
        rw [HI1.out, HI2.out, show (⟨#[100, 101, 110, 121, 32]⟩ : ByteArray) = strOf [100, 101, 110, 121, 32] from rfl, show (⟨#[97, 110, 121]⟩ : ByteArray) = strOf [97, 110, 121] from rfl, show (⟨#[32]⟩ : ByteArray) = strOf [32] from rfl, show (⟨#[45]⟩ : ByteArray) = strOf [45] from rfl]
        simp only [str_add]
      rw [← hfin]
      exact ⟨rfl, hn.drop⟩
    · skip
      have HB := hid_ (show txtB r = digL r.net ++ [47] ++ Lib.itoa r.bits by unfold txtB; rw [if_neg (by omega), if_pos k1])
      obtain ⟨b1, b2, b3⟩ := hbits k1
      have zb : (itoaB r.bits).size ≤ 5 := by rw [itoaB, strOf_size]; exact itoa_port b1 (by omega)
      have hIb := HIT r.bits b1 (by omega)
      obtain ⟨IB, hIBe⟩ : ∃ I, itoaB r.bits = I := ⟨_, rfl⟩
      rw [hIBe] at hIb zb
      have HIB := hid_ (show IB = strOf (Lib.itoa r.bits) from hIBe.symm)
      clear hIBe
      have hD : ∀ (W : World) (g : Nat), Sat w0 W (Blk g (.cells #[.int .i64 r.kind, .bool false, .slice x r.net.length c, .int .i64 r.bits, .string r.name, .int .i64 r.low, .int .i64 r.high] 29 (0, 0)) :: L) → Calls Tryd.prog 24 #[.slice x r.net.length c] W fun e W' => e = .returned (.string (strOf (digL r.net))) ∧ Sat w0 W' (Blk g (.cells #[.int .i64 r.kind, .bool false, .slice x r.net.length c, .int .i64 r.bits, .string r.name, .int .i64 r.low, .int .i64 r.high] 29 (0, 0)) :: L) := fun W g hW => acl_digits x c r.net (by omega) hz hr.net hW
      have zd : (strOf (digL r.net)).size ≤ 32 := by rw [strOf_size, digL_len]; omega
      obtain ⟨D, hDe⟩ : ∃ D, strOf (digL r.net) = D := ⟨_, rfl⟩
      rw [hDe] at hD zd
      have HD := hid_ (show D = strOf (digL r.net) from hDe.symm)
      clear hDe b1 b2 b3
      have b0k : (r.kind == 0) = false := by simp [k1]
      have b1k : (r.kind == 1) = true := by simp [k1]
      have b2k : (r.kind == 2) = false := by simp [k1]
      clear HIT hbits hnm k1
      go_enter Tryd.func10, Tryd.ntmps10
      go_wp2_with fail
      refine (hMay _ HM).mono ?_
      rintro _ w1 ⟨rfl, h1⟩
      have h2 := hs1.under h1
      rw [hg] at h2
      clear hs1 h1 hMay
      obtain ⟨d0, d1, d2, d3, d4, d5, d6⟩ := hcell _ _ h2
      have r1 : ¬ 9223372036854775807 < D.size + 1 := by omega
      have r3 : (D ++ ⟨#[47]⟩).size = D.size + 1 := by rw [ByteArray.size_append]; rfl
      have r2 : ¬ 9223372036854775807 < (D ++ ⟨#[47]⟩).size + IB.size := by omega
      have r2b : ¬ 9223372036854775807 < D.size + 1 + IB.size := by omega
      have r4 : (D ++ ⟨#[47]⟩ ++ IB).size = D.size + 1 + IB.size := by rw [ByteArray.size_append, r3]
      have r5 : ¬ 9223372036854775807 < 5 + (D.size + 1 + IB.size) := by omega
      have r6 : ¬ 9223372036854775807 < 5 + (D ++ ⟨#[47]⟩ ++ IB).size := by omega
      have t0 := h2.drew
      go_upto_region 10 with fail
      go_region_held3 (fun W => W.cell? ⟨g, 0, none⟩ = some (.int .i64 r.kind) ∧ W.cell? ⟨g, 1, none⟩ = some (.bool false) ∧ W.cell? ⟨g, 2, none⟩ = some (.slice x r.net.length c) ∧ W.cell? ⟨g, 3, none⟩ = some (.int .i64 r.bits) ∧ W.cell? ⟨g, 4, none⟩ = some (.string r.name) ∧ W.cell? ⟨g, 5, none⟩ = some (.int .i64 r.low) ∧ W.cell? ⟨g, 6, none⟩ = some (.int .i64 r.high))
        (first | with_reducible exact hcell _ _ hn | with_reducible exact hcell _ _ t0)
        (first | (go_at_call 24; with_reducible refine (hD _ g ?_).mono ?_; (first | with_reducible exact hn | with_reducible exact t0); rintro _ wn ⟨rfl, hn⟩)
               | (go_at_call 25; with_reducible refine (hIb _ g ?_).mono ?_; (first | with_reducible exact hn | with_reducible exact t0); rintro _ wn ⟨rfl, hn⟩))
      have h4 := hn
      clear hn t0 d0 d1 d2 d3 d4 d5 d6 h2
      obtain ⟨d0, d1, d2, d3, d4, d5, d6⟩ := hcell _ _ h4
      go_upto_region 13 with fail
      obtain ⟨T, hT⟩ : ∃ T, ((⟨#[100, 101, 110, 121, 32]⟩ : ByteArray) ++ (D ++ ⟨#[47]⟩ ++ IB)) = T := ⟨_, rfl⟩
      have hTs : T.size ≤ 2000 := by rw [← hT, ByteArray.size_append]; rw [r4]; show 5 + (D.size + 1 + IB.size) ≤ 2000; omega
      rw [hT]
      have HT := hid_ hT
      clear hT
      have s1 : (T ++ ⟨#[32]⟩).size = T.size + 1 := by rw [ByteArray.size_append]; rfl
      have s2 : (T ++ ⟨#[32]⟩ ++ I1).size = T.size + 1 + I1.size := by rw [ByteArray.size_append, s1]
      have s3 : (T ++ ⟨#[32]⟩ ++ I1 ++ ⟨#[45]⟩).size = T.size + 1 + I1.size + 1 := by rw [ByteArray.size_append, s2]; rfl
      have v1 : ¬ 9223372036854775807 < T.size + 1 := by omega
      have v2 : ¬ 9223372036854775807 < T.size + 1 + I1.size := by omega
      have v3 : ¬ 9223372036854775807 < T.size + 1 + I1.size + 1 := by omega
      have v4 : ¬ 9223372036854775807 < T.size + 1 + I1.size + 1 + I2.size := by omega
      have v5 : ¬ 9223372036854775807 < (T ++ ⟨#[32]⟩).size + I1.size := by omega
      have v6 : ¬ 9223372036854775807 < (T ++ ⟨#[32]⟩ ++ I1).size + 1 := by omega
      have v7 : ¬ 9223372036854775807 < (T ++ ⟨#[32]⟩ ++ I1 ++ ⟨#[45]⟩).size + I2.size := by omega
      clear s1 s2 s3 hTs
      have t0 := h4.drew
      go_region_held3 (fun W => W.cell? ⟨g, 0, none⟩ = some (.int .i64 r.kind) ∧ W.cell? ⟨g, 1, none⟩ = some (.bool false) ∧ W.cell? ⟨g, 2, none⟩ = some (.slice x r.net.length c) ∧ W.cell? ⟨g, 3, none⟩ = some (.int .i64 r.bits) ∧ W.cell? ⟨g, 4, none⟩ = some (.string r.name) ∧ W.cell? ⟨g, 5, none⟩ = some (.int .i64 r.low) ∧ W.cell? ⟨g, 6, none⟩ = some (.int .i64 r.high))
        (first | with_reducible exact hcell _ _ hn | with_reducible exact hcell _ _ t0)
        (first | (go_at_call 25; with_reducible refine (hI1 _ g ?_).mono ?_; (first | with_reducible exact hn | with_reducible exact t0); rintro _ wn ⟨rfl, hn⟩)
               | (go_at_call 25; with_reducible refine (hI2 _ g ?_).mono ?_; (first | with_reducible exact hn | with_reducible exact t0); rintro _ wn ⟨rfl, hn⟩))
      go_wp2_with fail
      go_ret
      have hfin : T ++ ⟨#[32]⟩ ++ I1 ++ ⟨#[45]⟩ ++ I2 = strOf (txtR r) := by
        rw [E.out, HP.out, HB.out, ← HT.out]
        rw [HI1.out, HI2.out, HIB.out, HD.out, show (⟨#[100, 101, 110, 121, 32]⟩ : ByteArray) = strOf [100, 101, 110, 121, 32] from rfl, show (⟨#[47]⟩ : ByteArray) = strOf [47] from rfl, show (⟨#[32]⟩ : ByteArray) = strOf [32] from rfl, show (⟨#[45]⟩ : ByteArray) = strOf [45] from rfl]
        simp only [str_add]
      rw [← hfin]
      exact ⟨rfl, hn.drop⟩
    · skip
      have HB := hid_ (show txtB r = [46] ++ r.name.data.toList by unfold txtB; rw [if_neg (by omega), if_neg (by omega)])
      have zn := hnm k2
      have b0k : (r.kind == 0) = false := by simp [k2]
      have b1k : (r.kind == 1) = false := by simp [k2]
      have b2k : (r.kind == 2) = true := by simp [k2]
      clear HIT hbits hnm k2
      go_enter Tryd.func10, Tryd.ntmps10
      go_wp2_with fail
      refine (hMay _ HM).mono ?_
      rintro _ w1 ⟨rfl, h1⟩
      have h2 := hs1.under h1
      rw [hg] at h2
      clear hs1 h1 hMay
      obtain ⟨d0, d1, d2, d3, d4, d5, d6⟩ := hcell _ _ h2
      have r1 : ¬ 9223372036854775807 < 1 + r.name.size := by omega
      have r3 : ((⟨#[46]⟩ : ByteArray) ++ r.name).size = 1 + r.name.size := by rw [ByteArray.size_append]; rfl
      have r5 : ¬ 9223372036854775807 < 5 + (1 + r.name.size) := by omega
      have r6 : ¬ 9223372036854775807 < 5 + ((⟨#[46]⟩ : ByteArray) ++ r.name).size := by omega
      go_upto_region 13 with fail
      obtain ⟨T, hT⟩ : ∃ T, ((⟨#[100, 101, 110, 121, 32]⟩ : ByteArray) ++ (⟨#[46]⟩ ++ r.name)) = T := ⟨_, rfl⟩
      have hTs : T.size ≤ 2000 := by rw [← hT, ByteArray.size_append]; rw [r3]; show 5 + (1 + r.name.size) ≤ 2000; omega
      rw [hT]
      have HT := hid_ hT
      clear hT
      have s1 : (T ++ ⟨#[32]⟩).size = T.size + 1 := by rw [ByteArray.size_append]; rfl
      have s2 : (T ++ ⟨#[32]⟩ ++ I1).size = T.size + 1 + I1.size := by rw [ByteArray.size_append, s1]
      have s3 : (T ++ ⟨#[32]⟩ ++ I1 ++ ⟨#[45]⟩).size = T.size + 1 + I1.size + 1 := by rw [ByteArray.size_append, s2]; rfl
      have v1 : ¬ 9223372036854775807 < T.size + 1 := by omega
      have v2 : ¬ 9223372036854775807 < T.size + 1 + I1.size := by omega
      have v3 : ¬ 9223372036854775807 < T.size + 1 + I1.size + 1 := by omega
      have v4 : ¬ 9223372036854775807 < T.size + 1 + I1.size + 1 + I2.size := by omega
      have v5 : ¬ 9223372036854775807 < (T ++ ⟨#[32]⟩).size + I1.size := by omega
      have v6 : ¬ 9223372036854775807 < (T ++ ⟨#[32]⟩ ++ I1).size + 1 := by omega
      have v7 : ¬ 9223372036854775807 < (T ++ ⟨#[32]⟩ ++ I1 ++ ⟨#[45]⟩).size + I2.size := by omega
      clear s1 s2 s3 hTs
      have t0 := h2.drew
      go_region_held3 (fun W => W.cell? ⟨g, 0, none⟩ = some (.int .i64 r.kind) ∧ W.cell? ⟨g, 1, none⟩ = some (.bool false) ∧ W.cell? ⟨g, 2, none⟩ = some (.slice x r.net.length c) ∧ W.cell? ⟨g, 3, none⟩ = some (.int .i64 r.bits) ∧ W.cell? ⟨g, 4, none⟩ = some (.string r.name) ∧ W.cell? ⟨g, 5, none⟩ = some (.int .i64 r.low) ∧ W.cell? ⟨g, 6, none⟩ = some (.int .i64 r.high))
        (first | with_reducible exact hcell _ _ hn | with_reducible exact hcell _ _ t0)
        (first | (go_at_call 25; with_reducible refine (hI1 _ g ?_).mono ?_; (first | with_reducible exact hn | with_reducible exact t0); rintro _ wn ⟨rfl, hn⟩)
               | (go_at_call 25; with_reducible refine (hI2 _ g ?_).mono ?_; (first | with_reducible exact hn | with_reducible exact t0); rintro _ wn ⟨rfl, hn⟩))
      go_wp2_with fail
      go_ret
      have hfin : T ++ ⟨#[32]⟩ ++ I1 ++ ⟨#[45]⟩ ++ I2 = strOf (txtR r) := by
        rw [E.out, HP.out, HB.out, ← HT.out]
        rw [HI1.out, HI2.out, strOf_name r.name, show (⟨#[100, 101, 110, 121, 32]⟩ : ByteArray) = strOf [100, 101, 110, 121, 32] from rfl, show (⟨#[46]⟩ : ByteArray) = strOf [46] from rfl, show (⟨#[32]⟩ : ByteArray) = strOf [32] from rfl, show (⟨#[45]⟩ : ByteArray) = strOf [45] from rfl]
        simp only [str_add, strOf_toList]
      rw [← hfin]
      exact ⟨rfl, hn.drop⟩
  · have HP := hid_ (show txtP r = [97, 108, 108, 111, 119, 32] by unfold txtP; rw [hal]; rfl)
    rw [hal] at hs1 hcell hI1 hI2 HIT hMay
    rcases hkk with k0 | k1 | k2
    · skip
      have HB := hid_ (show txtB r = [97, 110, 121] by unfold txtB; rw [if_pos k0])
      have b0k : (r.kind == 0) = true := by simp [k0]
      have b1k : (r.kind == 1) = false := by simp [k0]
      have b2k : (r.kind == 2) = false := by simp [k0]
      clear HIT hbits hnm k0
      go_enter Tryd.func10, Tryd.ntmps10
      go_wp2_with fail
      refine (hMay _ HM).mono ?_
      rintro _ w1 ⟨rfl, h1⟩
      have h2 := hs1.under h1
      rw [hg] at h2
      clear hs1 h1 hMay
      obtain ⟨d0, d1, d2, d3, d4, d5, d6⟩ := hcell _ _ h2
      go_upto_region 13 with fail
      obtain ⟨T, hT⟩ : ∃ T, ((⟨#[97, 108, 108, 111, 119, 32]⟩ : ByteArray) ++ ⟨#[97, 110, 121]⟩) = T := ⟨_, rfl⟩
      have hTs : T.size ≤ 2000 := by rw [← hT, ByteArray.size_append]; show 6 + 3 ≤ 2000; omega
      rw [hT]
      have HT := hid_ hT
      clear hT
      have s1 : (T ++ ⟨#[32]⟩).size = T.size + 1 := by rw [ByteArray.size_append]; rfl
      have s2 : (T ++ ⟨#[32]⟩ ++ I1).size = T.size + 1 + I1.size := by rw [ByteArray.size_append, s1]
      have s3 : (T ++ ⟨#[32]⟩ ++ I1 ++ ⟨#[45]⟩).size = T.size + 1 + I1.size + 1 := by rw [ByteArray.size_append, s2]; rfl
      have v1 : ¬ 9223372036854775807 < T.size + 1 := by omega
      have v2 : ¬ 9223372036854775807 < T.size + 1 + I1.size := by omega
      have v3 : ¬ 9223372036854775807 < T.size + 1 + I1.size + 1 := by omega
      have v4 : ¬ 9223372036854775807 < T.size + 1 + I1.size + 1 + I2.size := by omega
      have v5 : ¬ 9223372036854775807 < (T ++ ⟨#[32]⟩).size + I1.size := by omega
      have v6 : ¬ 9223372036854775807 < (T ++ ⟨#[32]⟩ ++ I1).size + 1 := by omega
      have v7 : ¬ 9223372036854775807 < (T ++ ⟨#[32]⟩ ++ I1 ++ ⟨#[45]⟩).size + I2.size := by omega
      clear s1 s2 s3 hTs
      have t0 := h2.drew
      go_region_held3 (fun W => W.cell? ⟨g, 0, none⟩ = some (.int .i64 r.kind) ∧ W.cell? ⟨g, 1, none⟩ = some (.bool true) ∧ W.cell? ⟨g, 2, none⟩ = some (.slice x r.net.length c) ∧ W.cell? ⟨g, 3, none⟩ = some (.int .i64 r.bits) ∧ W.cell? ⟨g, 4, none⟩ = some (.string r.name) ∧ W.cell? ⟨g, 5, none⟩ = some (.int .i64 r.low) ∧ W.cell? ⟨g, 6, none⟩ = some (.int .i64 r.high))
        (first | with_reducible exact hcell _ _ hn | with_reducible exact hcell _ _ t0)
        (first | (go_at_call 25; with_reducible refine (hI1 _ g ?_).mono ?_; (first | with_reducible exact hn | with_reducible exact t0); rintro _ wn ⟨rfl, hn⟩)
               | (go_at_call 25; with_reducible refine (hI2 _ g ?_).mono ?_; (first | with_reducible exact hn | with_reducible exact t0); rintro _ wn ⟨rfl, hn⟩))
      go_wp2_with fail
      go_ret
      have hfin : T ++ ⟨#[32]⟩ ++ I1 ++ ⟨#[45]⟩ ++ I2 = strOf (txtR r) := by
        rw [E.out, HP.out, HB.out, ← HT.out]
        rw [HI1.out, HI2.out, show (⟨#[97, 108, 108, 111, 119, 32]⟩ : ByteArray) = strOf [97, 108, 108, 111, 119, 32] from rfl, show (⟨#[97, 110, 121]⟩ : ByteArray) = strOf [97, 110, 121] from rfl, show (⟨#[32]⟩ : ByteArray) = strOf [32] from rfl, show (⟨#[45]⟩ : ByteArray) = strOf [45] from rfl]
        simp only [str_add]
      rw [← hfin]
      exact ⟨rfl, hn.drop⟩
    · skip
      have HB := hid_ (show txtB r = digL r.net ++ [47] ++ Lib.itoa r.bits by unfold txtB; rw [if_neg (by omega), if_pos k1])
      obtain ⟨b1, b2, b3⟩ := hbits k1
      have zb : (itoaB r.bits).size ≤ 5 := by rw [itoaB, strOf_size]; exact itoa_port b1 (by omega)
      have hIb := HIT r.bits b1 (by omega)
      obtain ⟨IB, hIBe⟩ : ∃ I, itoaB r.bits = I := ⟨_, rfl⟩
      rw [hIBe] at hIb zb
      have HIB := hid_ (show IB = strOf (Lib.itoa r.bits) from hIBe.symm)
      clear hIBe
      have hD : ∀ (W : World) (g : Nat), Sat w0 W (Blk g (.cells #[.int .i64 r.kind, .bool true, .slice x r.net.length c, .int .i64 r.bits, .string r.name, .int .i64 r.low, .int .i64 r.high] 29 (0, 0)) :: L) → Calls Tryd.prog 24 #[.slice x r.net.length c] W fun e W' => e = .returned (.string (strOf (digL r.net))) ∧ Sat w0 W' (Blk g (.cells #[.int .i64 r.kind, .bool true, .slice x r.net.length c, .int .i64 r.bits, .string r.name, .int .i64 r.low, .int .i64 r.high] 29 (0, 0)) :: L) := fun W g hW => acl_digits x c r.net (by omega) hz hr.net hW
      have zd : (strOf (digL r.net)).size ≤ 32 := by rw [strOf_size, digL_len]; omega
      obtain ⟨D, hDe⟩ : ∃ D, strOf (digL r.net) = D := ⟨_, rfl⟩
      rw [hDe] at hD zd
      have HD := hid_ (show D = strOf (digL r.net) from hDe.symm)
      clear hDe b1 b2 b3
      have b0k : (r.kind == 0) = false := by simp [k1]
      have b1k : (r.kind == 1) = true := by simp [k1]
      have b2k : (r.kind == 2) = false := by simp [k1]
      clear HIT hbits hnm k1
      go_enter Tryd.func10, Tryd.ntmps10
      go_wp2_with fail
      refine (hMay _ HM).mono ?_
      rintro _ w1 ⟨rfl, h1⟩
      have h2 := hs1.under h1
      rw [hg] at h2
      clear hs1 h1 hMay
      obtain ⟨d0, d1, d2, d3, d4, d5, d6⟩ := hcell _ _ h2
      have r1 : ¬ 9223372036854775807 < D.size + 1 := by omega
      have r3 : (D ++ ⟨#[47]⟩).size = D.size + 1 := by rw [ByteArray.size_append]; rfl
      have r2 : ¬ 9223372036854775807 < (D ++ ⟨#[47]⟩).size + IB.size := by omega
      have r2b : ¬ 9223372036854775807 < D.size + 1 + IB.size := by omega
      have r4 : (D ++ ⟨#[47]⟩ ++ IB).size = D.size + 1 + IB.size := by rw [ByteArray.size_append, r3]
      have r5 : ¬ 9223372036854775807 < 6 + (D.size + 1 + IB.size) := by omega
      have r6 : ¬ 9223372036854775807 < 6 + (D ++ ⟨#[47]⟩ ++ IB).size := by omega
      have t0 := h2.drew
      go_upto_region 10 with fail
      go_region_held3 (fun W => W.cell? ⟨g, 0, none⟩ = some (.int .i64 r.kind) ∧ W.cell? ⟨g, 1, none⟩ = some (.bool true) ∧ W.cell? ⟨g, 2, none⟩ = some (.slice x r.net.length c) ∧ W.cell? ⟨g, 3, none⟩ = some (.int .i64 r.bits) ∧ W.cell? ⟨g, 4, none⟩ = some (.string r.name) ∧ W.cell? ⟨g, 5, none⟩ = some (.int .i64 r.low) ∧ W.cell? ⟨g, 6, none⟩ = some (.int .i64 r.high))
        (first | with_reducible exact hcell _ _ hn | with_reducible exact hcell _ _ t0)
        (first | (go_at_call 24; with_reducible refine (hD _ g ?_).mono ?_; (first | with_reducible exact hn | with_reducible exact t0); rintro _ wn ⟨rfl, hn⟩)
               | (go_at_call 25; with_reducible refine (hIb _ g ?_).mono ?_; (first | with_reducible exact hn | with_reducible exact t0); rintro _ wn ⟨rfl, hn⟩))
      have h4 := hn
      clear hn t0 d0 d1 d2 d3 d4 d5 d6 h2
      obtain ⟨d0, d1, d2, d3, d4, d5, d6⟩ := hcell _ _ h4
      go_upto_region 13 with fail
      obtain ⟨T, hT⟩ : ∃ T, ((⟨#[97, 108, 108, 111, 119, 32]⟩ : ByteArray) ++ (D ++ ⟨#[47]⟩ ++ IB)) = T := ⟨_, rfl⟩
      have hTs : T.size ≤ 2000 := by rw [← hT, ByteArray.size_append]; rw [r4]; show 6 + (D.size + 1 + IB.size) ≤ 2000; omega
      rw [hT]
      have HT := hid_ hT
      clear hT
      have s1 : (T ++ ⟨#[32]⟩).size = T.size + 1 := by rw [ByteArray.size_append]; rfl
      have s2 : (T ++ ⟨#[32]⟩ ++ I1).size = T.size + 1 + I1.size := by rw [ByteArray.size_append, s1]
      have s3 : (T ++ ⟨#[32]⟩ ++ I1 ++ ⟨#[45]⟩).size = T.size + 1 + I1.size + 1 := by rw [ByteArray.size_append, s2]; rfl
      have v1 : ¬ 9223372036854775807 < T.size + 1 := by omega
      have v2 : ¬ 9223372036854775807 < T.size + 1 + I1.size := by omega
      have v3 : ¬ 9223372036854775807 < T.size + 1 + I1.size + 1 := by omega
      have v4 : ¬ 9223372036854775807 < T.size + 1 + I1.size + 1 + I2.size := by omega
      have v5 : ¬ 9223372036854775807 < (T ++ ⟨#[32]⟩).size + I1.size := by omega
      have v6 : ¬ 9223372036854775807 < (T ++ ⟨#[32]⟩ ++ I1).size + 1 := by omega
      have v7 : ¬ 9223372036854775807 < (T ++ ⟨#[32]⟩ ++ I1 ++ ⟨#[45]⟩).size + I2.size := by omega
      clear s1 s2 s3 hTs
      have t0 := h4.drew
      go_region_held3 (fun W => W.cell? ⟨g, 0, none⟩ = some (.int .i64 r.kind) ∧ W.cell? ⟨g, 1, none⟩ = some (.bool true) ∧ W.cell? ⟨g, 2, none⟩ = some (.slice x r.net.length c) ∧ W.cell? ⟨g, 3, none⟩ = some (.int .i64 r.bits) ∧ W.cell? ⟨g, 4, none⟩ = some (.string r.name) ∧ W.cell? ⟨g, 5, none⟩ = some (.int .i64 r.low) ∧ W.cell? ⟨g, 6, none⟩ = some (.int .i64 r.high))
        (first | with_reducible exact hcell _ _ hn | with_reducible exact hcell _ _ t0)
        (first | (go_at_call 25; with_reducible refine (hI1 _ g ?_).mono ?_; (first | with_reducible exact hn | with_reducible exact t0); rintro _ wn ⟨rfl, hn⟩)
               | (go_at_call 25; with_reducible refine (hI2 _ g ?_).mono ?_; (first | with_reducible exact hn | with_reducible exact t0); rintro _ wn ⟨rfl, hn⟩))
      go_wp2_with fail
      go_ret
      have hfin : T ++ ⟨#[32]⟩ ++ I1 ++ ⟨#[45]⟩ ++ I2 = strOf (txtR r) := by
        rw [E.out, HP.out, HB.out, ← HT.out]
        rw [HI1.out, HI2.out, HIB.out, HD.out, show (⟨#[97, 108, 108, 111, 119, 32]⟩ : ByteArray) = strOf [97, 108, 108, 111, 119, 32] from rfl, show (⟨#[47]⟩ : ByteArray) = strOf [47] from rfl, show (⟨#[32]⟩ : ByteArray) = strOf [32] from rfl, show (⟨#[45]⟩ : ByteArray) = strOf [45] from rfl]
        simp only [str_add]
      rw [← hfin]
      exact ⟨rfl, hn.drop⟩
    · skip
      have HB := hid_ (show txtB r = [46] ++ r.name.data.toList by unfold txtB; rw [if_neg (by omega), if_neg (by omega)])
      have zn := hnm k2
      have b0k : (r.kind == 0) = false := by simp [k2]
      have b1k : (r.kind == 1) = false := by simp [k2]
      have b2k : (r.kind == 2) = true := by simp [k2]
      clear HIT hbits hnm k2
      go_enter Tryd.func10, Tryd.ntmps10
      go_wp2_with fail
      refine (hMay _ HM).mono ?_
      rintro _ w1 ⟨rfl, h1⟩
      have h2 := hs1.under h1
      rw [hg] at h2
      clear hs1 h1 hMay
      obtain ⟨d0, d1, d2, d3, d4, d5, d6⟩ := hcell _ _ h2
      have r1 : ¬ 9223372036854775807 < 1 + r.name.size := by omega
      have r3 : ((⟨#[46]⟩ : ByteArray) ++ r.name).size = 1 + r.name.size := by rw [ByteArray.size_append]; rfl
      have r5 : ¬ 9223372036854775807 < 6 + (1 + r.name.size) := by omega
      have r6 : ¬ 9223372036854775807 < 6 + ((⟨#[46]⟩ : ByteArray) ++ r.name).size := by omega
      go_upto_region 13 with fail
      obtain ⟨T, hT⟩ : ∃ T, ((⟨#[97, 108, 108, 111, 119, 32]⟩ : ByteArray) ++ (⟨#[46]⟩ ++ r.name)) = T := ⟨_, rfl⟩
      have hTs : T.size ≤ 2000 := by rw [← hT, ByteArray.size_append]; rw [r3]; show 6 + (1 + r.name.size) ≤ 2000; omega
      rw [hT]
      have HT := hid_ hT
      clear hT
      have s1 : (T ++ ⟨#[32]⟩).size = T.size + 1 := by rw [ByteArray.size_append]; rfl
      have s2 : (T ++ ⟨#[32]⟩ ++ I1).size = T.size + 1 + I1.size := by rw [ByteArray.size_append, s1]
      have s3 : (T ++ ⟨#[32]⟩ ++ I1 ++ ⟨#[45]⟩).size = T.size + 1 + I1.size + 1 := by rw [ByteArray.size_append, s2]; rfl
      have v1 : ¬ 9223372036854775807 < T.size + 1 := by omega
      have v2 : ¬ 9223372036854775807 < T.size + 1 + I1.size := by omega
      have v3 : ¬ 9223372036854775807 < T.size + 1 + I1.size + 1 := by omega
      have v4 : ¬ 9223372036854775807 < T.size + 1 + I1.size + 1 + I2.size := by omega
      have v5 : ¬ 9223372036854775807 < (T ++ ⟨#[32]⟩).size + I1.size := by omega
      have v6 : ¬ 9223372036854775807 < (T ++ ⟨#[32]⟩ ++ I1).size + 1 := by omega
      have v7 : ¬ 9223372036854775807 < (T ++ ⟨#[32]⟩ ++ I1 ++ ⟨#[45]⟩).size + I2.size := by omega
      clear s1 s2 s3 hTs
      have t0 := h2.drew
      go_region_held3 (fun W => W.cell? ⟨g, 0, none⟩ = some (.int .i64 r.kind) ∧ W.cell? ⟨g, 1, none⟩ = some (.bool true) ∧ W.cell? ⟨g, 2, none⟩ = some (.slice x r.net.length c) ∧ W.cell? ⟨g, 3, none⟩ = some (.int .i64 r.bits) ∧ W.cell? ⟨g, 4, none⟩ = some (.string r.name) ∧ W.cell? ⟨g, 5, none⟩ = some (.int .i64 r.low) ∧ W.cell? ⟨g, 6, none⟩ = some (.int .i64 r.high))
        (first | with_reducible exact hcell _ _ hn | with_reducible exact hcell _ _ t0)
        (first | (go_at_call 25; with_reducible refine (hI1 _ g ?_).mono ?_; (first | with_reducible exact hn | with_reducible exact t0); rintro _ wn ⟨rfl, hn⟩)
               | (go_at_call 25; with_reducible refine (hI2 _ g ?_).mono ?_; (first | with_reducible exact hn | with_reducible exact t0); rintro _ wn ⟨rfl, hn⟩))
      go_wp2_with fail
      go_ret
      have hfin : T ++ ⟨#[32]⟩ ++ I1 ++ ⟨#[45]⟩ ++ I2 = strOf (txtR r) := by
        rw [E.out, HP.out, HB.out, ← HT.out]
        rw [HI1.out, HI2.out, strOf_name r.name, show (⟨#[97, 108, 108, 111, 119, 32]⟩ : ByteArray) = strOf [97, 108, 108, 111, 119, 32] from rfl, show (⟨#[46]⟩ : ByteArray) = strOf [46] from rfl, show (⟨#[32]⟩ : ByteArray) = strOf [32] from rfl, show (⟨#[45]⟩ : ByteArray) = strOf [45] from rfl]
        simp only [str_add, strOf_toList]
      rw [← hfin]
      exact ⟨rfl, hn.drop⟩
end
end Go.Proofs.YtmnjaaeljpleeaaDoor
