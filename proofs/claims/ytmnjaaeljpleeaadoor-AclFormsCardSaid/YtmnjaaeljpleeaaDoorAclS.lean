/- strings.HasSuffix, walked. -/
import Derived.Test.YtmnjaaeljpleeaaDoorAclM
namespace Go.Proofs.YtmnjaaeljpleeaaDoor
open Go Go.RowKit
set_option linter.unusedVariables false
set_option linter.unusedSimpArgs false
section
variable {w0 w : World} {L : List Assn}
def sufB (s t : ByteArray) : Bool := decide (t.size ≤ s.size) && (s.data.toList.drop (s.size - t.size) == t.data.toList)

theorem extract_end (s : ByteArray) (k : Nat) : (s.extract k s.size).toList = s.data.toList.drop k := by
  rw [ByteArray.toList_eq]
  have h : (s.extract k s.size).data = s.data.extract k s.size := by simp
  rw [h, Array.toList_extract, List.extract_eq_take_drop]
  apply List.take_of_length_le
  rw [List.length_drop]
  exact Nat.le_refl _

theorem lite_HasSuffix (s t : ByteArray) (hs : s.size ≤ maxLen) (ht : t.size ≤ maxLen) : Calls Tryd.prog 30 #[.string s, .string t] w fun e w' => e = .returned (.bool (sufB s t)) ∧ w = w' := by
  unfold maxLen at hs ht
  by_cases h : t.size ≤ s.size
  · obtain ⟨k, hk⟩ : ∃ k, s.size - t.size = k := ⟨_, rfl⟩
    have E1 : (s.size : Int) - (t.size : Int) = (k : Int) := by omega
    have HK := hid_ hk
    have h1 : ¬ (s.size : Int) < (t.size : Int) := by omega
    have h2 : (k : Int) ≤ (s.size : Int) := by omega
    clear hk
    go_enter Tryd.func30, Tryd.ntmps30
    go_wp2
    go_ret
    exact ⟨ret_bool (by unfold sufB; rw [HK.out, extract_end, ByteArray.toList_eq t]; simp [h]), rfl⟩
  · have e1 : sufB s t = false := by unfold sufB; simp [h]
    rw [e1]
    clear e1
    have h' : (s.size : Int) < (t.size : Int) := by omega
    go_enter Tryd.func30, Tryd.ntmps30
    go_wp2
    go_ret
    exact ⟨rfl, rfl⟩
theorem strings_HasSuffix (s t : ByteArray) (hs : s.size ≤ maxLen) (ht : t.size ≤ maxLen) : Calls Tryd.prog 22 #[.string s, .string t] w fun e w' => e = .returned (.bool (sufB s t)) ∧ w = w' := by
  go_enter Tryd.func22, Tryd.ntmps22
  go_wp2_with fail
  refine (lite_HasSuffix s t hs ht).mono ?_
  rintro _ _ ⟨rfl, rfl⟩
  go_wp2_with fail
  go_ret
  exact ⟨rfl, rfl⟩

/-- The rule matches the address. -/
def RuleM.hit (r : RuleM) (a : AdM) : Bool :=
  r.may && a.may && decide (r.low ≤ a.port) && decide (a.port ≤ r.high) &&
  (if r.kind = 1 then a.ip.length == r.net.length && startsB a.ip r.net r.bits.toNat else if r.kind = 2 then a.kind == 3 && (a.name.data.toList == r.name.data.toList || sufB a.name (⟨#[46]⟩ ++ r.name)) else true)
def adA (a : AdM) (v : Value) : Value := .agg #[.int .i64 a.kind, v, .string a.name, .int .i64 a.port]
/-- A rule, an address by value, as they read. -/
structure RdRu (w : World) (r : RuleM) (x : Option Addr) (c : Nat) : Prop where
  net : RdB w (.slice x r.net.length c) r.net
  name : r.name.size ≤ maxLen
structure RdAd (w : World) (a : AdM) (x : Option Addr) (c : Nat) : Prop where
  ip : RdB w (.slice x a.ip.length c) a.ip
  name : a.name.size ≤ maxLen
theorem RdRu.mono {w w' : World} {r : RuleM} {x : Option Addr} {c : Nat} (h : RdRu w r x c) (hb : Below w.heap.size w w') : RdRu w' r x c := ⟨h.net.mono hb, h.name⟩
theorem RdAd.mono {w w' : World} {r : AdM} {x : Option Addr} {c : Nat} (h : RdAd w r x c) (hb : Below w.heap.size w w') : RdAd w' r x c := ⟨h.ip.mono hb, h.name⟩

theorem RuleM.may_net {r : RuleM} (h : r.may = true) (hk : r.kind = 1) : (r.net.length = 4 ∨ r.net.length = 16) ∧ 0 ≤ r.bits ∧ r.bits ≤ 8 * r.net.length := by
  unfold RuleM.may RuleM.kindB at h
  rw [if_neg (by omega), if_pos hk] at h
  simp only [Bool.and_eq_true, Bool.or_eq_true, decide_eq_true_eq, beq_iff_eq] at h
  obtain ⟨_, ⟨⟨⟨h1, h2⟩, h3⟩, _⟩, _⟩ := h
  exact ⟨h1, h2, h3⟩
theorem RuleM.may_name {r : RuleM} (h : r.may = true) (hk : r.kind = 2) : r.name.size ≤ 64 := by
  unfold RuleM.may RuleM.kindB at h
  rw [if_neg (by omega), if_neg (by omega), if_pos hk] at h
  simp only [Bool.and_eq_true, decide_eq_true_eq, beq_iff_eq] at h
  obtain ⟨_, ⟨h1, _⟩, _⟩ := h
  unfold nameOk at h1
  simp only [Bool.and_eq_true, decide_eq_true_eq] at h1
  exact h1.2
theorem acl_MayV {r : RuleM} {x : Option Addr} {c : Nat} {b : Bool} (hm : Hid (r.may = b)) (hr : RdRu w r x c) : Calls Tryd.prog 6 #[ruV r (.slice x r.net.length c)] w fun e w' => e = .returned (.bool b) ∧ Below w.heap.size w w' := by
  rw [← hm.out]
  exact acl_May r x c hr.net hr.name
theorem addr_MayV {a : AdM} {x : Option Addr} {c : Nat} {b : Bool} (hm : Hid (a.may = b)) (hr : RdAd w a x c) : Calls Tryd.prog 20 #[adA a (.slice x a.ip.length c)] w fun e w' => e = .returned (.bool b) ∧ Below w.heap.size w w' := by
  rw [← hm.out]
  exact addr_May a x c hr.name hr.ip.len

set_option maxRecDepth 100000 in
set_option maxHeartbeats 2000000 in
theorem acl_Match (r : RuleM) (a : AdM) (x y : Option Addr) (c d : Nat) (hr : RdRu w r x c) (ha : RdAd w a y d) :
    Calls Tryd.prog 8 #[ruV r (.slice x r.net.length c), adA a (.slice y a.ip.length d)] w fun e w' => e = .returned (.bool (r.hit a)) ∧ Below w.heap.size w w' := by
  unfold ruV adA
  have hA : ∀ o p, Sat w ((w.alloc o).alloc p) (Blk (w.heap.size + 1) p :: Blk w.heap.size o :: []) := fun o p => (Sat.refl w).alloc2 o p
  have hB : ∀ o p, Below w.heap.size w ((w.alloc o).alloc p) := fun o p => (hA o p).below
  cases hm : r.may
  · have e1 : r.hit a = false := by unfold RuleM.hit; rw [hm]; simp
    rw [e1]
    have HM := hid_ hm
    clear hm e1
    go_enter Tryd.func8, Tryd.ntmps8
    go_wp2_with fail
    refine (acl_MayV HM (hr.mono (hB _ _))).mono ?_
    rintro _ w1 ⟨rfl, h1⟩
    have h2 := (hA _ _).under h1
    go_wp2_with fail
    go_ret
    exact ⟨rfl, h2.below⟩
  cases hm2 : a.may
  · have e1 : r.hit a = false := by unfold RuleM.hit; rw [hm2]; simp
    rw [e1]
    have HM := hid_ hm
    have HM2 := hid_ hm2
    clear hm hm2 e1
    go_enter Tryd.func8, Tryd.ntmps8
    go_wp2_with fail
    refine (acl_MayV HM (hr.mono (hB _ _))).mono ?_
    rintro _ w1 ⟨rfl, h1⟩
    have h2 := (hA _ _).under h1
    have p0 : w1.cell? ⟨w.heap.size + 1, 0, none⟩ = some _ := h2.cell 0 rfl
    have p1 : w1.cell? ⟨w.heap.size + 1, 1, none⟩ = some _ := h2.cell 1 rfl
    have p2 : w1.cell? ⟨w.heap.size + 1, 2, none⟩ = some _ := h2.cell 2 rfl
    have p3 : w1.cell? ⟨w.heap.size + 1, 3, none⟩ = some _ := h2.cell 3 rfl
    go_wp2_with fail
    refine (addr_MayV HM2 (ha.mono h2.below)).mono ?_
    rintro _ w3 ⟨rfl, h3⟩
    have h4 := h2.under h3
    go_wp2_with fail
    go_ret
    exact ⟨rfl, h4.below⟩
  have e0 : r.hit a = (decide (r.low ≤ a.port) && decide (a.port ≤ r.high) && (if r.kind = 1 then a.ip.length == r.net.length && startsB a.ip r.net r.bits.toNat else if r.kind = 2 then a.kind == 3 && (a.name.data.toList == r.name.data.toList || sufB a.name (⟨#[46]⟩ ++ r.name)) else true)) := by
    unfold RuleM.hit; rw [hm, hm2]; simp
  have HM := hid_ hm
  have HM2 := hid_ hm2
  have hn := RuleM.may_net hm
  have hnm := RuleM.may_name hm
  clear hm hm2
  by_cases hp : a.port < r.low ∨ r.high < a.port
  · have E1 := hid_ (show r.hit a = false by rw [e0, Bool.eq_false_iff]; simp; intro _ _; omega)
    have hp' : a.port < r.low ∨ (¬ a.port < r.low ∧ r.high < a.port) := by omega
    clear hp e0 hn hnm
    rcases hp' with hp | ⟨hp, hp2⟩
    all_goals
      go_enter Tryd.func8, Tryd.ntmps8
      go_wp2_with fail
      refine (acl_MayV HM (hr.mono (hB _ _))).mono ?_
      rintro _ w1 ⟨rfl, h1⟩
      have h2 := (hA _ _).under h1
      have p0 : w1.cell? ⟨w.heap.size + 1, 0, none⟩ = some _ := h2.cell 0 rfl
      have p1 : w1.cell? ⟨w.heap.size + 1, 1, none⟩ = some _ := h2.cell 1 rfl
      have p2 : w1.cell? ⟨w.heap.size + 1, 2, none⟩ = some _ := h2.cell 2 rfl
      have p3 : w1.cell? ⟨w.heap.size + 1, 3, none⟩ = some _ := h2.cell 3 rfl
      go_wp2_with fail
      refine (addr_MayV HM2 (ha.mono h2.below)).mono ?_
      rintro _ w3 ⟨rfl, h3⟩
      have h4 := h2.under h3
      clear p0 p1 p2 p3
      have p0 : w3.cell? ⟨w.heap.size + 1, 0, none⟩ = some _ := h4.cell 0 rfl
      have p1 : w3.cell? ⟨w.heap.size + 1, 1, none⟩ = some _ := h4.cell 1 rfl
      have p2 : w3.cell? ⟨w.heap.size + 1, 2, none⟩ = some _ := h4.cell 2 rfl
      have p3 : w3.cell? ⟨w.heap.size + 1, 3, none⟩ = some _ := h4.cell 3 rfl
      have r0 : w3.cell? ⟨w.heap.size, 0, none⟩ = some _ := h4.drop.cell 0 rfl
      have r2 : w3.cell? ⟨w.heap.size, 2, none⟩ = some _ := h4.drop.cell 2 rfl
      have r3 : w3.cell? ⟨w.heap.size, 3, none⟩ = some _ := h4.drop.cell 3 rfl
      have r4 : w3.cell? ⟨w.heap.size, 4, none⟩ = some _ := h4.drop.cell 4 rfl
      have r5 : w3.cell? ⟨w.heap.size, 5, none⟩ = some _ := h4.drop.cell 5 rfl
      have r6 : w3.cell? ⟨w.heap.size, 6, none⟩ = some _ := h4.drop.cell 6 rfl
      go_wp2
      go_ret
      exact ⟨ret_bool E1.out.symm, h4.below⟩
  · have hp1 : ¬ a.port < r.low := by omega
    have hp2 : ¬ r.high < a.port := by omega
    replace e0 : r.hit a = (if r.kind = 1 then a.ip.length == r.net.length && startsB a.ip r.net r.bits.toNat else if r.kind = 2 then a.kind == 3 && (a.name.data.toList == r.name.data.toList || sufB a.name (⟨#[46]⟩ ++ r.name)) else true) := by
      rw [e0, decide_eq_true (show r.low ≤ a.port by omega), decide_eq_true (show a.port ≤ r.high by omega)]; simp
    clear hp
    by_cases k1 : r.kind = 1
    · obtain ⟨hl, hb0, hb1⟩ := hn k1
      rw [if_pos k1] at e0
      have b1 : (r.kind == 1) = true := by simp [k1]
      clear hn hnm k1
      by_cases hlen : a.ip.length = r.net.length
      · obtain ⟨k, hk⟩ := Int.eq_ofNat_of_zero_le hb0
        have E1 := hid_ (show r.hit a = startsB a.ip r.net k by rw [e0, hlen, hk]; simp)
        have hst := fun (W : World) (h : Below w.heap.size w W) => acl_starts (w := W) _ _ a.ip r.net k (by omega) (by omega) (by omega) (ha.ip.mono h) (hr.net.mono h)
        have HST := hid_ hst
        have bl : ((a.ip.length : Int) == (r.net.length : Int)) = true := by simp [hlen]
        have HK := hid_ hk
        clear hst e0 hb0 hb1 hl hlen hk
        go_enter Tryd.func8, Tryd.ntmps8
        go_wp2_with fail
        refine (acl_MayV HM (hr.mono (hB _ _))).mono ?_
        rintro _ w1 ⟨rfl, h1⟩
        have h2 := (hA _ _).under h1
        have p0 : w1.cell? ⟨w.heap.size + 1, 0, none⟩ = some _ := h2.cell 0 rfl
        have p1 : w1.cell? ⟨w.heap.size + 1, 1, none⟩ = some _ := h2.cell 1 rfl
        have p2 : w1.cell? ⟨w.heap.size + 1, 2, none⟩ = some _ := h2.cell 2 rfl
        have p3 : w1.cell? ⟨w.heap.size + 1, 3, none⟩ = some _ := h2.cell 3 rfl
        go_wp2_with fail
        refine (addr_MayV HM2 (ha.mono h2.below)).mono ?_
        rintro _ w3 ⟨rfl, h3⟩
        have h4 := h2.under h3
        clear p0 p1 p2 p3
        have p0 : w3.cell? ⟨w.heap.size + 1, 0, none⟩ = some _ := h4.cell 0 rfl
        have p1 : w3.cell? ⟨w.heap.size + 1, 1, none⟩ = some _ := h4.cell 1 rfl
        have p2 : w3.cell? ⟨w.heap.size + 1, 2, none⟩ = some _ := h4.cell 2 rfl
        have p3 : w3.cell? ⟨w.heap.size + 1, 3, none⟩ = some _ := h4.cell 3 rfl
        have r0 : w3.cell? ⟨w.heap.size, 0, none⟩ = some _ := h4.drop.cell 0 rfl
        have r2 : w3.cell? ⟨w.heap.size, 2, none⟩ = some _ := h4.drop.cell 2 rfl
        have r3 : w3.cell? ⟨w.heap.size, 3, none⟩ = some _ := h4.drop.cell 3 rfl
        have r4 : w3.cell? ⟨w.heap.size, 4, none⟩ = some _ := h4.drop.cell 4 rfl
        have r5 : w3.cell? ⟨w.heap.size, 5, none⟩ = some _ := h4.drop.cell 5 rfl
        have r6 : w3.cell? ⟨w.heap.size, 6, none⟩ = some _ := h4.drop.cell 6 rfl
        go_wp2_with fail
        rw [HK.out]
        refine (HST.out _ h4.below).mono ?_
        rintro _ _ ⟨rfl, rfl⟩
        go_wp2_with fail
        go_ret
        exact ⟨ret_bool E1.out.symm, h4.below⟩
      · have E1 := hid_ (show r.hit a = false by rw [e0]; simp [hlen])
        have bl : ((a.ip.length : Int) == (r.net.length : Int)) = false := by rw [beq_eq_false_iff_ne]; omega
        clear e0 hlen hl hb0 hb1
        go_enter Tryd.func8, Tryd.ntmps8
        go_wp2_with fail
        refine (acl_MayV HM (hr.mono (hB _ _))).mono ?_
        rintro _ w1 ⟨rfl, h1⟩
        have h2 := (hA _ _).under h1
        have p0 : w1.cell? ⟨w.heap.size + 1, 0, none⟩ = some _ := h2.cell 0 rfl
        have p1 : w1.cell? ⟨w.heap.size + 1, 1, none⟩ = some _ := h2.cell 1 rfl
        have p2 : w1.cell? ⟨w.heap.size + 1, 2, none⟩ = some _ := h2.cell 2 rfl
        have p3 : w1.cell? ⟨w.heap.size + 1, 3, none⟩ = some _ := h2.cell 3 rfl
        go_wp2_with fail
        refine (addr_MayV HM2 (ha.mono h2.below)).mono ?_
        rintro _ w3 ⟨rfl, h3⟩
        have h4 := h2.under h3
        clear p0 p1 p2 p3
        have p0 : w3.cell? ⟨w.heap.size + 1, 0, none⟩ = some _ := h4.cell 0 rfl
        have p1 : w3.cell? ⟨w.heap.size + 1, 1, none⟩ = some _ := h4.cell 1 rfl
        have p2 : w3.cell? ⟨w.heap.size + 1, 2, none⟩ = some _ := h4.cell 2 rfl
        have p3 : w3.cell? ⟨w.heap.size + 1, 3, none⟩ = some _ := h4.cell 3 rfl
        have r0 : w3.cell? ⟨w.heap.size, 0, none⟩ = some _ := h4.drop.cell 0 rfl
        have r2 : w3.cell? ⟨w.heap.size, 2, none⟩ = some _ := h4.drop.cell 2 rfl
        have r3 : w3.cell? ⟨w.heap.size, 3, none⟩ = some _ := h4.drop.cell 3 rfl
        have r4 : w3.cell? ⟨w.heap.size, 4, none⟩ = some _ := h4.drop.cell 4 rfl
        have r5 : w3.cell? ⟨w.heap.size, 5, none⟩ = some _ := h4.drop.cell 5 rfl
        have r6 : w3.cell? ⟨w.heap.size, 6, none⟩ = some _ := h4.drop.cell 6 rfl
        go_wp2
        go_ret
        exact ⟨ret_bool E1.out.symm, h4.below⟩
    · have b1 : (r.kind == 1) = false := by simp [k1]
      rw [if_neg k1] at e0
      by_cases k2 : r.kind = 2
      · have hsz := hnm k2
        rw [if_pos k2] at e0
        have b2 : (r.kind == 2) = true := by simp [k2]
        have E1 := hid_ e0
        have hadd : ∀ W : World, (Op.stringOp .add ⟨#[46]⟩ r.name).run Tryd.prog W = .ok (.string (⟨#[46]⟩ ++ r.name)) W := fun W => run_string_add_sum (P := Tryd.prog) W ⟨#[46]⟩ r.name (by have : (⟨#[46]⟩ : ByteArray).size = 1 := rfl; omega)
        have hss : (⟨#[46]⟩ ++ r.name : ByteArray).size ≤ maxLen := by rw [ByteArray.size_append]; have : (⟨#[46]⟩ : ByteArray).size = 1 := rfl; unfold maxLen; omega
        have HSS := hid_ hss
        have han := hid_ ha.name
        clear e0 hn hnm k1 k2 hsz hss
        cases b3 : (a.kind == 3)
        · 
          go_enter Tryd.func8, Tryd.ntmps8
          go_wp2_with fail
          refine (acl_MayV HM (hr.mono (hB _ _))).mono ?_
          rintro _ w1 ⟨rfl, h1⟩
          have h2 := (hA _ _).under h1
          have p0 : w1.cell? ⟨w.heap.size + 1, 0, none⟩ = some _ := h2.cell 0 rfl
          have p1 : w1.cell? ⟨w.heap.size + 1, 1, none⟩ = some _ := h2.cell 1 rfl
          have p2 : w1.cell? ⟨w.heap.size + 1, 2, none⟩ = some _ := h2.cell 2 rfl
          have p3 : w1.cell? ⟨w.heap.size + 1, 3, none⟩ = some _ := h2.cell 3 rfl
          go_wp2_with fail
          refine (addr_MayV HM2 (ha.mono h2.below)).mono ?_
          rintro _ w3 ⟨rfl, h3⟩
          have h4 := h2.under h3
          clear p0 p1 p2 p3
          have p0 : w3.cell? ⟨w.heap.size + 1, 0, none⟩ = some _ := h4.cell 0 rfl
          have p1 : w3.cell? ⟨w.heap.size + 1, 1, none⟩ = some _ := h4.cell 1 rfl
          have p2 : w3.cell? ⟨w.heap.size + 1, 2, none⟩ = some _ := h4.cell 2 rfl
          have p3 : w3.cell? ⟨w.heap.size + 1, 3, none⟩ = some _ := h4.cell 3 rfl
          have r0 : w3.cell? ⟨w.heap.size, 0, none⟩ = some _ := h4.drop.cell 0 rfl
          have r2 : w3.cell? ⟨w.heap.size, 2, none⟩ = some _ := h4.drop.cell 2 rfl
          have r3 : w3.cell? ⟨w.heap.size, 3, none⟩ = some _ := h4.drop.cell 3 rfl
          have r4 : w3.cell? ⟨w.heap.size, 4, none⟩ = some _ := h4.drop.cell 4 rfl
          have r5 : w3.cell? ⟨w.heap.size, 5, none⟩ = some _ := h4.drop.cell 5 rfl
          have r6 : w3.cell? ⟨w.heap.size, 6, none⟩ = some _ := h4.drop.cell 6 rfl
          go_wp2
          go_ret
          exact ⟨ret_bool (by rw [E1.out, b3]; rfl), h4.below⟩
        · cases b4 : (a.name.toList == r.name.toList)
          · 
            go_enter Tryd.func8, Tryd.ntmps8
            go_wp2_with fail
            refine (acl_MayV HM (hr.mono (hB _ _))).mono ?_
            rintro _ w1 ⟨rfl, h1⟩
            have h2 := (hA _ _).under h1
            have p0 : w1.cell? ⟨w.heap.size + 1, 0, none⟩ = some _ := h2.cell 0 rfl
            have p1 : w1.cell? ⟨w.heap.size + 1, 1, none⟩ = some _ := h2.cell 1 rfl
            have p2 : w1.cell? ⟨w.heap.size + 1, 2, none⟩ = some _ := h2.cell 2 rfl
            have p3 : w1.cell? ⟨w.heap.size + 1, 3, none⟩ = some _ := h2.cell 3 rfl
            go_wp2_with fail
            refine (addr_MayV HM2 (ha.mono h2.below)).mono ?_
            rintro _ w3 ⟨rfl, h3⟩
            have h4 := h2.under h3
            clear p0 p1 p2 p3
            have p0 : w3.cell? ⟨w.heap.size + 1, 0, none⟩ = some _ := h4.cell 0 rfl
            have p1 : w3.cell? ⟨w.heap.size + 1, 1, none⟩ = some _ := h4.cell 1 rfl
            have p2 : w3.cell? ⟨w.heap.size + 1, 2, none⟩ = some _ := h4.cell 2 rfl
            have p3 : w3.cell? ⟨w.heap.size + 1, 3, none⟩ = some _ := h4.cell 3 rfl
            have r0 : w3.cell? ⟨w.heap.size, 0, none⟩ = some _ := h4.drop.cell 0 rfl
            have r2 : w3.cell? ⟨w.heap.size, 2, none⟩ = some _ := h4.drop.cell 2 rfl
            have r3 : w3.cell? ⟨w.heap.size, 3, none⟩ = some _ := h4.drop.cell 3 rfl
            have r4 : w3.cell? ⟨w.heap.size, 4, none⟩ = some _ := h4.drop.cell 4 rfl
            have r5 : w3.cell? ⟨w.heap.size, 5, none⟩ = some _ := h4.drop.cell 5 rfl
            have r6 : w3.cell? ⟨w.heap.size, 6, none⟩ = some _ := h4.drop.cell 6 rfl
            go_wp2_with fail
            refine (strings_HasSuffix _ _ han.out HSS.out).mono ?_
            rintro _ _ ⟨rfl, rfl⟩
            go_wp2_with fail
            go_ret
            exact ⟨ret_bool (by rw [E1.out, b3]; (try simp only [ByteArray.toList_eq] at *); simp_all), h4.below⟩
          · 
            go_enter Tryd.func8, Tryd.ntmps8
            go_wp2_with fail
            refine (acl_MayV HM (hr.mono (hB _ _))).mono ?_
            rintro _ w1 ⟨rfl, h1⟩
            have h2 := (hA _ _).under h1
            have p0 : w1.cell? ⟨w.heap.size + 1, 0, none⟩ = some _ := h2.cell 0 rfl
            have p1 : w1.cell? ⟨w.heap.size + 1, 1, none⟩ = some _ := h2.cell 1 rfl
            have p2 : w1.cell? ⟨w.heap.size + 1, 2, none⟩ = some _ := h2.cell 2 rfl
            have p3 : w1.cell? ⟨w.heap.size + 1, 3, none⟩ = some _ := h2.cell 3 rfl
            go_wp2_with fail
            refine (addr_MayV HM2 (ha.mono h2.below)).mono ?_
            rintro _ w3 ⟨rfl, h3⟩
            have h4 := h2.under h3
            clear p0 p1 p2 p3
            have p0 : w3.cell? ⟨w.heap.size + 1, 0, none⟩ = some _ := h4.cell 0 rfl
            have p1 : w3.cell? ⟨w.heap.size + 1, 1, none⟩ = some _ := h4.cell 1 rfl
            have p2 : w3.cell? ⟨w.heap.size + 1, 2, none⟩ = some _ := h4.cell 2 rfl
            have p3 : w3.cell? ⟨w.heap.size + 1, 3, none⟩ = some _ := h4.cell 3 rfl
            have r0 : w3.cell? ⟨w.heap.size, 0, none⟩ = some _ := h4.drop.cell 0 rfl
            have r2 : w3.cell? ⟨w.heap.size, 2, none⟩ = some _ := h4.drop.cell 2 rfl
            have r3 : w3.cell? ⟨w.heap.size, 3, none⟩ = some _ := h4.drop.cell 3 rfl
            have r4 : w3.cell? ⟨w.heap.size, 4, none⟩ = some _ := h4.drop.cell 4 rfl
            have r5 : w3.cell? ⟨w.heap.size, 5, none⟩ = some _ := h4.drop.cell 5 rfl
            have r6 : w3.cell? ⟨w.heap.size, 6, none⟩ = some _ := h4.drop.cell 6 rfl
            go_wp2
            go_ret
            exact ⟨ret_bool (by rw [E1.out, b3]; (try simp only [ByteArray.toList_eq] at *); simp_all), h4.below⟩
      · have E1 := hid_ (show r.hit a = true by rw [e0, if_neg k2])
        have b2 : (r.kind == 2) = false := by simp [k2]
        clear e0 hn hnm k1 k2
        go_enter Tryd.func8, Tryd.ntmps8
        go_wp2_with fail
        refine (acl_MayV HM (hr.mono (hB _ _))).mono ?_
        rintro _ w1 ⟨rfl, h1⟩
        have h2 := (hA _ _).under h1
        have p0 : w1.cell? ⟨w.heap.size + 1, 0, none⟩ = some _ := h2.cell 0 rfl
        have p1 : w1.cell? ⟨w.heap.size + 1, 1, none⟩ = some _ := h2.cell 1 rfl
        have p2 : w1.cell? ⟨w.heap.size + 1, 2, none⟩ = some _ := h2.cell 2 rfl
        have p3 : w1.cell? ⟨w.heap.size + 1, 3, none⟩ = some _ := h2.cell 3 rfl
        go_wp2_with fail
        refine (addr_MayV HM2 (ha.mono h2.below)).mono ?_
        rintro _ w3 ⟨rfl, h3⟩
        have h4 := h2.under h3
        clear p0 p1 p2 p3
        have p0 : w3.cell? ⟨w.heap.size + 1, 0, none⟩ = some _ := h4.cell 0 rfl
        have p1 : w3.cell? ⟨w.heap.size + 1, 1, none⟩ = some _ := h4.cell 1 rfl
        have p2 : w3.cell? ⟨w.heap.size + 1, 2, none⟩ = some _ := h4.cell 2 rfl
        have p3 : w3.cell? ⟨w.heap.size + 1, 3, none⟩ = some _ := h4.cell 3 rfl
        have r0 : w3.cell? ⟨w.heap.size, 0, none⟩ = some _ := h4.drop.cell 0 rfl
        have r2 : w3.cell? ⟨w.heap.size, 2, none⟩ = some _ := h4.drop.cell 2 rfl
        have r3 : w3.cell? ⟨w.heap.size, 3, none⟩ = some _ := h4.drop.cell 3 rfl
        have r4 : w3.cell? ⟨w.heap.size, 4, none⟩ = some _ := h4.drop.cell 4 rfl
        have r5 : w3.cell? ⟨w.heap.size, 5, none⟩ = some _ := h4.drop.cell 5 rfl
        have r6 : w3.cell? ⟨w.heap.size, 6, none⟩ = some _ := h4.drop.cell 6 rfl
        go_wp2
        go_ret
        exact ⟨ret_bool E1.out.symm, h4.below⟩
end
end Go.Proofs.YtmnjaaeljpleeaaDoor
