/- acl.First, Allows, and what every law of rules knows (awake): walked. -/
import Derived.Test.YtmnjaaeljpleeaaDoorAclF
namespace Go.Proofs.YtmnjaaeljpleeaaDoor
open Go Go.RowKit
set_option linter.unusedVariables false
set_option linter.unusedSimpArgs false

def allowsM (rs : List RuleM) (a : AdM) : Bool := match hitsTo rs a rs.length with | [] => false | k :: _ => ((rs[k]?).map (·.allow)).getD false
theorem hitsTo_mem {rs : List RuleM} {a : AdM} {m k : Nat} (h : k ∈ hitsTo rs a m) : k < m ∧ hitAt rs a k = true := by
  unfold hitsTo at h
  rw [List.mem_filter, List.mem_range] at h
  exact h
theorem first_cases (rs : List RuleM) (a : AdM) : (firstM rs a = -1 ∧ allowsM rs a = false ∧ hitsTo rs a rs.length = []) ∨ ∃ k r, k < rs.length ∧ rs[k]? = some r ∧ firstM rs a = (k : Int) ∧ allowsM rs a = r.allow ∧ r.hit a = true ∧ hitsTo rs a k = [] := by
  unfold firstM allowsM
  cases h : hitsTo rs a rs.length with
  | nil => exact .inl ⟨rfl, rfl, rfl⟩
  | cons k t =>
    right
    obtain ⟨hk, hh⟩ := hitsTo_mem (by rw [h]; exact List.mem_cons_self .. : k ∈ hitsTo rs a rs.length)
    obtain ⟨r, hr⟩ : ∃ r, rs[k]? = some r := ⟨_, List.getElem?_eq_getElem hk⟩
    refine ⟨k, r, hk, hr, rfl, by simp [hr], ?_, ?_⟩
    · unfold hitAt at hh; rw [hr] at hh; exact hh
    · cases h0 : hitsTo rs a k with
      | nil => rfl
      | cons j u =>
        exfalso
        obtain ⟨hj, _⟩ := hitsTo_mem (by rw [h0]; exact List.mem_cons_self .. : j ∈ hitsTo rs a k)
        obtain ⟨t', ht⟩ := hitsTo_pre rs a k (rs.length - k)
        rw [show k + (rs.length - k) = rs.length by omega, h, h0] at ht
        simp only [List.cons_append, List.cons.injEq] at ht
        omega

section
variable {w0 w : World} {L : List Assn}
theorem acl_First (la : Option Addr) (cap : Nat) (rs : List RuleM) (a : AdM) (y : Option Addr) (d : Nat) (hr : RdRus w la cap rs) (ha : RdAd w a y d) :
    Calls Tryd.prog 12 #[.slice la rs.length cap, adA a (.slice y a.ip.length d)] w fun e W' => e = .returned (.int .i64 (firstM rs a)) ∧ Below w.heap.size w W' :=
  callsIn_wide.1 (acl_First_in 3 (by omega) la cap rs a y d w hr ha)

set_option maxRecDepth 100000 in
set_option maxHeartbeats 1000000 in
theorem acl_Allows (la : Option Addr) (cap : Nat) (rs : List RuleM) (a : AdM) (y : Option Addr) (d : Nat) (hr : RdRus w la cap rs) (ha : RdAd w a y d) :
    Calls Tryd.prog 14 #[.slice la rs.length cap, adA a (.slice y a.ip.length d)] w fun e W' => e = .returned (.bool (allowsM rs a)) ∧ Below w.heap.size w W' := by
  have hB : ∀ o, Below w.heap.size w (w.alloc o) := fun o => (Below.refl _ _).alloc (Nat.le_refl _) _
  rcases first_cases rs a with ⟨f1, f2, _⟩ | ⟨k, r, hk, hri, f1, f2, _, _⟩
  · rw [f2]
    have F1 := hid_ f1
    clear f1 f2
    unfold adA
    go_enter Tryd.func14, Tryd.ntmps14
    go_wp2_with fail
    refine (acl_First la cap rs a y d (hr.mono (hB _)) (ha.mono (hB _))).mono ?_
    rintro _ w1 ⟨rfl, h1⟩
    rw [F1.out]
    go_wp2_with fail
    go_ret
    exact ⟨rfl, (hB _).trans (h1.mono (by simp))⟩
  · rw [f2]
    have F1 := hid_ f1
    obtain ⟨b, off, x, c, rfl, hb, hc, _⟩ := hr.at_ k r hri
    have hle := hr.le
    have hcap := hr.cap
    unfold maxLen at hcap
    have HC := hid_ hc
    obtain ⟨len, hlen⟩ : ∃ len, rs.length = len := ⟨_, rfl⟩
    have HL := hid_ hlen
    rw [hlen] at hk hle ⊢
    have hk' : (k : Int) < (len : Int) := by omega
    clear f1 f2 hc hlen
    unfold adA
    go_enter Tryd.func14, Tryd.ntmps14
    go_wp2_with fail
    rw [← HL.out]
    refine (acl_First _ cap rs a y d (hr.mono (hB _)) (ha.mono (hB _))).mono ?_
    rw [HL.out]
    rintro _ w1 ⟨rfl, h1⟩
    rw [F1.out]
    have hb1 := (hB (.cells #[.int .i64 a.kind, .slice y a.ip.length d, .string a.name, .int .i64 a.port] 25 (0, 0))).trans (h1.mono (by simp))
    have c1 : w1.cell? ⟨b, off + k * 7 + 1, none⟩ = some (.bool r.allow) := (hb1.cell (p := ⟨b, off + k * 7 + 1, none⟩) hb).trans (HC.out 1 _ rfl)
    go_wp2_with fail
    go_ret
    exact ⟨rfl, hb1⟩

theorem RdB.blk {b : Nat} {l : List UInt8} (hl : l.length ≤ 1000000) (h : Sat w0 w (Blk b (.cells (bytesC l).toArray 5 (0, 0)) :: L)) : RdB w (.slice (some ⟨b, 0, none⟩) l.length l.length) l :=
  OwnB.rd (t := 5) (OwnS.ofBlk (n := l.length) (cap := l.length) h (Nat.le_refl _) (by unfold maxLen; omega) (by simp) (by simp [List.take_of_length_le]))
theorem RdB.lit4 {b : Nat} {p q r s : UInt8} (h : Sat w0 w (Blk b (.cells #[.int .u8 p.toNat, .int .u8 q.toNat, .int .u8 r.toNat, .int .u8 s.toNat] 5 (0, 0)) :: L)) : RdB w (.slice (some ⟨b, 0, none⟩) 4 4) [p, q, r, s] :=
  RdB.blk (l := [p, q, r, s]) (by simp) h
theorem RdRus.one {b : Nat} {t : TypeId} {r : RuleM} {x : Option Addr} {c : Nat} (h : Sat w0 w (Blk b (.cells (ruC r (.slice x r.net.length c)).toArray t (0, 0)) :: L)) (hr : RdRu w r x c) : RdRus w (some ⟨b, 0, none⟩) 1 [r] := by
  refine ⟨Nat.le_refl _, by decide, fun i r' hi => ?_⟩
  match i, hi with
  | 0, hi =>
    obtain rfl : r = r' := by simpa using hi
    refine ⟨b, 0, x, c, rfl, h.lt, fun j u hj => ?_, hr⟩
    simp only [Nat.zero_mul, Nat.zero_add]
    rw [cell_at h.blk.1, List.getElem?_toArray]
    exact hj
  | i + 1, hi => simp at hi
theorem RdRus.two {b : Nat} {t : TypeId} {r r2 : RuleM} {x x2 : Option Addr} {c c2 : Nat} (h : Sat w0 w (Blk b (.cells (ruC r (.slice x r.net.length c) ++ ruC r2 (.slice x2 r2.net.length c2)).toArray t (0, 0)) :: L)) (hr : RdRu w r x c) (hr2 : RdRu w r2 x2 c2) : RdRus w (some ⟨b, 0, none⟩) 2 [r, r2] := by
  refine ⟨Nat.le_refl _, by decide, fun i r' hi => ?_⟩
  match i, hi with
  | 0, hi =>
    obtain rfl : r = r' := by simpa using hi
    refine ⟨b, 0, x, c, rfl, h.lt, fun j u hj => ?_, hr⟩
    have hj7 : j < 7 := (List.getElem?_eq_some_iff.1 hj).1
    simp only [Nat.zero_mul, Nat.zero_add]
    rw [cell_at h.blk.1, List.getElem?_toArray, List.getElem?_append_left hj7]
    exact hj
  | 1, hi =>
    obtain rfl : r2 = r' := by simpa using hi
    refine ⟨b, 0, x2, c2, rfl, h.lt, fun j u hj => ?_, hr2⟩
    rw [Nat.one_mul, Nat.zero_add, cell_at h.blk.1, List.getElem?_toArray, List.getElem?_append_right (by show 7 ≤ 7 + j; omega)]
    rw [show 7 + j - (ruC r (.slice x r.net.length c)).length = j by show 7 + j - 7 = j; omega]
    exact hj
  | i + 2, hi => simp at hi

def aw1 : RuleM := ⟨1, false, [10, 1, 0, 0], 16, ⟨#[]⟩, 0, 65535⟩
def aw2 : RuleM := ⟨0, true, [], 0, ⟨#[]⟩, 0, 65535⟩
def awa : AdM := ⟨1, [10, 1, 2, 3], ⟨#[]⟩, 80⟩
def awb : AdM := ⟨1, [10, 2, 2, 3], ⟨#[]⟩, 80⟩
theorem aw_a : allowsM [aw1, aw2] awa = false := by decide +kernel
theorem aw_b : allowsM [aw1, aw2] awb = true := by decide +kernel
theorem aw_f : firstM [aw1, aw2] awb = 1 := by decide +kernel

set_option maxRecDepth 100000 in
set_option maxHeartbeats 1000000 in
theorem acl_awake (hs : Sat w0 w L) : Calls Tryd.prog 5 #[] w fun e w' => e = .returned (.bool true) ∧ Sat w0 w' L := by
  go_enter Tryd.func5, Tryd.ntmps5
  go_wp2_with fail
  have s1 := hs.alloc (.cells #[.int .u8 10, .int .u8 1, .int .u8 0, .int .u8 0] 5 (0, 0))
  have s2 := s1.alloc (.cells (ruC aw1 (.slice (some ⟨w.heap.size, 0, none⟩) aw1.net.length 4) ++ ruC aw2 (.slice none aw2.net.length 0)).toArray 29 (0, 0))
  have s3 := s2.alloc (.cells #[.int .u8 10, .int .u8 1, .int .u8 2, .int .u8 3] 5 (0, 0))
  have s4 := s3.alloc (.cells #[.int .i64 1, .slice (some ⟨w.heap.size + 1 + 1, 0, none⟩) 4 4, .string ⟨#[]⟩, .int .i64 80] 25 (0, 0))
  have s5 := s4.alloc (.cells #[.int .u8 10, .int .u8 2, .int .u8 2, .int .u8 3] 5 (0, 0))
  have s6 := s5.alloc (.cells #[.int .i64 1, .slice (some ⟨w.heap.size + 1 + 1 + 1 + 1, 0, none⟩) 4 4, .string ⟨#[]⟩, .int .i64 80] 25 (0, 0))
  clear s1 s2 s3 s4 s5 hs
  simp only [World.size_alloc] at s6
  have hn := RdB.lit4 (p := 10) (q := 1) (r := 0) (s := 0) (Sat.front [_, _, _, _, _] s6)
  have hia := RdB.lit4 (p := 10) (q := 1) (r := 2) (s := 3) (Sat.front [_, _, _] s6)
  have hib := RdB.lit4 (p := 10) (q := 2) (r := 2) (s := 3) (Sat.front [_] s6)
  have hru := RdRus.two (r := aw1) (r2 := aw2) (Sat.front [_, _, _, _] s6) ⟨hn, by decide⟩ ⟨OwnB.rd (t := 5) (OwnB.nilI s6), by decide⟩
  have hda : RdAd _ awa (some ⟨w.heap.size + 1 + 1, 0, none⟩) 4 := ⟨hia, by decide⟩
  have hdb : RdAd _ awb (some ⟨w.heap.size + 1 + 1 + 1 + 1, 0, none⟩) 4 := ⟨hib, by decide⟩
  refine (acl_Allows _ 2 [aw1, aw2] awa _ 4 hru hda).mono ?_
  rw [aw_a]
  rintro _ w7 ⟨rfl, h7⟩
  have s7 := s6.under h7
  replace hru := hru.mono h7
  replace hdb := hdb.mono h7
  have c0 : w7.cell? ⟨w.heap.size + 1 + 1 + 1 + 1 + 1, 0, none⟩ = some _ := s7.cell 0 rfl
  have c1 : w7.cell? ⟨w.heap.size + 1 + 1 + 1 + 1 + 1, 1, none⟩ = some _ := s7.cell 1 rfl
  have c2 : w7.cell? ⟨w.heap.size + 1 + 1 + 1 + 1 + 1, 2, none⟩ = some _ := s7.cell 2 rfl
  have c3 : w7.cell? ⟨w.heap.size + 1 + 1 + 1 + 1 + 1, 3, none⟩ = some _ := s7.cell 3 rfl
  go_wp2_with fail
  refine (acl_Allows _ 2 [aw1, aw2] awb _ 4 hru hdb).mono ?_
  rw [aw_b]
  rintro _ w8 ⟨rfl, h8⟩
  have s8 := s7.under h8
  replace hru := hru.mono h8
  replace hdb := hdb.mono h8
  clear c0 c1 c2 c3
  have c0 : w8.cell? ⟨w.heap.size + 1 + 1 + 1 + 1 + 1, 0, none⟩ = some _ := s8.cell 0 rfl
  have c1 : w8.cell? ⟨w.heap.size + 1 + 1 + 1 + 1 + 1, 1, none⟩ = some _ := s8.cell 1 rfl
  have c2 : w8.cell? ⟨w.heap.size + 1 + 1 + 1 + 1 + 1, 2, none⟩ = some _ := s8.cell 2 rfl
  have c3 : w8.cell? ⟨w.heap.size + 1 + 1 + 1 + 1 + 1, 3, none⟩ = some _ := s8.cell 3 rfl
  go_wp2_with fail
  refine (acl_First _ 2 [aw1, aw2] awb _ 4 hru hdb).mono ?_
  rw [aw_f]
  rintro _ w9 ⟨rfl, h9⟩
  go_wp2_with fail
  go_ret
  exact ⟨rfl, (s8.under h9).drop.drop.drop.drop.drop.drop⟩
end
end Go.Proofs.YtmnjaaeljpleeaaDoor
