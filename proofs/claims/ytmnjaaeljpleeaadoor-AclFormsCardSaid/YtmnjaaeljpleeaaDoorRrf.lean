/- The document's rules: First, Allows, given Match; walked. -/
import Derived.Test.YtmnjaaeljpleeaaDoorRru
namespace Go.Proofs.YtmnjaaeljpleeaaDoor
open Go Go.RowKit
set_option linter.unusedVariables false
set_option linter.unusedSimpArgs false

/-- What Match answers, wherever it stands. -/
def RMatchIs : Prop := ∀ (w : World) (r : RuleM) (a : AdM) (x y : Option Addr) (c d : Nat), RdRu w r x c → RdAd w a y d →
    Calls Tryd.prog 9 #[ruV r (.slice x r.net.length c), adA a (.slice y a.ip.length d)] w fun e w' => e = .returned (.bool (r.hit a)) ∧ Below w.heap.size w w'
theorem rfirst_at {rs : List RuleM} {a : AdM} {i : Nat} (hi : i < rs.length) (h0 : hitsTo rs a i = []) (hh : hitAt rs a i = true) : firstM rs a = (i : Int) := by
  obtain ⟨t, ht⟩ := hitsTo_pre rs a (i + 1) (rs.length - (i + 1))
  rw [show i + 1 + (rs.length - (i + 1)) = rs.length by omega, hitsTo_succ, h0, hh] at ht
  unfold firstM
  rw [ht]
  rfl
section
variable {w0 w : World} {L : List Assn}
set_option maxRecDepth 100000 in
set_option maxHeartbeats 2000000 in
theorem ref_First (hM : RMatchIs) (la : Option Addr) (cap : Nat) (rs : List RuleM) (a : AdM) (y : Option Addr) (d : Nat) (hr : RdRus w la cap rs) (ha : RdAd w a y d) :
    Calls Tryd.prog 13 #[.slice la rs.length cap, adA a (.slice y a.ip.length d)] w fun e W' => e = .returned (.int .i64 (firstM rs a)) ∧ Below w.heap.size w W' := by
  have hcap := hr.cap
  have hle := hr.le
  unfold maxLen at hcap
  obtain ⟨n, hn⟩ : ∃ n, rs.length = n := ⟨_, rfl⟩
  have HN := hid_ hn
  rw [hn] at hle ⊢
  clear hn
  have hs := (Sat.refl w).alloc (.cells #[.int .i64 a.kind, .slice y a.ip.length d, .string a.name, .int .i64 a.port] 25 (0, 0))
  unfold adA
  go_enter Tryd.func13, Tryd.ntmps13
  go_wp2_with fail
  go_loopg [9] n (fun gg v9 wr => ∃ i : Nat, i ≤ n ∧ n - i ≤ gg ∧ v9 = .int .i64 i ∧ hitsTo rs a i = [] ∧ Sat w wr [Blk w.heap.size (.cells #[.int .i64 a.kind, .slice y a.ip.length d, .string a.name, .int .i64 a.port] 25 (0, 0))])
  case atStart => exact ⟨0, Nat.zero_le _, by omega, rfl, rfl, hs⟩
  case round =>
    obtain ⟨i, hi, hgg, rfl, h0, h1⟩ := hrel
    have H0 := hid_ h0
    clear hs h0
    by_cases hlt : i < n
    · obtain ⟨r, hri⟩ : ∃ r, rs[i]? = some r := ⟨_, List.getElem?_eq_getElem (by rw [HN.out]; exact hlt)⟩
      obtain ⟨b, off, x, c, rfl, hb, hc, hru⟩ := hr.at_ i r hri
      have hcell : ∀ j u, (ruC r (.slice x r.net.length c))[j]? = some u → wr.cell? ⟨b, off + i * 7 + j, none⟩ = some u := fun j u hj => (h1.below.cell (p := ⟨b, off + i * 7 + j, none⟩) hb).trans (hc j u hj)
      have r0 : wr.cell? ⟨b, off + i * 7, none⟩ = some (.int .i64 r.kind) := hcell 0 _ rfl
      have r1 : wr.cell? ⟨b, off + i * 7 + 1, none⟩ = some (.bool r.allow) := hcell 1 _ rfl
      have r2 : wr.cell? ⟨b, off + i * 7 + 2, none⟩ = some (.slice x r.net.length c) := hcell 2 _ rfl
      have r3 : wr.cell? ⟨b, off + i * 7 + 3, none⟩ = some (.int .i64 r.bits) := hcell 3 _ rfl
      have r4 : wr.cell? ⟨b, off + i * 7 + 4, none⟩ = some (.string r.name) := hcell 4 _ rfl
      have r5 : wr.cell? ⟨b, off + i * 7 + 5, none⟩ = some (.int .i64 r.low) := hcell 5 _ rfl
      have r6 : wr.cell? ⟨b, off + i * 7 + 6, none⟩ = some (.int .i64 r.high) := hcell 6 _ rfl
      have h2 := h1.alloc (.cells #[.int .i64 r.kind, .bool r.allow, .slice x r.net.length c, .int .i64 r.bits, .string r.name, .int .i64 r.low, .int .i64 r.high] 29 (0, 0))
      have p0 := h2.drop.cell 0 (v := .int .i64 a.kind) rfl
      have p1 := h2.drop.cell 1 (v := .slice y a.ip.length d) rfl
      have p2 := h2.drop.cell 2 (v := .string a.name) rfl
      have p3 := h2.drop.cell 3 (v := .int .i64 a.port) rfl
      have HM := hM _ r a x y c d (hru.mono h2.below) (ha.mono h2.below)
      have hat : hitAt rs a i = r.hit a := by unfold hitAt; rw [hri]; rfl
      have HAT := hid_ hat
      unfold ruV adA at HM
      have HM := hid_ HM
      have z1 : 0 ≤ (i : Int) ∧ (i : Int) < (n : Int) := by omega
      clear hcell hc hri hat
      go_wp2_with fail
      refine HM.out.mono ?_
      rintro _ w3 ⟨rfl, hb3⟩
      have h3 := h2.under hb3
      cases hh : r.hit a
      · have HS := hid_ (show hitsTo rs a (i + 1) = [] by rw [hitsTo_succ, H0.out, HAT.out, hh]; rfl)
        clear hh
        go_wp2_with fail
        go_roundg (n - (i + 1))
        case measure => omega
        case rel => exact ⟨i + 1, by omega, by omega, by go_num, HS.out, h3.drop⟩
      · have HF := hid_ (rfirst_at (rs := rs) (a := a) (i := i) (by rw [HN.out]; exact hlt) H0.out (by rw [HAT.out, hh]))
        clear hh
        go_wp2_with fail
        go_ret
        rw [HF.out]
        exact ⟨rfl, h3.below⟩
    · obtain rfl : i = n := by omega
      have HF := hid_ (show firstM rs a = -1 by unfold firstM; rw [HN.out, H0.out])
      go_wp2_with fail
      go_ret
      rw [HF.out]
      exact ⟨rfl, h1.below⟩
set_option maxRecDepth 100000 in
set_option maxHeartbeats 1000000 in
theorem ref_Allows (hM : RMatchIs) (la : Option Addr) (cap : Nat) (rs : List RuleM) (a : AdM) (y : Option Addr) (d : Nat) (hr : RdRus w la cap rs) (ha : RdAd w a y d) :
    Calls Tryd.prog 15 #[.slice la rs.length cap, adA a (.slice y a.ip.length d)] w fun e W' => e = .returned (.bool (allowsM rs a)) ∧ Below w.heap.size w W' := by
  have hB : ∀ o, Below w.heap.size w (w.alloc o) := fun o => (Below.refl _ _).alloc (Nat.le_refl _) _
  rcases first_cases rs a with ⟨f1, f2, _⟩ | ⟨k, r, hk, hri, f1, f2, _, _⟩
  · rw [f2]
    have F1 := hid_ f1
    clear f1 f2
    unfold adA
    go_enter Tryd.func15, Tryd.ntmps15
    go_wp2_with fail
    refine (ref_First hM la cap rs a y d (hr.mono (hB _)) (ha.mono (hB _))).mono ?_
    rintro _ w1 ⟨rfl, h1⟩
    rw [F1.out]
    go_wp2_with fail
    go_ret
    exact ⟨rfl, (hB _).trans (h1.mono (by simp))⟩
  · rw [f2]
    have F1 := hid_ f1
    obtain ⟨b, off, x, c, rfl, hb, hc, _⟩ := hr.at_ k r hri
    have hle := hr.le
    have hcap := hr.cap
    unfold maxLen at hcap
    have HC := hid_ hc
    obtain ⟨len, hlen⟩ : ∃ len, rs.length = len := ⟨_, rfl⟩
    have HL := hid_ hlen
    rw [hlen] at hk hle ⊢
    have hk' : (k : Int) < (len : Int) := by omega
    clear f1 f2 hc hlen
    unfold adA
    go_enter Tryd.func15, Tryd.ntmps15
    go_wp2_with fail
    rw [← HL.out]
    refine (ref_First hM _ cap rs a y d (hr.mono (hB _)) (ha.mono (hB _))).mono ?_
    rw [HL.out]
    rintro _ w1 ⟨rfl, h1⟩
    rw [F1.out]
    have hb1 := (hB (.cells #[.int .i64 a.kind, .slice y a.ip.length d, .string a.name, .int .i64 a.port] 25 (0, 0))).trans (h1.mono (by simp))
    have c1 : w1.cell? ⟨b, off + k * 7 + 1, none⟩ = some (.bool r.allow) := (hb1.cell (p := ⟨b, off + k * 7 + 1, none⟩) hb).trans (HC.out 1 _ rfl)
    go_wp2_with fail
    go_ret
    exact ⟨rfl, hb1⟩
end
end Go.Proofs.YtmnjaaeljpleeaaDoor
