/- The law AclFirst: light, walked. -/
import Derived.Deep.RegionHeld3
import Derived.Test.YtmnjaaeljpleeaaDoorAclA
namespace Go.Proofs.YtmnjaaeljpleeaaDoor
open Go Go.RowKit
set_option linter.unusedVariables false
set_option linter.unusedSimpArgs false

def LightOk (w : World) (n : Nat) (e : Ending) (w' : World) : Prop := ∃ b : Bool, e = .returned (.bool b) ∧ (b = true → n ≤ 40) ∧ Below w.heap.size w w'
section
variable {w0 w w' : World} {L : List Assn}
theorem below_up {w1 w2 : World} {B : Nat} (h1 : Below B w w1) (h2 : Below w1.heap.size w1 w2) (hB : B ≤ w.heap.size) : Below B w w2 := h1.trans (h2.mono (Nat.le_trans hB h1.size))
set_option maxRecDepth 100000 in
set_option maxHeartbeats 4000000 in
theorem acl_light (la : Option Addr) (cap : Nat) (rs : List RuleM) (a : AdM) (y : Option Addr) (d : Nat) (hr : RdRus w la cap rs) (ha : RdAd w a y d) :
    Calls Tryd.prog 4 #[.slice la rs.length cap, adA a (.slice y a.ip.length d)] w (LightOk w rs.length) := by
  unfold adA
  have hbox := (Sat.refl w).alloc (.cells #[.int .i64 a.kind, .slice y a.ip.length d, .string a.name, .int .i64 a.port] 25 (0, 0))
  have hml := hr.le
  have hmc := hr.cap
  unfold maxLen at hmc
  go_enter Tryd.func4, Tryd.ntmps4
  go_wp2_with fail
  go_loopw [9] (fun vi wr => ∃ i : Nat, i ≤ rs.length ∧ i ≤ 40 ∧ vi = .int .i64 i ∧ Sat w wr [Blk w.heap.size (.cells #[.int .i64 a.kind, .slice y a.ip.length d, .string a.name, .int .i64 a.port] 25 (0, 0))]) (fun vi _ => rs.length - (intOf vi).toNat)
  case atStart => exact ⟨0, by omega, by omega, rfl, hbox⟩
  case round =>
    obtain ⟨i, hi, hi40, rfl, hb⟩ := hrel
    clear hbox
    by_cases hlt : i < rs.length
    · have z1 : (i : Int) < (rs.length : Int) := by omega
      obtain ⟨b, off, x, c, rfl, hbl, hc, _⟩ := hr.at_ i rs[i] (List.getElem?_eq_getElem hlt)
      obtain ⟨r, hrr⟩ : ∃ r, rs[i] = r := ⟨_, rfl⟩
      rw [hrr] at hc
      have hcw : ∀ j u, (ruC r (.slice x r.net.length c))[j]? = some u → wr.cell? ⟨b, off + i * 7 + j, none⟩ = some u := fun j u hj => (hb.below.cell (p := ⟨b, off + i * 7 + j, none⟩) hbl).trans (hc j u hj)
      have q0 : wr.cell? ⟨b, off + i * 7, none⟩ = some (.int .i64 r.kind) := hcw 0 _ rfl
      have q1 := hcw 1 _ rfl
      have q2 := hcw 2 _ rfl
      have q3 := hcw 3 _ rfl
      have q4 := hcw 4 _ rfl
      have q5 := hcw 5 _ rfl
      have q6 := hcw 6 _ rfl
      have hb2 := hb.alloc_ (.cells #[.int .i64 r.kind, .bool r.allow, .slice x r.net.length c, .int .i64 r.bits, .string r.name, .int .i64 r.low, .int .i64 r.high] 29 (0, 0))
      clear hc hcw hrr
      by_cases h40 : i = 40
      · have z2 : (40 : Int) ≤ (i : Int) := by omega
        clear h40
        go_wp2_with fail
        go_ret
        exact ⟨false, rfl, fun h => (by cases h), hb2.below⟩
      have z2 : ¬ (40 : Int) ≤ (i : Int) := by omega
      by_cases hn : 50 < r.net.length
      · have z3 : (50 : Int) < (r.net.length : Int) := by omega
        clear hn
        go_wp2_with fail
        go_ret
        exact ⟨false, rfl, fun h => (by cases h), hb2.below⟩
      have z3 : ¬ (50 : Int) < (r.net.length : Int) := by omega
      by_cases hm : 200 < r.name.size
      · have z4 : (200 : Int) < (r.name.size : Int) := by omega
        clear hn hm
        go_wp2_with fail
        go_ret
        exact ⟨false, rfl, fun h => (by cases h), hb2.below⟩
      have z4 : ¬ (200 : Int) < (r.name.size : Int) := by omega
      clear hn hm
      go_wp2_with fail
      go_roundw
      case rel => exact ⟨i + 1, by omega, by omega, by go_num, hb2⟩
      case measure => simp [intOf]; omega
    · have z1 : ¬ (i : Int) < (rs.length : Int) := by omega
      have hl40 := hid_ (show rs.length ≤ 40 by omega)
      have c1 : wr.cell? ⟨w.heap.size, 1, none⟩ = some (.slice y a.ip.length d) := hb.cell 1 rfl
      have c2 : wr.cell? ⟨w.heap.size, 2, none⟩ = some (.string a.name) := hb.cell 2 rfl
      by_cases h1 : a.ip.length ≤ 50
      · have g1 : (a.ip.length : Int) ≤ 50 := by omega
        by_cases h2 : a.name.size ≤ 200
        · have g2 : (a.name.size : Int) ≤ 200 := by omega
          clear h1 h2
          go_wp2_with fail
          go_ret
          exact ⟨true, rfl, fun _ => hl40.out, hb.below⟩
        · have g2 : ¬ (a.name.size : Int) ≤ 200 := by omega
          clear h1 h2
          go_wp2_with fail
          go_ret
          exact ⟨false, rfl, fun h => (by first | cases h | exact hl40.out), hb.below⟩
      · have g1 : ¬ (a.ip.length : Int) ≤ 50 := by omega
        clear h1
        go_wp2_with fail
        go_ret
        exact ⟨false, rfl, fun h => (by first | cases h | exact hl40.out), hb.below⟩
end
end Go.Proofs.YtmnjaaeljpleeaaDoor
