/- The laws' own helper Light, walked. -/
import Derived.Deep.DeepCutAuto
import Derived.Test.YtahnjbbjfjlpoaaTeC
namespace Go.Proofs.Ytahnjbbjfjlpoaa
open Go Go.RowKit Go.Shelf
set_option linter.unusedVariables false
set_option linter.unusedSimpArgs false
def LightOk (w : World) (n : Nat) (e : Ending) (w' : World) : Prop := ∃ k : Int, e = .returned (.int .i64 k) ∧ ((k = 0 ∧ n ≤ 20) ∨ 0 < k) ∧ Below w.heap.size w w'
section
variable {w0 w : World} {L : List Assn}
set_option maxRecDepth 100000 in
set_option maxHeartbeats 4000000 in
theorem ring_Light (la : Option Addr) (cap : Nat) (vs : List TenV) (hr : RowT w la cap vs) (hv : ∀ v ∈ vs, v.rd w) : Calls Try.prog 7 #[.slice la vs.length cap] w (LightOk w vs.length) := by
  have hcap := hr.cap
  have hle := hr.le
  unfold maxLen at hcap
  obtain ⟨n, hn⟩ : ∃ n, vs.length = n := ⟨_, rfl⟩
  have HN := hid_ hn
  rw [hn] at hle ⊢
  clear hn
  by_cases h20 : 20 < n
  · have q : decide ((20 : Int) < (n : Int)) = true := by simp; omega
    clear h20
    go_enter Try.func7, Try.ntmps7
    go_wp2_with fail
    go_ret
    exact ⟨1, rfl, .inr (by decide), Below.refl _ _⟩
  have q : decide ((20 : Int) < (n : Int)) = false := by simp; omega
  have H20 := hid_ h20
  clear h20
  go_enter Try.func7, Try.ntmps7
  go_wp2_with fail
  go_loopg [4, 6, 12] n (fun gg _ _ v12 wr => ∃ i : Nat, i ≤ n ∧ n - i ≤ gg ∧ v12 = .int .i64 i ∧ Below w.heap.size w wr)
  case atStart => exact ⟨0, by omega, by omega, rfl, Below.refl _ _⟩
  case round =>
    obtain ⟨i, hi, hgg, rfl, h1⟩ := hrel
    by_cases hlt : i < n
    · obtain ⟨v, hri⟩ : ∃ v, vs[i]? = some v := ⟨_, List.getElem?_eq_getElem (by rw [HN.out]; exact hlt)⟩
      obtain ⟨b, off, rfl, hb, hc⟩ := (hr.mono h1).at_ i v hri
      have r0 : wr.cell? ⟨b, off + i * 4, none⟩ = some (.int .i64 v.t.id) := hc 0 _ rfl
      have r1 : wr.cell? ⟨b, off + i * 4 + 1, none⟩ = some (.slice v.kx v.t.key.length v.kc) := hc 1 _ rfl
      have r2 : wr.cell? ⟨b, off + i * 4 + 2, none⟩ = some (.int .i64 v.t.streams) := hc 2 _ rfl
      have r3 : wr.cell? ⟨b, off + i * 4 + 3, none⟩ = some (.slice v.rx v.t.rules.length v.rc) := hc 3 _ rfl
      have hvr := (hv v (List.mem_of_getElem? hri)).mono h1
      have h2 := (Sat.refl wr).alloc (.cells #[.int .i64 v.t.id, .slice v.kx v.t.key.length v.kc, .int .i64 v.t.streams, .slice v.rx v.t.rules.length v.rc] 28 (0, 0))
      have hrr := (hvr.mono h2.below).rules
      have hkl := hvr.key.len
      unfold maxLen at hkl
      have hrl := Nat.le_trans hrr.le hrr.cap
      unfold maxLen at hrl
      have z1 : 0 ≤ (i : Int) ∧ (i : Int) < (n : Int) := by omega
      clear hc hri
      by_cases hk : 60 < v.t.key.length
      · have q2 : decide ((60 : Int) < (v.t.key.length : Int)) = true := by simp; omega
        clear hk
        go_wp2_with fail
        go_ret
        exact ⟨2, rfl, .inr (by decide), h1.trans (h2.below.mono h1.size)⟩
      have q2 : decide ((60 : Int) < (v.t.key.length : Int)) = false := by simp; omega
      by_cases hr40 : 40 < v.t.rules.length
      · have q3 : decide ((40 : Int) < (v.t.rules.length : Int)) = true := by simp; omega
        clear hk hr40
        go_wp2_with fail
        go_ret
        exact ⟨2, rfl, .inr (by decide), h1.trans (h2.below.mono h1.size)⟩
      have q3 : decide ((40 : Int) < (v.t.rules.length : Int)) = false := by simp; omega
      obtain ⟨m, hm⟩ : ∃ m, v.t.rules.length = m := ⟨_, rfl⟩
      have HM := hid_ hm
      obtain ⟨wo, hwo⟩ : ∃ wo, wr.alloc (.cells #[.int .i64 v.t.id, .slice v.kx v.t.key.length v.kc, .int .i64 v.t.streams, .slice v.rx v.t.rules.length v.rc] 28 (0, 0)) = wo := ⟨_, rfl⟩
      have hwB : Below w.heap.size w wo := by rw [← hwo]; exact h1.trans (h2.below.mono h1.size)
      rw [hwo] at hrr h2
      have ct3 := h2.cell 3 (v := .slice v.rx m v.rc) (by rw [hm]; rfl)
      have ct1 := h2.cell 1 (v := .slice v.kx v.t.key.length v.kc) rfl
      rw [hm] at r3 q3 hrl hwo
      clear hk hr40 h1 h2 hvr hm
      go_wp2_with fail
      go_loopg [6, 29] m (fun g2 _ v29 ws => ∃ j : Nat, j ≤ m ∧ m - j ≤ g2 ∧ v29 = .int .i64 j ∧ Below wo.heap.size wo ws)
      case atStart => exact ⟨0, by omega, by omega, rfl, Below.refl _ _⟩
      case round =>
        obtain ⟨j, hj, hg2, rfl, h3⟩ := hrel
        clear ct1 ct3 r0 r1 r2 r3 hwo
        have hw3 : Below w.heap.size w wr := hwB.trans (h3.mono hwB.size)
        by_cases hltj : j < m
        · obtain ⟨r, hrj⟩ : ∃ r, v.t.rules[j]? = some r := ⟨_, List.getElem?_eq_getElem (by rw [HM.out]; exact hltj)⟩
          obtain ⟨b2, off2, x, c, hx2, hb2, hc2, hru⟩ := (hrr.mono h3).at_ j r hrj
          have hvx : v.rx = some ⟨b2, off2, none⟩ := hx2
          have s0 : wr.cell? ⟨b2, off2 + j * 7, none⟩ = some (.int .i64 r.kind) := hc2 0 _ rfl
          have s1 : wr.cell? ⟨b2, off2 + j * 7 + 1, none⟩ = some (.bool r.allow) := hc2 1 _ rfl
          have s2 : wr.cell? ⟨b2, off2 + j * 7 + 2, none⟩ = some (.slice x r.net.length c) := hc2 2 _ rfl
          have s3 : wr.cell? ⟨b2, off2 + j * 7 + 3, none⟩ = some (.int .i64 r.bits) := hc2 3 _ rfl
          have s4 : wr.cell? ⟨b2, off2 + j * 7 + 4, none⟩ = some (.string r.name) := hc2 4 _ rfl
          have s5 : wr.cell? ⟨b2, off2 + j * 7 + 5, none⟩ = some (.int .i64 r.low) := hc2 5 _ rfl
          have s6 : wr.cell? ⟨b2, off2 + j * 7 + 6, none⟩ = some (.int .i64 r.high) := hc2 6 _ rfl
          have hwa : Below wo.heap.size wo (wr.alloc (.cells #[.int .i64 r.kind, .bool r.allow, .slice x r.net.length c, .int .i64 r.bits, .string r.name, .int .i64 r.low, .int .i64 r.high] 46 (0, 0))) := h3.alloc h3.size _
          have hwaw := hwB.trans (hwa.mono hwB.size)
          have hnl := hru.net.len
          unfold maxLen at hnl
          have hnn := hru.name
          unfold maxLen at hnn
          have z2 : 0 ≤ (j : Int) ∧ (j : Int) < (m : Int) := by omega
          clear hc2 hrj hx2 hru
          by_cases a50 : 50 < r.net.length
          · have q4 : decide ((50 : Int) < (r.net.length : Int)) = true := by simp; omega
            clear a50
            go_wp2_with fail
            go_ret
            exact ⟨3, rfl, .inr (by decide), hwaw⟩
          have q4 : decide ((50 : Int) < (r.net.length : Int)) = false := by simp; omega
          by_cases a200 : 200 < r.name.size
          · have q5 : decide ((200 : Int) < (r.name.size : Int)) = true := by simp; omega
            clear a50 a200
            go_wp2_with fail
            go_ret
            exact ⟨3, rfl, .inr (by decide), hwaw⟩
          have q5 : decide ((200 : Int) < (r.name.size : Int)) = false := by simp; omega
          clear a50 a200
          go_wp2_with fail
          go_roundg (m - (j + 1))
          case measure => omega
          case rel => exact ⟨j + 1, by omega, by omega, by go_num, hwa⟩
        · obtain rfl : j = m := by omega
          go_wp2_with fail
          go_roundg (n - (i + 1))
          case measure => omega
          case rel => exact ⟨i + 1, by omega, by omega, by go_num, hw3⟩
    · obtain rfl : i = n := by omega
      go_wp2_with fail
      go_ret
      exact ⟨0, rfl, .inl ⟨rfl, by have := H20.out; omega⟩, h1⟩
end
end Go.Proofs.Ytahnjbbjfjlpoaa
