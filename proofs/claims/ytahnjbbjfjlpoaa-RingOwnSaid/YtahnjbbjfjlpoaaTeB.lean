/- The document's MayTenant and SameTenant, walked. -/
import Derived.BigQuiet
import Derived.Test.YtahnjbbjfjlpoaaTeA
import Derived.Test.YtahnjbbjfjlpoaaRru
namespace Go.Proofs.Ytahnjbbjfjlpoaa
open Go Go.RowKit Go.Shelf
set_option linter.unusedVariables false
set_option linter.unusedSimpArgs false
section
variable {w0 w : World} {L : List Assn}
theorem ref_MayRuleV {r : RuleM} {x : Option Addr} {c : Nat} {b : Bool} (hm : Hid (r.may = b)) (hr : RdRu w r x c) : Calls Try.prog 21 #[ruV r (.slice x r.net.length c)] w fun e w' => e = .returned (.bool b) ∧ Below w.heap.size w w' := by
  rw [← hm.out]
  exact ref_MayRule r x c hr
set_option maxRecDepth 100000 in
set_option maxHeartbeats 2000000 in
theorem ref_MayTenant (v : TenV) (hv : v.rd w) : Calls Try.prog 10 #[.agg v.c.toArray] w fun e w' => e = .returned (.bool v.t.may) ∧ Below w.heap.size w w' := by
  obtain ⟨⟨id, key, st, rs⟩, kx, kc, rx, rc⟩ := v
  obtain ⟨hk, hr⟩ := hv
  unfold TenV.c
  dsimp only at hk hr ⊢
  have hB := (Sat.refl w).alloc (.cells #[.int .i64 id, .slice kx key.length kc, .int .i64 st, .slice rx rs.length rc] 28 (0, 0))
  have hkl := hk.len
  have hrl : rs.length ≤ maxLen := Nat.le_trans hr.le hr.cap
  unfold maxLen at hkl hrl
  clear hk
  by_cases a1 : 0 ≤ id
  · by_cases a2 : id ≤ 65535
    · by_cases a3 : key.length = 32
      · by_cases a4 : 0 ≤ st
        · by_cases a5 : st ≤ 64
          · by_cases a6 : rs.length ≤ 32
            · have E := hid_ (show TenM.may ⟨id, key, st, rs⟩ = rs.all (·.may) by unfold TenM.may; simp [a1, a2, a3, a4, a5, a6])
              have q1 : decide (id < 0) = false := by simp; omega
              have q2 : decide ((65535 : Int) < id) = false := by simp; omega
              have q3 : ((key.length : Int) != 32) = false := by simp [a3]
              have q4 : decide (st < 0) = false := by simp; omega
              have q5 : decide ((64 : Int) < st) = false := by simp; omega
              have q6 : decide ((32 : Int) < (rs.length : Int)) = false := by simp; omega
              clear a3 a6
              obtain ⟨n, hn⟩ : ∃ n, rs.length = n := ⟨_, rfl⟩
              have HN := hid_ hn
              have hle := hr.le
              have hcap := hr.cap
              unfold maxLen at hcap
              rw [hn] at hB hle q6 hrl ⊢
              clear hn
              go_enter Try.func10, Try.ntmps10
              go_wp2_with fail
              go_loopg [4, 38] n (fun gg _ v38 wr => ∃ i : Nat, i ≤ n ∧ n - i ≤ gg ∧ v38 = .int .i64 i ∧ Hid (∀ r ∈ rs.take i, r.may = true) ∧ Below w.heap.size w wr)
              case atStart => exact ⟨0, by omega, by omega, rfl, hid_ (by simp), hB.below⟩
              case round =>
                obtain ⟨i, hi, hgg, rfl, hno, h1⟩ := hrel
                by_cases hlt : i < n
                · obtain ⟨r, hri⟩ : ∃ r, rs[i]? = some r := ⟨_, List.getElem?_eq_getElem (by rw [HN.out]; exact hlt)⟩
                  obtain ⟨b, off, x, c, rfl, hb, hc, hru⟩ := (hr.mono h1).at_ i r hri
                  have r0 : wr.cell? ⟨b, off + i * 7, none⟩ = some (.int .i64 r.kind) := hc 0 _ rfl
                  have r1 : wr.cell? ⟨b, off + i * 7 + 1, none⟩ = some (.bool r.allow) := hc 1 _ rfl
                  have r2 : wr.cell? ⟨b, off + i * 7 + 2, none⟩ = some (.slice x r.net.length c) := hc 2 _ rfl
                  have r3 : wr.cell? ⟨b, off + i * 7 + 3, none⟩ = some (.int .i64 r.bits) := hc 3 _ rfl
                  have r4 : wr.cell? ⟨b, off + i * 7 + 4, none⟩ = some (.string r.name) := hc 4 _ rfl
                  have r5 : wr.cell? ⟨b, off + i * 7 + 5, none⟩ = some (.int .i64 r.low) := hc 5 _ rfl
                  have r6 : wr.cell? ⟨b, off + i * 7 + 6, none⟩ = some (.int .i64 r.high) := hc 6 _ rfl
                  have hB2 : Below wr.heap.size wr (wr.alloc (.cells #[.int .i64 r.kind, .bool r.allow, .slice x r.net.length c, .int .i64 r.bits, .string r.name, .int .i64 r.low, .int .i64 r.high] 46 (0, 0))) := (Below.refl _ _).alloc (Nat.le_refl _) _
                  have hcall := fun b (hm : Hid (r.may = b)) => ref_MayRuleV hm (hru.mono hB2)
                  unfold ruV at hcall
                  have HRI := hid_ hri
                  clear hc hri
                  have z1 : 0 ≤ (i : Int) ∧ (i : Int) < (n : Int) := by omega
                  cases hm : r.may
                  · have hcall := hcall _ (hid_ hm)
                    have HF := hid_ (show rs.all (·.may) = false from List.all_eq_false.2 ⟨r, List.mem_of_getElem? HRI.out, by rw [hm]; simp⟩)
                    clear hm
                    go_wp2_with fail
                    refine hcall.mono ?_
                    rintro _ w2 ⟨rfl, hb2⟩
                    go_wp2_with fail
                    go_ret
                    exact ⟨ret_bool (by rw [E.out, HF.out]), h1.trans ((hB2.trans (hb2.mono hB2.size)).mono h1.size)⟩
                  · have hcall := hcall _ (hid_ hm)
                    have HM := hid_ hm
                    clear hm
                    go_wp2_with fail
                    refine hcall.mono ?_
                    rintro _ w2 ⟨rfl, hb2⟩
                    go_wp2_with fail
                    go_roundg (n - (i + 1))
                    case measure => omega
                    case rel =>
                      refine ⟨i + 1, by omega, by omega, by go_num, hid_ ?_, h1.trans ((hB2.trans (hb2.mono hB2.size)).mono h1.size)⟩
                      intro y hy
                      rw [List.take_add_one, HRI.out] at hy
                      simp only [Option.toList, List.mem_append, List.mem_singleton] at hy
                      rcases hy with hy | rfl
                      · exact hno.out y hy
                      · exact HM.out
                · obtain rfl : i = n := by omega
                  have HF := hid_ (show rs.all (·.may) = true from List.all_eq_true.2 (by rw [← HN.out, List.take_length] at hno; exact hno.out))
                  go_wp2_with fail
                  go_ret
                  exact ⟨ret_bool (by rw [E.out, HF.out]), h1⟩
            · have E := hid_ (show TenM.may ⟨id, key, st, rs⟩ = false by unfold TenM.may; simp [a6])
              have q1 : decide (id < 0) = false := by simp; omega
              have q2 : decide ((65535 : Int) < id) = false := by simp; omega
              have q3 : ((key.length : Int) != 32) = false := by simp [a3]
              have q4 : decide (st < 0) = false := by simp; omega
              have q5 : decide ((64 : Int) < st) = false := by simp; omega
              have q6 : decide ((32 : Int) < (rs.length : Int)) = true := by simp; omega
              clear a3
              go_enter Try.func10, Try.ntmps10
              go_wp2_with fail
              go_ret
              exact ⟨ret_bool E.out.symm, hB.below⟩
          · have E := hid_ (show TenM.may ⟨id, key, st, rs⟩ = false by unfold TenM.may; simp [a5])
            have q1 : decide (id < 0) = false := by simp; omega
            have q2 : decide ((65535 : Int) < id) = false := by simp; omega
            have q3 : ((key.length : Int) != 32) = false := by simp [a3]
            have q4 : decide (st < 0) = false := by simp; omega
            have q5 : decide ((64 : Int) < st) = true := by simp; omega
            clear a3
            go_enter Try.func10, Try.ntmps10
            go_wp2_with fail
            go_ret
            exact ⟨ret_bool E.out.symm, hB.below⟩
        · have E := hid_ (show TenM.may ⟨id, key, st, rs⟩ = false by unfold TenM.may; simp [a4])
          have q1 : decide (id < 0) = false := by simp; omega
          have q2 : decide ((65535 : Int) < id) = false := by simp; omega
          have q3 : ((key.length : Int) != 32) = false := by simp [a3]
          have q4 : decide (st < 0) = true := by simp; omega
          clear a3
          go_enter Try.func10, Try.ntmps10
          go_wp2_with fail
          go_ret
          exact ⟨ret_bool E.out.symm, hB.below⟩
      · have E := hid_ (show TenM.may ⟨id, key, st, rs⟩ = false by unfold TenM.may; simp [a3])
        have q1 : decide (id < 0) = false := by simp; omega
        have q2 : decide ((65535 : Int) < id) = false := by simp; omega
        have q3 : ((key.length : Int) != 32) = true := by rw [bne_iff_ne]; omega
        clear a3
        go_enter Try.func10, Try.ntmps10
        go_wp2_with fail
        go_ret
        exact ⟨ret_bool E.out.symm, hB.below⟩
    · have E := hid_ (show TenM.may ⟨id, key, st, rs⟩ = false by unfold TenM.may; simp [a2])
      have q1 : decide (id < 0) = false := by simp; omega
      have q2 : decide ((65535 : Int) < id) = true := by simp; omega
      go_enter Try.func10, Try.ntmps10
      go_wp2_with fail
      go_ret
      exact ⟨ret_bool E.out.symm, hB.below⟩
  · have E := hid_ (show TenM.may ⟨id, key, st, rs⟩ = false by unfold TenM.may; simp [a1])
    have q1 : decide (id < 0) = true := by simp; omega
    go_enter Try.func10, Try.ntmps10
    go_wp2_with fail
    go_ret
    exact ⟨ret_bool E.out.symm, hB.below⟩
theorem str_ne_self (X : ByteArray) : (X.toList != X.toList) = false := by simp
theorem bool_ne_self (b : Bool) : (b != b) = false := by simp
theorem int_ne_self (b : Int) : (b != b) = false := by simp
set_option maxRecDepth 100000 in
set_option maxHeartbeats 4000000 in
/-- Two that read alike. -/
theorem ref_SameTenant (t : TenM) (kx kx2 rx rx2 : Option Addr) (kc kc2 rc rc2 : Nat) (hv : TenV.rd w ⟨t, kx, kc, rx, rc⟩) (hu : TenV.rd w ⟨t, kx2, kc2, rx2, rc2⟩) :
    Calls Try.prog 15 #[.agg #[.int .i64 t.id, .slice kx t.key.length kc, .int .i64 t.streams, .slice rx t.rules.length rc], .agg #[.int .i64 t.id, .slice kx2 t.key.length kc2, .int .i64 t.streams, .slice rx2 t.rules.length rc2]] w fun e w' => e = .returned (.bool true) ∧ Below w.heap.size w w' := by
  obtain ⟨id, key, st, rs⟩ := t
  obtain ⟨hk, hr⟩ := hv
  obtain ⟨hk2, hr2⟩ := hu
  dsimp only at hk hr hk2 hr2 ⊢
  have hS := (Sat.refl w).alloc2 (.cells #[.int .i64 id, .slice kx key.length kc, .int .i64 st, .slice rx rs.length rc] 28 (0, 0)) (.cells #[.int .i64 id, .slice kx2 key.length kc2, .int .i64 st, .slice rx2 rs.length rc2] 28 (0, 0))
  have hkl := hk.len
  unfold maxLen at hkl
  have ka := conv_rd (P := Try.prog) (dst := 9) Try.underlying25 Try.underlying5 Try.underlying9 (hk.later hS)
  have kb := conv_rd (P := Try.prog) (dst := 9) Try.underlying25 Try.underlying5 Try.underlying9 (hk2.later hS)
  obtain ⟨X, hX⟩ : ∃ X, strOf key = X := ⟨_, rfl⟩
  rw [hX] at ka kb
  have n1 := int_ne_self id
  have n2 := str_ne_self X
  have n3 := int_ne_self st
  obtain ⟨n, hn⟩ : ∃ n, rs.length = n := ⟨_, rfl⟩
  have HN := hid_ hn
  have hle := hr.le
  have hcap := hr.cap
  have hle2 := hr2.le
  have hcap2 := hr2.cap
  unfold maxLen at hcap hcap2
  rw [hn] at hS hle hle2 ka kb ⊢
  have n4 := int_ne_self (n : Int)
  clear hk hk2 hX hn
  go_enter Try.func15, Try.ntmps15
  go_wp2_with fail
  go_loopg [5, 6, 7, 41] n (fun gg _ _ _ v41 wr => ∃ i : Nat, i ≤ n ∧ n - i ≤ gg ∧ v41 = .int .i64 i ∧ Sat w wr [Blk (w.heap.size + 1) (.cells #[.int .i64 id, .slice kx2 key.length kc2, .int .i64 st, .slice rx2 n rc2] 28 (0, 0)), Blk w.heap.size (.cells #[.int .i64 id, .slice kx key.length kc, .int .i64 st, .slice rx n rc] 28 (0, 0))])
  case atStart => exact ⟨0, by omega, by omega, rfl, hS⟩
  case round =>
    obtain ⟨i, hi, hgg, rfl, h1⟩ := hrel
    clear hS ka kb
    by_cases hlt : i < n
    · obtain ⟨r, hri⟩ : ∃ r, rs[i]? = some r := ⟨_, List.getElem?_eq_getElem (by rw [HN.out]; exact hlt)⟩
      obtain ⟨b, off, x, c, rfl, hb, hc, hru⟩ := (hr.mono h1.below).at_ i r hri
      obtain ⟨b2, off2, x2, c2, rfl, hb2, hc2, hru2⟩ := (hr2.mono h1.below).at_ i r hri
      have r0 : wr.cell? ⟨b, off + i * 7, none⟩ = some (.int .i64 r.kind) := hc 0 _ rfl
      have r1 : wr.cell? ⟨b, off + i * 7 + 1, none⟩ = some (.bool r.allow) := hc 1 _ rfl
      have r2 : wr.cell? ⟨b, off + i * 7 + 2, none⟩ = some (.slice x r.net.length c) := hc 2 _ rfl
      have r3 : wr.cell? ⟨b, off + i * 7 + 3, none⟩ = some (.int .i64 r.bits) := hc 3 _ rfl
      have r4 : wr.cell? ⟨b, off + i * 7 + 4, none⟩ = some (.string r.name) := hc 4 _ rfl
      have r5 : wr.cell? ⟨b, off + i * 7 + 5, none⟩ = some (.int .i64 r.low) := hc 5 _ rfl
      have r6 : wr.cell? ⟨b, off + i * 7 + 6, none⟩ = some (.int .i64 r.high) := hc 6 _ rfl
      have h2 := h1.alloc (.cells #[.int .i64 r.kind, .bool r.allow, .slice x r.net.length c, .int .i64 r.bits, .string r.name, .int .i64 r.low, .int .i64 r.high] 46 (0, 0))
      obtain ⟨wa, hwa⟩ : ∃ wa, wr.alloc (.cells #[.int .i64 r.kind, .bool r.allow, .slice x r.net.length c, .int .i64 r.bits, .string r.name, .int .i64 r.low, .int .i64 r.high] 46 (0, 0)) = wa := ⟨_, rfl⟩
      have hsz : wa.heap.size = wr.heap.size + 1 := by rw [← hwa]; simp
      have hbw : Below wr.heap.size wr wa := by rw [← hwa]; exact (Below.refl _ _).alloc (Nat.le_refl _) _
      rw [hwa] at h2
      have s0 : wa.cell? ⟨b2, off2 + i * 7, none⟩ = some (.int .i64 r.kind) := (hbw.cell (p := ⟨b2, off2 + i * 7, none⟩) hb2).trans (hc2 0 _ rfl)
      have s1 : wa.cell? ⟨b2, off2 + i * 7 + 1, none⟩ = some (.bool r.allow) := (hbw.cell (p := ⟨b2, off2 + i * 7 + 1, none⟩) hb2).trans (hc2 1 _ rfl)
      have s2 : wa.cell? ⟨b2, off2 + i * 7 + 2, none⟩ = some (.slice x2 r.net.length c2) := (hbw.cell (p := ⟨b2, off2 + i * 7 + 2, none⟩) hb2).trans (hc2 2 _ rfl)
      have s3 : wa.cell? ⟨b2, off2 + i * 7 + 3, none⟩ = some (.int .i64 r.bits) := (hbw.cell (p := ⟨b2, off2 + i * 7 + 3, none⟩) hb2).trans (hc2 3 _ rfl)
      have s4 : wa.cell? ⟨b2, off2 + i * 7 + 4, none⟩ = some (.string r.name) := (hbw.cell (p := ⟨b2, off2 + i * 7 + 4, none⟩) hb2).trans (hc2 4 _ rfl)
      have s5 : wa.cell? ⟨b2, off2 + i * 7 + 5, none⟩ = some (.int .i64 r.low) := (hbw.cell (p := ⟨b2, off2 + i * 7 + 5, none⟩) hb2).trans (hc2 5 _ rfl)
      have s6 : wa.cell? ⟨b2, off2 + i * 7 + 6, none⟩ = some (.int .i64 r.high) := (hbw.cell (p := ⟨b2, off2 + i * 7 + 6, none⟩) hb2).trans (hc2 6 _ rfl)
      have t3 : wa.cell? ⟨w.heap.size + 1, 3, none⟩ = some (.slice (some ⟨b2, off2, none⟩) n rc2) := h2.drop.cell 3 rfl
      have h3 := h2.alloc (.cells #[.int .i64 r.kind, .bool r.allow, .slice x2 r.net.length c2, .int .i64 r.bits, .string r.name, .int .i64 r.low, .int .i64 r.high] 46 (0, 0))
      obtain ⟨wb, hwb⟩ : ∃ wb, wa.alloc (.cells #[.int .i64 r.kind, .bool r.allow, .slice x2 r.net.length c2, .int .i64 r.bits, .string r.name, .int .i64 r.low, .int .i64 r.high] 46 (0, 0)) = wb := ⟨_, rfl⟩
      rw [hwb, hsz] at h3
      have hbw2 : Below wr.heap.size wr wb := by rw [← hwb]; exact hbw.trans ((Below.refl _ _).alloc (by omega) _)
      have ka := conv_rd (P := Try.prog) (dst := 9) Try.underlying25 Try.underlying5 Try.underlying9 (hru.net.mono hbw2)
      have kb := conv_rd (P := Try.prog) (dst := 9) Try.underlying25 Try.underlying5 Try.underlying9 (hru2.net.mono hbw2)
      obtain ⟨Y, hY⟩ : ∃ Y, strOf r.net = Y := ⟨_, rfl⟩
      rw [hY] at ka kb
      have m0 := int_ne_self r.kind
      have m1 := bool_ne_self r.allow
      have m2 := str_ne_self Y
      have m3 := int_ne_self r.bits
      have m4 := str_ne_self r.name
      have m5 := int_ne_self r.low
      have m6 := int_ne_self r.high
      have c0 := h3.cell 0 (v := .int .i64 r.kind) rfl
      have c1 := h3.cell 1 (v := .bool r.allow) rfl
      have c2' := h3.cell 2 (v := .slice x2 r.net.length c2) rfl
      have c3 := h3.cell 3 (v := .int .i64 r.bits) rfl
      have c4 := h3.cell 4 (v := .string r.name) rfl
      have c5 := h3.cell 5 (v := .int .i64 r.low) rfl
      have c6 := h3.cell 6 (v := .int .i64 r.high) rfl
      have d0 := h3.drop.cell 0 (v := .int .i64 r.kind) rfl
      have d1 := h3.drop.cell 1 (v := .bool r.allow) rfl
      have d2 := h3.drop.cell 2 (v := .slice x r.net.length c) rfl
      have d3 := h3.drop.cell 3 (v := .int .i64 r.bits) rfl
      have d4 := h3.drop.cell 4 (v := .string r.name) rfl
      have d5 := h3.drop.cell 5 (v := .int .i64 r.low) rfl
      have d6 := h3.drop.cell 6 (v := .int .i64 r.high) rfl
      clear hc hc2 hri hru hru2 hbw hbw2 hY
      have z1 : 0 ≤ (i : Int) ∧ (i : Int) < (n : Int) := by omega
      go_wp2_with fail
      trace_state
      go_roundg (n - (i + 1))
      case measure => omega
      case rel => exact ⟨i + 1, by omega, by omega, by go_num, h3.drop.drop⟩
    · obtain rfl : i = n := by omega
      go_wp2_with fail
      go_ret
      exact ⟨rfl, h1.below⟩
end
end Go.Proofs.Ytahnjbbjfjlpoaa
