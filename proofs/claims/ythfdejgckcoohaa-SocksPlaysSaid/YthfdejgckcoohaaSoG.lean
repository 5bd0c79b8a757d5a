/- Who answers SOCKS: reply, refuse, known, field, Contains; walked. -/
import Derived.Test.YthfdejgckcoohaaSoW
namespace Go.Proofs.Ythfdejgckcoohaa
open Go Go.RowKit
set_option linter.unusedVariables false
set_option linter.unusedSimpArgs false

section
variable {w0 w w' : World} {L M : List Assn} {A : Assn} {g : Nat} {s : SoM}
theorem SoS.add (h : SoS w0 w L g s) (h' : Sat w w' M) : SoS w0 w' (M ++ L) g s := by
  obtain ⟨wa, wc, ta, tc, ba, bc, h1⟩ := h
  refine ⟨wa, wc, ta, tc, ba, bc, ?_⟩
  have h2 := h1.trans h'
  refine Sat.perm ?_ h2
  show (M ++ ([_, _, _, _] ++ L)).Perm ([_, _, _, _] ++ (M ++ L))
  rw [← List.append_assoc, ← List.append_assoc]
  exact List.Perm.append_right L List.perm_append_comm
theorem SoS.under (h : SoS w0 w L g s) (hb : Below w.heap.size w w') : SoS w0 w' L g s := h.add (M := []) ⟨hb, trivial⟩
theorem SoS.alloc (h : SoS w0 w L g s) (o : Obj) : SoS w0 (w.alloc o) (Blk w.heap.size o :: L) g s := h.add ((Sat.refl w).alloc o)
theorem SoS.drop (h : SoS w0 w (A :: L) g s) : SoS w0 w L g s := by
  obtain ⟨wa, wc, ta, tc, ba, bc, h1⟩ := h
  exact ⟨wa, wc, ta, tc, ba, bc, (Sat.front [_, _, _, _] h1).drop⟩
theorem SoS.imp {B : Assn} (hi : ∀ h, A h → B h) (h : SoS w0 w (A :: L) g s) : SoS w0 w (B :: L) g s := by
  obtain ⟨wa, wc, ta, tc, ba, bc, h1⟩ := h
  exact ⟨wa, wc, ta, tc, ba, bc, Sat.back [_, _, _, _] ((Sat.front [_, _, _, _] h1).imp hi)⟩
theorem Vw.own {t : TypeId} {v : Value} {l : List UInt8} (M1 : List Assn) : Vw w0 (M1 ++ OwnB t v l :: L) v l := fun W L' hs => OwnB.rd (Sat.front (L' ++ M1) (by simpa using hs))
theorem Vw.mono {v : Value} {l : List UInt8} (h : Vw w0 L v l) (A : Assn) : Vw w0 (A :: L) v l := h.more [A]

theorem so_reply {code : Nat} {ci : Int} (hci : ci = (code : Int)) (hs : Sat w0 w L) :
    Calls Try.prog 31 #[.int .i64 ci] w fun e w' => ∃ a c, e = .returned (.slice a 10 c) ∧ Sat w w' [OwnB 5 (.slice a 10 c) (replyB code)] := by
  subst hci
  have h1 := (Sat.refl w).alloc (.cells (bytesC (replyB code)).toArray 5 (0, 0))
  have h2 := OwnB.ofNew (n := 10) h1 rfl rfl (by omega)
  have e : IntKind.u8.wrap (code : Int) = ((UInt8.ofNat code).toNat : Int) := u8_wrap_nat code
  have e2 : ((bytesC (replyB code)).toArray) = #[.int .u8 5, .int .u8 ((UInt8.ofNat code).toNat : Int), .int .u8 0, .int .u8 1, .int .u8 0, .int .u8 0, .int .u8 0, .int .u8 0, .int .u8 0, .int .u8 0] := rfl
  rw [e2] at h2
  clear h1
  obtain ⟨x, hx⟩ : ∃ x : Int, ((UInt8.ofNat code).toNat : Int) = x := ⟨_, rfl⟩
  rw [hx] at e h2
  clear hx e2
  go_enter Try.func31, Try.ntmps31
  go_wp2_with fail
  go_ret
  exact ⟨_, _, rfl, h2⟩
theorem so_refuse {code : Nat} {ci : Int} (hci : ci = (code : Int)) (hb : s.back.length ≤ 90000) (hs : SoS w0 w L g s) :
    Calls Try.prog 37 #[.pointer (some ⟨g, 0, none⟩), .int .i64 ci] w fun e w' => e = .returned (.bool false) ∧ SoS w0 w' L g (s.close (replyB code)) := by
  have hs0 := Sat.refl w
  subst hci
  go_enter Try.func37, Try.ntmps37
  go_wp2_with fail
  refine (so_reply rfl hs0).mono ?_
  rintro _ w1 ⟨a, c, rfl, h1⟩
  have h2 := hs.add h1
  have hl : (replyB code).length = 10 := rfl
  go_wp2_with fail
  refine (so_close (by rw [hl]; omega) h2 (Vw.own (L := L) [])).mono ?_
  rintro _ w2 ⟨rfl, h3⟩
  have h4 := h3.drop
  go_wp2_with fail
  go_ret
  exact ⟨rfl, h4⟩
theorem so_known (x : Nat) (hx : x < 256) : Calls Try.prog 39 #[.int .u8 (x : Int)] w fun e w' => e = .returned (.bool (decide (x = 1 ∨ x = 4 ∨ x = 3))) ∧ w = w' := by
  by_cases h1 : x = 1
  · subst h1
    go_enter Try.func39, Try.ntmps39
    go_wp2_with fail
    go_ret
    exact ⟨rfl, rfl⟩
  by_cases h2 : x = 4
  · subst h2
    go_enter Try.func39, Try.ntmps39
    go_wp2_with fail
    go_ret
    exact ⟨rfl, rfl⟩
  by_cases h3 : x = 3
  · subst h3
    go_enter Try.func39, Try.ntmps39
    go_wp2_with fail
    go_ret
    exact ⟨rfl, rfl⟩
  have e : decide (x = 1 ∨ x = 4 ∨ x = 3) = false := decide_eq_false (by omega)
  rw [e]
  have e1 : ((x : Int) == 1) = false := by rw [beq_eq_false_iff_ne]; omega
  have e2 : ((x : Int) == 4) = false := by rw [beq_eq_false_iff_ne]; omega
  have e3 : ((x : Int) == 3) = false := by rw [beq_eq_false_iff_ne]; omega
  clear e h1 h2 h3
  go_enter Try.func39, Try.ntmps39
  go_wp2_with fail
  go_ret
  exact ⟨rfl, rfl⟩
theorem so_field_no {v : Value} {b : List UInt8} (hr : RdB w v b) (h : fieldM b = none) :
    Calls Try.prog 36 #[v] w fun e w' => e = .returned (.tuple #[.string ⟨#[]⟩, .int .i64 0, .bool false]) ∧ w = w' := by
  obtain ⟨a, c, rfl, h1, h2, h3⟩ := hr.form
  have hm := hr.len
  unfold maxLen at hm
  unfold fieldM at h
  split at h
  · rename_i h4
    by_cases h0 : b.length = 0
    · have e0 : (b.length : Int) < 1 := by omega
      clear h0 h4 h
      go_enter Try.func36, Try.ntmps36
      go_wp2_with fail
      go_ret3
      exact ⟨rfl, rfl⟩
    · obtain ⟨b1, o1, c1, he, _, _, _, q⟩ := hr.at (i := 0) (by omega)
      injection he with he _ he'
      subst he he'
      have q0 : w.cell? ⟨b1, o1, none⟩ = _ := q 0 (by omega)
      have e0 : ¬ (b.length : Int) < 1 := by omega
      have hb : bAt b 0 = (b.getD 0 0).toNat := rfl
      obtain ⟨x, hx⟩ : ∃ x, (b.getD 0 0).toNat = x := ⟨_, rfl⟩
      have hx6 : x < 256 := by rw [← hx]; exact UInt8.toNat_lt _
      rw [hx] at q0 hb
      rw [hb] at h4
      have e1 : (b.length : Int) < 1 + (x : Int) := by omega
      have e2 : IntKind.i64.wrap (1 + (x : Int)) = 1 + (x : Int) := i64_in (by omega) (by omega)
      clear hb hx h4 h q h0
      go_enter Try.func36, Try.ntmps36
      go_wp2_with fail
      go_ret3
      exact ⟨rfl, rfl⟩
  · cases h
theorem so_field_yes {v : Value} {b u : List UInt8} {n : Nat} (hr : RdB w v b) (h : fieldM b = some (u, n)) :
    Calls Try.prog 36 #[v] w fun e w' => e = .returned (.tuple #[.string (strOf u), .int .i64 n, .bool true]) ∧ w = w' := by
  obtain ⟨a, c, rfl, h1, h2, h3⟩ := hr.form
  have hm := hr.len
  unfold maxLen at hm
  unfold fieldM at h
  split at h
  · cases h
  · rename_i h4
    obtain ⟨b1, o1, c1, he, _, _, _, q⟩ := hr.at (i := 0) (by omega)
    injection he with he _ he'
    subst he he'
    injection h with h
    injection h with h5 h6
    have q0 : w.cell? ⟨b1, o1, none⟩ = _ := q 0 (by omega)
    have e0 : ¬ (b.length : Int) < 1 := by omega
    have hb : bAt b 0 = (b.getD 0 0).toNat := rfl
    obtain ⟨x, hx⟩ : ∃ x, (b.getD 0 0).toNat = x := ⟨_, rfl⟩
    have hx6 : x < 256 := by rw [← hx]; exact UInt8.toNat_lt _
    rw [hx] at q0 hb
    rw [hb] at h4 h5 h6
    have e1 : ¬ (b.length : Int) < 1 + (x : Int) := by omega
    have e2 : IntKind.i64.wrap (1 + (x : Int)) = 1 + (x : Int) := i64_in (by omega) (by omega)
    have hc := RdB.cut (lo := 1) (hi := 1 + x) hr (by omega) (by omega)
    have z1 : (1 : Int) ≤ 1 + (x : Int) ∧ 1 + (x : Int) ≤ (c : Int) := by omega
    have H6 := hid_ h6
    rw [show 1 + x - 1 = x by omega, h5] at hc
    have CV := fun (v1 : Value) (h : RdB w v1 u) => conv_rd (P := Try.prog) (src := 22) (dst := 9) (e := 5) Try.underlying22 Try.underlying5 Try.underlying9 h
    by_cases hc1 : c = 1
    · subst hc1
      obtain rfl : x = 0 := by omega
      have hu : u = [] := by rw [← h5, List.take_zero]
      have hcv1 := CV _ (by rw [hu]; exact RdB.emp (a := ⟨b1, o1, none⟩) (c := 0) (Nat.zero_le _))
      clear hb hx h4 q hc h5 h6 CV hu
      go_enter Try.func36, Try.ntmps36
      go_wp2_with fail
      go_ret3
      rw [← H6.out]
      exact ⟨rfl, rfl⟩
    · have hcv1 := CV _ hc
      have z2 : (1 : Int) < (c : Int) := by omega
      clear hb hx h4 q hc h5 h6 CV hc1
      go_enter Try.func36, Try.ntmps36
      go_wp2_with fail
      go_ret3
      rw [← H6.out]
      exact ⟨by simp, rfl⟩
end
end Go.Proofs.Ythfdejgckcoohaa
