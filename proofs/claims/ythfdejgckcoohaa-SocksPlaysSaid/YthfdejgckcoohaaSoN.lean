/- Who answers SOCKS: name, ask; walked. -/
import Derived.Test.YthfdejgckcoohaaSoH
import Derived.Test.YthfdejgckcoohaaSoP
namespace Go.Proofs.Ythfdejgckcoohaa
open Go Go.RowKit
set_option linter.unusedVariables false
set_option linter.unusedSimpArgs false

section
variable {w0 w w' : World} {L M : List Assn} {A : Assn} {g : Nat} {s : SoM}
theorem str_beq (u : List UInt8) (t : ByteArray) : ((strOf u).toList == t.toList) = decide (u = t.data.toList) := by
  rw [ByteArray.toList_eq, ByteArray.toList_eq, strOf_toList]
  by_cases h : u = t.data.toList
  · rw [decide_eq_true h, beq_iff_eq]; exact h
  · rw [decide_eq_false h, beq_eq_false_iff_ne]; exact h
/-- A cut s[n:] of bytes, whatever its address. -/
theorem slc_from {b o len c n : Nat} {ni : Int} (hni : ni = (n : Int)) (h : n ≤ len) (hc : len ≤ c) (hm : c ≤ maxLen) :
    ∃ V, (∀ W : World, (Instr.slice 22 (.slice (some ⟨b, o, none⟩) len c) (some (.int .i64 ni)) none none).run Try.prog W = .ok V W) ∧
      ∀ (W : World) (l : List UInt8), l.length = len → RdB W (.slice (some ⟨b, o, none⟩) len c) l → RdB W V (l.drop n) := by
  subst hni
  have e : Try.prog.elem 22 = 5 := rfl
  have hs : ∀ W : World, (sizeOf 5).run Try.prog W = .ok 1 W := fun W => by kernel_rfl
  by_cases h1 : n = c
  · refine ⟨.slice (some ⟨b, o, none⟩) 0 0, fun W => ?_, fun W l hl hr => ?_⟩
    · rw [run_slice_l (P := Try.prog) (w := W) (t := 22) (ht := Try.underlying22) (h0 := by omega) (h1 := by omega), e, hs]
      simp only [Result.andThen_ok]
      unfold sliced
      rw [Int.toNat_natCast, if_pos h1.symm, h1, Nat.sub_self, Nat.sub_eq_zero_of_le hc]
    · have : l.drop n = [] := List.drop_eq_nil_iff.2 (by omega)
      rw [this]
      exact RdB.emp (Nat.zero_le _)
  · refine ⟨.slice (some ⟨b, o + n, none⟩) (len - n) (c - n), fun W => ?_, fun W l hl hr => ?_⟩
    · rw [run_slice_l (P := Try.prog) (w := W) (t := 22) (ht := Try.underlying22) (h0 := by omega) (h1 := by omega), e, hs]
      simp only [Result.andThen_ok]
      unfold sliced
      rw [Int.toNat_natCast, if_neg (fun h => h1 h.symm), Nat.mul_one, Option.map_some, addr_add]
    · subst hl
      have h2 := RdB.cut (lo := n) (hi := l.length) hr h (Nat.le_refl _)
      rw [List.take_of_length_le (by rw [List.length_drop]; exact Nat.le_refl _)] at h2
      exact h2

set_option maxRecDepth 100000 in
set_option maxHeartbeats 2000000 in
theorem so_name (hb : s.back.length ≤ 90000) (hw : s.wait.length ≤ 1000000) (hs : SoS w0 w L g s) :
    Calls Try.prog 23 #[.pointer (some ⟨g, 0, none⟩)] w (GreetOk w0 L g s.name) := by
  have hs' := hs
  obtain ⟨wa, wc, ta, tc, ba, bc, h1⟩ := hs'
  unfold soO at h1
  have c0 : w.cell? ⟨g, 0, none⟩ = some (.string s.user) := h1.cell 0 rfl
  have c1 : w.cell? ⟨g, 1, none⟩ = some (.string s.pass) := h1.cell 1 rfl
  have c3 : w.cell? ⟨g, 3, none⟩ = some (.slice wa s.wait.length wc) := h1.cell 3 rfl
  have hr : RdB w (.slice wa s.wait.length wc) s.wait := OwnB.rd (Sat.front [_] h1)
  have hm := hr.len
  unfold maxLen at hm
  clear h1
  obtain ⟨G, hE⟩ : ∃ G, s.name = G := ⟨_, rfl⟩
  rw [hE]
  unfold SoM.name at hE
  by_cases l0 : s.wait.length = 0
  · rw [if_pos l0] at hE
    have E := hid_ hE
    have z1 : ((s.wait.length : Int) == 0) = true := by rw [l0]; rfl
    clear hE l0
    go_enter Try.func23, Try.ntmps23
    go_wp2_with fail
    go_ret
    rw [← E.out]
    exact ⟨rfl, hs⟩
  rw [if_neg l0] at hE
  have z1 : ((s.wait.length : Int) == 0) = false := by rw [beq_eq_false_iff_ne]; omega
  have z0 : (0 : Int) < (s.wait.length : Int) := by omega
  obtain ⟨b, o, c, he, h2, h3, q⟩ := hr.at0 (by omega)
  injection he with he _ he'
  subst he he'
  have q0 : w.cell? ⟨b, o, none⟩ = _ := q 0 (by omega)
  have x6 := bAt_lt s.wait 0
  obtain ⟨x, hx⟩ : ∃ x, bAt s.wait 0 = x := ⟨_, rfl⟩
  rw [hx] at q0 x6 hE
  by_cases n5 : x = 1
  case neg =>
    rw [if_pos n5] at hE
    have E := hid_ hE
    have z2 : ((x : Int) != 1) = true := by rw [bne_iff_ne]; omega
    clear hE q hx n5 l0
    go_enter Try.func23, Try.ntmps23
    go_wp2_with fail
    refine (so_close (by simp; omega) hs Vw.nil).mono ?_
    rintro _ w1 ⟨rfl, h4⟩
    go_wp2_with fail
    go_ret
    rw [← E.out]
    exact ⟨rfl, h4⟩
  subst n5
  rw [if_neg (by omega)] at hE
  obtain ⟨V1, hV1, hR1⟩ := slc_from (b := b) (o := o) (n := 1) (ni := 1) rfl (by omega) h2 h3
  have hr1 := hR1 w _ rfl hr
  clear hR1 q hx
  cases hf : fieldM (s.wait.drop 1) with
  | none =>
    rw [hf] at hE
    have E := hid_ hE
    have hF := so_field_no hr1 hf
    clear hE hf hr1 l0
    go_enter Try.func23, Try.ntmps23
    go_wp2_with fail
    refine hF.mono ?_
    rintro _ _ ⟨rfl, rfl⟩
    go_wp2_with fail
    go_ret
    rw [← E.out]
    exact ⟨rfl, hs⟩
  | some r1 =>
    obtain ⟨u, n⟩ := r1
    rw [hf] at hE
    simp only at hE
    have hF := so_field_yes hr1 hf
    obtain ⟨_, hn1, hn2⟩ := field_app (m := []) hf
    rw [List.length_drop] at hn2
    have e1 : IntKind.i64.wrap (1 + (n : Int)) = 1 + (n : Int) := i64_in (by omega) (by omega)
    obtain ⟨V2, hV2, hR2⟩ := slc_from (b := b) (o := o) (n := 1 + n) (ni := 1 + (n : Int)) (by omega) (show 1 + n ≤ s.wait.length by omega) h2 h3
    have hr2 := hR2 w _ rfl hr
    clear hR2 hf hr1
    cases hf2 : fieldM (s.wait.drop (1 + n)) with
    | none =>
      rw [hf2] at hE
      have E := hid_ hE
      have hF2 := so_field_no hr2 hf2
      clear hE hf2 hr2 l0
      go_enter Try.func23, Try.ntmps23
      go_wp2_with fail
      refine hF.mono ?_
      rintro _ _ ⟨rfl, rfl⟩
      go_wp2_with fail
      refine hF2.mono ?_
      rintro _ _ ⟨rfl, rfl⟩
      go_wp2_with fail
      go_ret
      rw [← E.out]
      exact ⟨rfl, hs⟩
    | some r2 =>
      obtain ⟨p, k⟩ := r2
      rw [hf2] at hE
      simp only at hE
      have hF2 := so_field_yes hr2 hf2
      obtain ⟨_, hk1, hk2⟩ := field_app (m := []) hf2
      rw [List.length_drop] at hk2
      have e2 : IntKind.i64.wrap (1 + (n : Int) + (k : Int)) = 1 + (n : Int) + (k : Int) := i64_in (by omega) (by omega)
      clear hf2 hr2
      have bu := str_beq u s.user
      have bp := str_beq p s.pass
      by_cases eu : u = s.user.data.toList
      case neg =>
        rw [decide_eq_false eu] at bu
        rw [if_pos (.inl eu)] at hE
        have E := hid_ hE
        have hs3 := hs.add (OwnB.ofNew (l := [1, 1]) (n := 2) ((Sat.refl w).alloc (.cells #[.int .u8 1, .int .u8 1] 5 (0, 0))) rfl rfl (by omega))
        clear hE
        clear bp
        go_enter Try.func23, Try.ntmps23
        go_wp2_with fail
        refine hF.mono ?_
        rintro _ _ ⟨rfl, rfl⟩
        go_wp2_with fail
        refine hF2.mono ?_
        rintro _ _ ⟨rfl, rfl⟩
        go_wp2_with fail
        refine (so_close (by show s.back.length + 2 ≤ 100000; omega) hs3 (Vw.own (L := L) [])).mono ?_
        rintro _ w1 ⟨rfl, h4⟩
        replace h4 := h4.drop
        go_wp2_with fail
        go_ret
        rw [← E.out]
        exact ⟨rfl, h4⟩
      by_cases ep : p = s.pass.data.toList
      case neg =>
        rw [decide_eq_false ep] at bp
        rw [decide_eq_true eu] at bu
        rw [if_pos (.inr ep)] at hE
        have E := hid_ hE
        have hs3 := hs.add (OwnB.ofNew (l := [1, 1]) (n := 2) ((Sat.refl w).alloc (.cells #[.int .u8 1, .int .u8 1] 5 (0, 0))) rfl rfl (by omega))
        clear hE
        go_enter Try.func23, Try.ntmps23
        go_wp2_with fail
        refine hF.mono ?_
        rintro _ _ ⟨rfl, rfl⟩
        go_wp2_with fail
        refine hF2.mono ?_
        rintro _ _ ⟨rfl, rfl⟩
        go_wp2_with fail
        refine (so_close (by show s.back.length + 2 ≤ 100000; omega) hs3 (Vw.own (L := L) [])).mono ?_
        rintro _ w1 ⟨rfl, h4⟩
        replace h4 := h4.drop
        go_wp2_with fail
        go_ret
        rw [← E.out]
        exact ⟨rfl, h4⟩
      rw [decide_eq_true ep] at bp
      rw [decide_eq_true eu] at bu
      rw [if_neg (by rintro (h | h); exact h eu; exact h ep)] at hE
      have E := hid_ hE
      have hs2 := hs.add (OwnB.ofNew (l := [1, 0]) (n := 2) ((Sat.refl w).alloc (.cells #[.int .u8 1, .int .u8 0] 5 (0, 0))) rfl rfl (by omega))
      clear hE eu ep
      go_enter Try.func23, Try.ntmps23
      go_wp2_with fail
      refine hF.mono ?_
      rintro _ _ ⟨rfl, rfl⟩
      go_wp2_with fail
      refine hF2.mono ?_
      rintro _ _ ⟨rfl, rfl⟩
      go_wp2_with fail
      refine (so_goes (n := 1 + n + k) (by omega) (by omega) (by omega) (by show s.back.length + 2 ≤ 100000; omega) hs2 (Vw.own (L := L) [])).mono ?_
      rintro _ w1 ⟨rfl, h4⟩
      replace h4 := h4.drop
      go_wp2_with fail
      go_ret
      rw [← E.out]
      exact ⟨rfl, h4⟩
end
end Go.Proofs.Ythfdejgckcoohaa
