/- The document's Socks: greet; walked. -/
import Derived.Test.YthfdejgckcoohaaRsA
namespace Go.Proofs.Ythfdejgckcoohaa
open Go Go.RowKit
set_option linter.unusedVariables false
set_option linter.unusedSimpArgs false

def RsOut (w0 : World) (L : List Assn) (g : Nat) (p : SoM) (e : Ending) (w' : World) : Prop := ∃ v, e = .returned v ∧ RsS w0 w' (OwnB 5 v p.back :: L) g p
section
variable {w0 w w' : World} {L M : List Assn} {A : Assn} {g : Nat} {s : SoM}
theorem rs_reply {code : Nat} {ci : Int} (hci : ci = (code : Int)) :
    Calls Try.prog 32 #[.int .i64 ci] w fun e w' => ∃ a c, e = .returned (.slice a 10 c) ∧ Sat w w' [OwnB 5 (.slice a 10 c) (replyB code)] := by
  subst hci
  have h1 := (Sat.refl w).alloc (.cells (bytesC (replyB code)).toArray 5 (0, 0))
  have h2 := OwnB.ofNew (n := 10) h1 rfl rfl (by omega)
  have e : IntKind.u8.wrap (code : Int) = ((UInt8.ofNat code).toNat : Int) := u8_wrap_nat code
  have e2 : ((bytesC (replyB code)).toArray) = #[.int .u8 5, .int .u8 ((UInt8.ofNat code).toNat : Int), .int .u8 0, .int .u8 1, .int .u8 0, .int .u8 0, .int .u8 0, .int .u8 0, .int .u8 0, .int .u8 0] := rfl
  rw [e2] at h2
  clear h1
  obtain ⟨x, hx⟩ : ∃ x : Int, ((UInt8.ofNat code).toNat : Int) = x := ⟨_, rfl⟩
  rw [hx] at e h2
  clear hx e2
  go_enter Try.func32, Try.ntmps32
  go_wp2_with fail
  go_ret
  exact ⟨_, _, rfl, h2⟩
theorem RsOut.nil {p : SoM} (hp : p.back = []) (h : RsS w0 w L g p) : RsOut w0 L g p (.returned (.slice none 0 0)) w := ⟨_, rfl, by rw [hp]; exact h.nilI⟩
theorem RsOut.of {p : SoM} {v : Value} {k : List UInt8} (hp : p.back = k) (h : RsS w0 w (OwnB 5 v k :: L) g p) : RsOut w0 L g p (.returned v) w := ⟨_, rfl, by rw [hp]; exact h⟩
theorem bk_close (h : s.back = []) (k : List UInt8) : (s.close k).back = k := by show s.back ++ k = k; rw [h]; rfl
theorem bk_goes (h : s.back = []) (st : Int) (n : Nat) (k : List UInt8) : (s.goes st n k).back = k := by show s.back ++ k = k; rw [h]; rfl
set_option maxRecDepth 100000 in
set_option maxHeartbeats 4000000 in
theorem rs_greet (hb : s.back = []) (hw : s.wait.length ≤ 1000000) (hs : RsS w0 w L g s) :
    Calls Try.prog 27 #[.pointer (some ⟨g, 0, none⟩)] w (RsOut w0 L g s.greet.2) := by
  have hs' := hs
  obtain ⟨wa, wc, ta, tc, h1⟩ := hs'
  unfold rsO at h1
  have c0 : w.cell? ⟨g, 0, none⟩ = some (.string s.user) := h1.cell 0 rfl
  have c3 : w.cell? ⟨g, 3, none⟩ = some (.slice wa s.wait.length wc) := h1.cell 3 rfl
  have hr : RdB w (.slice wa s.wait.length wc) s.wait := OwnB.rd (Sat.front [_] h1)
  clear h1
  have HB := hid_ hb
  clear hb
  obtain ⟨G, hE⟩ : ∃ G, s.greet.2 = G := ⟨_, rfl⟩
  rw [hE]
  unfold SoM.greet at hE
  by_cases l0 : s.wait.length = 0
  · rw [if_neg (by omega), if_neg (by omega)] at hE
    have E := hid_ hE
    have z1 : ¬ (0 : Int) < (s.wait.length : Int) := by omega
    have z2 : ¬ (1 : Int) < (s.wait.length : Int) := by omega
    have z3 : (s.wait.length : Int) < 2 := by omega
    clear hE l0
    go_enter Try.func27, Try.ntmps27
    go_wp2_with fail
    go_quiet (fail)
    go_wp2_with fail
    go_ret
    rw [← E.out]
    exact RsOut.nil HB.out (hs.drewN nq)
  obtain ⟨b, o, c, he, h2, h3, q⟩ := hr.at0 (by omega)
  injection he with he e10 he'
  clear e10
  subst he he'
  have q0 : w.cell? ⟨b, o, none⟩ = _ := q 0 (by omega)
  have x6 := bAt_lt s.wait 0
  have y6 := bAt_lt s.wait 1
  obtain ⟨x, hx⟩ : ∃ x, bAt s.wait 0 = x := ⟨_, rfl⟩
  obtain ⟨y, hy⟩ : ∃ y, bAt s.wait 1 = y := ⟨_, rfl⟩
  rw [hx] at q0 x6 hE
  rw [hy] at y6 hE
  have z1 : (0 : Int) < (s.wait.length : Int) := by omega
  by_cases n5 : x = 5
  case neg =>
    rw [if_pos (.inl ⟨by omega, n5⟩)] at hE
    have E := hid_ hE
    have z2 : ((x : Int) != 5) = true := by rw [bne_iff_ne]; omega
    clear hE q hx hy n5 l0
    go_enter Try.func27, Try.ntmps27
    go_wp2_with fail
    refine (rs_close hs).mono ?_
    rintro _ w1 ⟨rfl, h4⟩
    go_wp2_with fail
    go_ret
    rw [← E.out]
    exact RsOut.nil (bk_close HB.out _) (h4 _)
  subst n5
  by_cases l2 : s.wait.length < 2
  · rw [if_neg (by omega), if_neg (by omega)] at hE
    have E := hid_ hE
    have z2 : ¬ (1 : Int) < (s.wait.length : Int) := by omega
    have z3 : (s.wait.length : Int) < 2 := by omega
    clear hE q hx hy l0 l2
    go_enter Try.func27, Try.ntmps27
    go_wp2_with fail
    go_quiet (fail)
    go_wp2_with fail
    go_ret
    rw [← E.out]
    exact RsOut.nil HB.out (hs.drewN nq)
  have q1 := q 1 (by omega)
  rw [hy] at q1
  have z2 : (1 : Int) < (s.wait.length : Int) := by omega
  have z2' : ¬ (s.wait.length : Int) < 2 := by omega
  by_cases y0 : y = 0
  · rw [if_pos (.inr ⟨by omega, y0⟩)] at hE
    have E := hid_ hE
    subst y0
    clear hE q hx hy l0 l2
    go_enter Try.func27, Try.ntmps27
    go_wp2_with fail
    refine (rs_close hs).mono ?_
    rintro _ w1 ⟨rfl, h4⟩
    go_wp2_with fail
    go_ret
    rw [← E.out]
    exact RsOut.nil (bk_close HB.out _) (h4 _)
  rw [if_neg (by omega)] at hE
  have y1 : ((y : Int) == 0) = false := by rw [beq_eq_false_iff_ne]; omega
  have ey : IntKind.i64.wrap (y : Int) = (y : Int) := i64_in (by omega) (by omega)
  have e2 : IntKind.i64.wrap (2 + (y : Int)) = 2 + (y : Int) := i64_in (by omega) (by omega)
  have e2' : IntKind.i64.wrap (2 + IntKind.i64.wrap (y : Int)) = 2 + (y : Int) := by rw [ey, e2]
  by_cases lny : 2 + y ≤ s.wait.length
  case neg =>
    rw [if_neg (by omega)] at hE
    have E := hid_ hE
    have z3 : (s.wait.length : Int) < 2 + (y : Int) := by omega
    clear hE q hx hy l0 l2 lny y0
    go_enter Try.func27, Try.ntmps27
    go_wp2_with fail
    go_quiet (fail)
    go_wp2_with fail
    go_ret
    rw [← E.out]
    exact RsOut.nil HB.out (hs.drewN nq)
  rw [if_pos ⟨by omega, lny⟩] at hE
  have z3 : ¬ (s.wait.length : Int) < 2 + (y : Int) := by omega
  have z4 : (2 : Int) ≤ 2 + (y : Int) ∧ 2 + (y : Int) ≤ (wc : Int) ∧ (2 : Int) < (wc : Int) := by omega
  have hc := RdB.cut (lo := 2) (hi := 2 + y) hr (by omega) (by omega)
  rw [show 2 + y - 2 = y by omega] at hc
  obtain ⟨m, hm0⟩ : ∃ m, (s.wait.drop 2).take y = m := ⟨_, rfl⟩
  have hml : m.length = y := by rw [← hm0, List.length_take, List.length_drop]; omega
  have HML := hid_ hml
  rw [hm0] at hc hE
  have hpos : 0 < s.wait.length := by omega
  clear q hx hy l0 l2 hm0 hml
  by_cases hu : s.user.size = 0
  · have hu1 : s.user.toList.isEmpty = true := by
      rw [empty_of_size hu]
      decide +kernel
    rw [if_pos hu] at hE
    rw [show s.method = 0 by unfold SoM.method; rw [if_pos hu]] at hE
    clear hu
    have E := hid_ hE
    clear hE
    go_enter Try.func27, Try.ntmps27
    go_wp2_with fail
    go_quiet (fail)
    have hsn := hs.drewN nq
    have hcn : RdB (w.drewN nq) (.slice (some ⟨b, o + 2, none⟩) y (wc - 2)) m := hc.mono ⟨rfl, rfl, rfl, Nat.le_refl _, fun _ _ => rfl⟩
    go_wp2_with fail
    generalize w.drewN nq = w1 at *
    go_loopw [84] (fun vi wr => ∃ i : Nat, i ≤ y ∧ vi = .int .i64 i ∧ (∀ j, j < i → bAt m j ≠ 0) ∧ w1 = wr) (fun vi _ => y - (intOf vi).toNat)
    case atStart => exact ⟨0, by omega, rfl, fun j hj => by omega, rfl⟩
    case round =>
      obtain ⟨i, hi, rfl, hbef, rfl⟩ := hrel
      have HF := hid_ hbef
      clear hbef
      by_cases hlt : i < y
      · obtain ⟨b', o', c', he, _, _, qq⟩ := hcn.at0 (by rw [HML.out]; omega)
        rw [HML.out] at he
        injection he with he e10 he'
        injection he with he
        injection he with he1 he2 he3
        clear e10 he' he3
        have q5 : w1.cell? ⟨b', o' + i, none⟩ = _ := qq i (by rw [HML.out]; exact hlt)
        rw [← he1, ← he2] at q5
        have g1 : (i : Int) < (y : Int) := by omega
        obtain ⟨u, hu⟩ : ∃ u, bAt m i = u := ⟨_, rfl⟩
        rw [hu] at q5
        clear qq he1 he2
        by_cases hyu : u = 0
        · have hmem : (0 : UInt8) ∈ m := mem_at.2 ⟨i, by rw [HML.out]; exact hlt, by rw [hu, hyu]; rfl⟩
          have E2 := E.out
          rw [if_pos hmem] at E2
          have E3 := hid_ E2
          clear hu E2 hmem
          subst hyu
          go_wp2_with fail
          refine (rs_took (n := 2 + y) (by omega) lny hpos hw hsn).mono ?_
          rintro _ w2 ⟨rfl, h4⟩
          have h5 := (h4 [5, 0]).add (OwnB.ofNew (l := [5, 0]) (n := 2) ((Sat.refl w2).alloc (.cells #[.int .u8 5, .int .u8 0] 5 (0, 0))) rfl rfl (by omega))
          clear h4
          go_wp2_with fail
          go_ret
          rw [← E3.out]
          exact RsOut.of (bk_goes HB.out _ _ _) h5
        · have hne : ((u : Int) == 0) = false := by rw [beq_eq_false_iff_ne]; omega
          have HU := hid_ hu
          clear hu
          go_wp2_with fail
          go_roundw
          case rel =>
            refine ⟨i + 1, by omega, by go_num, fun j hj => ?_, (by first | rfl | trivial)⟩
            rcases Nat.lt_or_ge j i with h | h
            · exact HF.out j h
            · obtain rfl : j = i := by omega
              rw [HU.out]
              exact hyu
          case measure => simp [intOf]; omega
      · have g1 : ¬ (i : Int) < (y : Int) := by omega
        have hno : ¬ (0 : UInt8) ∈ m := by
          intro h
          obtain ⟨j, hj, he⟩ := mem_at.1 h
          rw [HML.out] at hj
          exact HF.out j (by omega) he
        have E2 := E.out
        rw [if_neg hno] at E2
        have E3 := hid_ E2
        clear E2 hno
        have h4 := hsn.add (OwnB.ofNew (l := [5, 255]) (n := 2) ((Sat.refl w1).alloc (.cells #[.int .u8 5, .int .u8 255] 5 (0, 0))) rfl rfl (by omega))
        go_wp2_with fail
        refine (rs_close h4).mono ?_
        rintro _ w2 ⟨rfl, h5⟩
        go_wp2_with fail
        go_ret
        rw [← E3.out]
        exact RsOut.of (bk_close HB.out _) (h5 _)
  · have hu1 : s.user.toList.isEmpty = false := by
      rw [Bool.eq_false_iff]
      intro h
      have h5 := isEmpty_size s.user
      rw [h] at h5
      exact hu (by simpa using h5.symm)
    rw [if_neg hu] at hE
    rw [show s.method = 2 by unfold SoM.method; rw [if_neg hu]] at hE
    clear hu
    have E := hid_ hE
    clear hE
    go_enter Try.func27, Try.ntmps27
    go_wp2_with fail
    go_quiet (fail)
    have hsn := hs.drewN nq
    have hcn : RdB (w.drewN nq) (.slice (some ⟨b, o + 2, none⟩) y (wc - 2)) m := hc.mono ⟨rfl, rfl, rfl, Nat.le_refl _, fun _ _ => rfl⟩
    go_wp2_with fail
    generalize w.drewN nq = w1 at *
    go_loopw [84] (fun vi wr => ∃ i : Nat, i ≤ y ∧ vi = .int .i64 i ∧ (∀ j, j < i → bAt m j ≠ 2) ∧ w1 = wr) (fun vi _ => y - (intOf vi).toNat)
    case atStart => exact ⟨0, by omega, rfl, fun j hj => by omega, rfl⟩
    case round =>
      obtain ⟨i, hi, rfl, hbef, rfl⟩ := hrel
      have HF := hid_ hbef
      clear hbef
      by_cases hlt : i < y
      · obtain ⟨b', o', c', he, _, _, qq⟩ := hcn.at0 (by rw [HML.out]; omega)
        rw [HML.out] at he
        injection he with he e10 he'
        injection he with he
        injection he with he1 he2 he3
        clear e10 he' he3
        have q5 : w1.cell? ⟨b', o' + i, none⟩ = _ := qq i (by rw [HML.out]; exact hlt)
        rw [← he1, ← he2] at q5
        have g1 : (i : Int) < (y : Int) := by omega
        obtain ⟨u, hu⟩ : ∃ u, bAt m i = u := ⟨_, rfl⟩
        rw [hu] at q5
        clear qq he1 he2
        by_cases hyu : u = 2
        · have hmem : (2 : UInt8) ∈ m := mem_at.2 ⟨i, by rw [HML.out]; exact hlt, by rw [hu, hyu]; rfl⟩
          have E2 := E.out
          rw [if_pos hmem] at E2
          have E3 := hid_ E2
          clear hu E2 hmem
          subst hyu
          go_wp2_with fail
          refine (rs_took (n := 2 + y) (by omega) lny hpos hw hsn).mono ?_
          rintro _ w2 ⟨rfl, h4⟩
          have h5 := (h4 [5, 2]).add (OwnB.ofNew (l := [5, 2]) (n := 2) ((Sat.refl w2).alloc (.cells #[.int .u8 5, .int .u8 2] 5 (0, 0))) rfl rfl (by omega))
          clear h4
          go_wp2_with fail
          go_ret
          rw [← E3.out]
          exact RsOut.of (bk_goes HB.out _ _ _) h5
        · have hne : ((u : Int) == 2) = false := by rw [beq_eq_false_iff_ne]; omega
          have HU := hid_ hu
          clear hu
          go_wp2_with fail
          go_roundw
          case rel =>
            refine ⟨i + 1, by omega, by go_num, fun j hj => ?_, (by first | rfl | trivial)⟩
            rcases Nat.lt_or_ge j i with h | h
            · exact HF.out j h
            · obtain rfl : j = i := by omega
              rw [HU.out]
              exact hyu
          case measure => simp [intOf]; omega
      · have g1 : ¬ (i : Int) < (y : Int) := by omega
        have hno : ¬ (2 : UInt8) ∈ m := by
          intro h
          obtain ⟨j, hj, he⟩ := mem_at.1 h
          rw [HML.out] at hj
          exact HF.out j (by omega) he
        have E2 := E.out
        rw [if_neg hno] at E2
        have E3 := hid_ E2
        clear E2 hno
        have h4 := hsn.add (OwnB.ofNew (l := [5, 255]) (n := 2) ((Sat.refl w1).alloc (.cells #[.int .u8 5, .int .u8 255] 5 (0, 0))) rfl rfl (by omega))
        go_wp2_with fail
        refine (rs_close h4).mono ?_
        rintro _ w2 ⟨rfl, h5⟩
        go_wp2_with fail
        go_ret
        rw [← E3.out]
        exact RsOut.of (bk_close HB.out _) (h5 _)
end
end Go.Proofs.Ythfdejgckcoohaa
