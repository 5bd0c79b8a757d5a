/- The document's Socks: name; walked. -/
import Derived.Test.YthfdejgckcoohaaRsB
namespace Go.Proofs.Ythfdejgckcoohaa
open Go Go.RowKit
set_option linter.unusedVariables false
set_option linter.unusedSimpArgs false

section
variable {w0 w w' : World} {L M : List Assn} {A : Assn} {g : Nat} {s : SoM}
/-- A cut s[lo:hi] of bytes. -/
theorem slc_mid {b o len c lo hi : Nat} {li ni : Int} (hli : li = (lo : Int)) (hni : ni = (hi : Int)) (hlo : lo ≤ hi) (h : hi ≤ len) (hc : len ≤ c) (hm : c ≤ maxLen) :
    ∃ V, (∀ W : World, (Instr.slice 22 (.slice (some ⟨b, o, none⟩) len c) (some (.int .i64 li)) (some (.int .i64 ni)) none).run Try.prog W = .ok V W) ∧
      ∀ (W : World) (l : List UInt8), l.length = len → RdB W (.slice (some ⟨b, o, none⟩) len c) l → RdB W V ((l.drop lo).take (hi - lo)) := by
  subst hli hni
  have e : Try.prog.elem 22 = 5 := rfl
  have hs : ∀ W : World, (sizeOf 5).run Try.prog W = .ok 1 W := fun W => by kernel_rfl
  by_cases h1 : c = lo
  · refine ⟨.slice (some ⟨b, o, none⟩) 0 0, fun W => ?_, fun W l hl hr => ?_⟩
    · rw [run_slice_lh (P := Try.prog) (w := W) (t := 22) (ht := Try.underlying22) (h0 := by omega) (h1 := by omega) (h2 := by omega), e, hs]
      simp only [Result.andThen_ok]
      unfold sliced
      obtain rfl : hi = lo := by omega
      rw [Int.toNat_natCast, if_pos h1, h1, Nat.sub_self]
    · have : (l.drop lo).take (hi - lo) = [] := by rw [show hi - lo = 0 by omega]; rfl
      rw [this]
      exact RdB.emp (Nat.zero_le _)
  · refine ⟨.slice (some ⟨b, o + lo, none⟩) (hi - lo) (c - lo), fun W => ?_, fun W l hl hr => ?_⟩
    · rw [run_slice_lh (P := Try.prog) (w := W) (t := 22) (ht := Try.underlying22) (h0 := by omega) (h1 := by omega) (h2 := by omega), e, hs]
      simp only [Result.andThen_ok]
      unfold sliced
      rw [Int.toNat_natCast, Int.toNat_natCast, if_neg h1, Nat.mul_one, Option.map_some, addr_add]
    · subst hl
      exact RdB.cut (lo := lo) (hi := hi) hr hlo h
theorem RsS.new2 {n : Nat} (h : RsS w0 (w.drewN n) L g s) (a b : UInt8) : RsS w0 ((w.drewN n).alloc (.cells #[.int .u8 a.toNat, .int .u8 b.toNat] 5 (0, 0))) (OwnB 5 (.slice (some ⟨w.heap.size, 0, none⟩) 2 2) [a, b] :: L) g s :=
  h.add (OwnB.ofNew (l := [a, b]) (n := 2) ((Sat.refl (w.drewN n)).alloc (.cells #[.int .u8 a.toNat, .int .u8 b.toNat] 5 (0, 0))) rfl rfl (by omega))
theorem name_none (h : fieldM (s.wait.drop 1) = none) (l0 : s.wait.length ≠ 0) (hx : bAt s.wait 0 = 1) : s.name = (false, s) := by
  unfold SoM.name
  rw [if_neg l0, if_neg (by omega), h]
theorem field_no {b : List UInt8} (h : b.length < 1 ∨ b.length < 1 + bAt b 0) : fieldM b = none := by unfold fieldM; rw [if_pos h]
theorem field_yes {b : List UInt8} (h : ¬ (b.length < 1 ∨ b.length < 1 + bAt b 0)) : fieldM b = some ((b.drop 1).take (bAt b 0), 1 + bAt b 0) := by unfold fieldM; rw [if_neg h]
theorem bAt_drop (l : List UInt8) (k i : Nat) : bAt (l.drop k) i = bAt l (k + i) := by unfold bAt; simp [List.getD, List.getElem?_drop]
/-- The name, as the document reads it. -/
theorem name_ways (l0 : s.wait.length ≠ 0) (hx : bAt s.wait 0 = 1) :
    (s.wait.length < 2 ∨ s.wait.length < 3 + bAt s.wait 1 ∨ s.wait.length < 3 + bAt s.wait 1 + bAt s.wait (2 + bAt s.wait 1)) ∧ s.name = (false, s) ∨
    (¬ s.wait.length < 2 ∧ ¬ s.wait.length < 3 + bAt s.wait 1 ∧ ¬ s.wait.length < 3 + bAt s.wait 1 + bAt s.wait (2 + bAt s.wait 1)) ∧
      s.name = if (s.wait.drop 2).take (bAt s.wait 1) ≠ s.user.data.toList ∨ (s.wait.drop (3 + bAt s.wait 1)).take (bAt s.wait (2 + bAt s.wait 1)) ≠ s.pass.data.toList then (false, s.close [1, 1]) else (true, s.goes 2 (3 + bAt s.wait 1 + bAt s.wait (2 + bAt s.wait 1)) [1, 0]) := by
  have e1 : bAt (s.wait.drop 1) 0 = bAt s.wait 1 := bAt_drop _ _ _
  have l1 : (s.wait.drop 1).length = s.wait.length - 1 := List.length_drop
  by_cases h1 : s.wait.length < 2 ∨ s.wait.length < 2 + bAt s.wait 1
  · left
    exact ⟨by omega, name_none (field_no (by rw [e1, l1]; omega)) l0 hx⟩
  · have f1 := field_yes (b := s.wait.drop 1) (by rw [e1, l1]; omega)
    rw [e1, List.drop_drop] at f1
    have e2 : bAt (s.wait.drop (1 + (1 + bAt s.wait 1))) 0 = bAt s.wait (2 + bAt s.wait 1) := by rw [bAt_drop]; congr 1; omega
    have l2 : (s.wait.drop (1 + (1 + bAt s.wait 1))).length = s.wait.length - (2 + bAt s.wait 1) := by rw [List.length_drop]; omega
    have hn : s.name = match fieldM (s.wait.drop (1 + (1 + bAt s.wait 1))) with
      | none => (false, s)
      | some (p, m) => if (s.wait.drop 2).take (bAt s.wait 1) ≠ s.user.data.toList ∨ p ≠ s.pass.data.toList then (false, s.close [1, 1]) else (true, s.goes 2 (1 + (1 + bAt s.wait 1) + m) [1, 0]) := by
      show (if s.wait.length = 0 then _ else _) = _
      rw [if_neg l0, if_neg (by omega), f1]
      rfl
    by_cases h2 : s.wait.length < 3 + bAt s.wait 1 ∨ s.wait.length < 3 + bAt s.wait 1 + bAt s.wait (2 + bAt s.wait 1)
    · left
      refine ⟨by omega, ?_⟩
      rw [hn, field_no (by rw [e2, l2]; omega)]
    · right
      refine ⟨by omega, ?_⟩
      have f2 := field_yes (b := s.wait.drop (1 + (1 + bAt s.wait 1))) (by rw [e2, l2]; omega)
      rw [e2, List.drop_drop] at f2
      rw [hn, f2]
      simp only
      rw [show 1 + (1 + bAt s.wait 1) + 1 = 3 + bAt s.wait 1 by omega, show 1 + (1 + bAt s.wait 1) + (1 + bAt s.wait (2 + bAt s.wait 1)) = 3 + bAt s.wait 1 + bAt s.wait (2 + bAt s.wait 1) by omega]
set_option maxRecDepth 100000 in
set_option maxHeartbeats 4000000 in
theorem rs_name (hb : s.back = []) (hw : s.wait.length ≤ 1000000) (hs : RsS w0 w L g s) :
    Calls Try.prog 28 #[.pointer (some ⟨g, 0, none⟩)] w (RsOut w0 L g s.name.2) := by
  have hs' := hs
  obtain ⟨wa, wc, ta, tc, h1⟩ := hs'
  unfold rsO at h1
  have c0 : w.cell? ⟨g, 0, none⟩ = some (.string s.user) := h1.cell 0 rfl
  have c1 : w.cell? ⟨g, 1, none⟩ = some (.string s.pass) := h1.cell 1 rfl
  have c3 : w.cell? ⟨g, 3, none⟩ = some (.slice wa s.wait.length wc) := h1.cell 3 rfl
  have hr : RdB w (.slice wa s.wait.length wc) s.wait := OwnB.rd (Sat.front [_] h1)
  clear h1
  have HB := hid_ hb
  clear hb
  by_cases l0 : s.wait.length = 0
  · have E := hid_ (show s.name = (false, s) by unfold SoM.name; rw [if_pos l0])
    have z1 : ¬ (0 : Int) < (s.wait.length : Int) := by omega
    have z3 : (s.wait.length : Int) < 2 := by omega
    clear l0
    go_enter Try.func28, Try.ntmps28
    go_wp2_with fail
    go_quiet (fail)
    go_wp2_with fail
    go_ret
    rw [E.out]
    exact RsOut.nil HB.out (hs.drewN nq)
  obtain ⟨b, o, c, he, h2, h3, q⟩ := hr.at0 (by omega)
  injection he with he e10 he'
  clear e10
  subst he he'
  have q0 : w.cell? ⟨b, o, none⟩ = _ := q 0 (by omega)
  have x6 := bAt_lt s.wait 0
  obtain ⟨x, hx⟩ : ∃ x, bAt s.wait 0 = x := ⟨_, rfl⟩
  rw [hx] at q0 x6
  have z1 : (0 : Int) < (s.wait.length : Int) := by omega
  by_cases n5 : x = 1
  case neg =>
    have E := hid_ (show s.name = (false, s.close []) by unfold SoM.name; rw [if_neg l0, if_pos (by rw [hx]; exact n5)])
    have z2 : ((x : Int) != 1) = true := by rw [bne_iff_ne]; omega
    clear q hx n5 l0
    go_enter Try.func28, Try.ntmps28
    go_wp2_with fail
    refine (rs_close hs).mono ?_
    rintro _ w1 ⟨rfl, h4⟩
    go_wp2_with fail
    go_ret
    rw [E.out]
    exact RsOut.nil (bk_close HB.out _) (h4 _)
  subst n5
  have hnw := name_ways l0 hx
  by_cases l2 : s.wait.length < 2
  · have E : s.name = (false, s) := by
      rcases hnw with h | h
      · exact h.2
      · exact absurd l2 h.1.1
    have E' := hid_ E
    have z3 : (s.wait.length : Int) < 2 := by omega
    clear E hnw q hx l0 l2
    go_enter Try.func28, Try.ntmps28
    go_wp2_with fail
    go_quiet (fail)
    go_wp2_with fail
    go_ret
    rw [E'.out]
    exact RsOut.nil HB.out (hs.drewN nq)
  have q1 := q 1 (by omega)
  have y6 := bAt_lt s.wait 1
  obtain ⟨y, hy⟩ : ∃ y, bAt s.wait 1 = y := ⟨_, rfl⟩
  rw [hy] at q1 y6 hnw
  have z2 : ¬ (s.wait.length : Int) < 2 := by omega
  have z2' : (1 : Int) < (s.wait.length : Int) := by omega
  have ey : IntKind.i64.wrap (y : Int) = (y : Int) := i64_in (by omega) (by omega)
  have e2 : IntKind.i64.wrap (2 + (y : Int)) = 2 + (y : Int) := i64_in (by omega) (by omega)
  have e3' : IntKind.i64.wrap (3 + (y : Int)) = 3 + (y : Int) := i64_in (by omega) (by omega)
  have e3 : IntKind.i64.wrap (3 + IntKind.i64.wrap (y : Int)) = 3 + (y : Int) := by rw [ey]; exact i64_in (by omega) (by omega)
  by_cases l3 : s.wait.length < 3 + y
  · have E : s.name = (false, s) := by
      rcases hnw with h | h
      · exact h.2
      · exact absurd l3 h.1.2.1
    have E' := hid_ E
    have z3 : (s.wait.length : Int) < 3 + (y : Int) := by omega
    clear E hnw q hx hy l0 l2 l3
    go_enter Try.func28, Try.ntmps28
    go_wp2_with fail
    go_quiet (fail)
    go_wp2_with fail
    go_ret
    rw [E'.out]
    exact RsOut.nil HB.out (hs.drewN nq)
  have z3 : ¬ (s.wait.length : Int) < 3 + (y : Int) := by omega
  have q2 := q (2 + y) (by omega)
  have v6 := bAt_lt s.wait (2 + y)
  obtain ⟨v, hv⟩ : ∃ v, bAt s.wait (2 + y) = v := ⟨_, rfl⟩
  rw [hv] at q2 v6 hnw
  have t1 : (2 + (y : Int)).toNat = 2 + y := by omega
  have z3' : (0 : Int) ≤ 2 + (y : Int) ∧ 2 + (y : Int) < (s.wait.length : Int) := by omega
  have ev : IntKind.i64.wrap (v : Int) = (v : Int) := i64_in (by omega) (by omega)
  have e4 : IntKind.i64.wrap (2 + (y : Int) + 1) = 3 + (y : Int) := by rw [i64_in (by omega) (by omega)]; omega
  have e5 : IntKind.i64.wrap (3 + (y : Int) + (v : Int)) = 3 + (y : Int) + (v : Int) := i64_in (by omega) (by omega)
  by_cases l4 : s.wait.length < 3 + y + v
  · have E : s.name = (false, s) := by
      rcases hnw with h | h
      · exact h.2
      · exact absurd l4 h.1.2.2
    have E' := hid_ E
    have z4 : (s.wait.length : Int) < 3 + (y : Int) + (v : Int) := by omega
    clear E hnw q hx hy hv l0 l2 l3 l4
    go_enter Try.func28, Try.ntmps28
    go_wp2_with fail
    go_quiet (fail)
    go_wp2_with fail
    go_ret
    rw [E'.out]
    exact RsOut.nil HB.out (hs.drewN nq)
  have z4 : ¬ (s.wait.length : Int) < 3 + (y : Int) + (v : Int) := by omega
  have hnm : s.name = if (s.wait.drop 2).take y ≠ s.user.data.toList ∨ (s.wait.drop (3 + y)).take v ≠ s.pass.data.toList then (false, s.close [1, 1]) else (true, s.goes 2 (3 + y + v) [1, 0]) := by
    rcases hnw with h | h
    · exact absurd h.1 (by omega)
    · exact h.2
  obtain ⟨V1, hV1, hR1⟩ := slc_mid (b := b) (o := o) (lo := 2) (hi := 2 + y) (li := 2) (ni := 2 + (y : Int)) rfl (by omega) (by omega) (show 2 + y ≤ s.wait.length by omega) h2 h3
  obtain ⟨V2, hV2, hR2⟩ := slc_mid (b := b) (o := o) (lo := 3 + y) (hi := 3 + y + v) (li := 3 + (y : Int)) (ni := 3 + (y : Int) + (v : Int)) (by omega) (by omega) (by omega) (show 3 + y + v ≤ s.wait.length by omega) h2 h3
  have hrN : ∀ n, RdB (w.drewN n) (.slice (some ⟨b, o, none⟩) s.wait.length wc) s.wait := fun n => hr.mono ⟨rfl, rfl, rfl, Nat.le_refl _, fun _ _ => rfl⟩
  have hc1 := fun n => hR1 _ _ rfl (hrN n)
  have hc2 := fun n => hR2 _ _ rfl (hrN n)
  rw [show 2 + y - 2 = y by omega] at hc1
  rw [show 3 + y + v - (3 + y) = v by omega] at hc2
  obtain ⟨u, hu⟩ : ∃ u, (s.wait.drop 2).take y = u := ⟨_, rfl⟩
  obtain ⟨p, hp⟩ : ∃ p, (s.wait.drop (3 + y)).take v = p := ⟨_, rfl⟩
  rw [hu] at hc1 hnm
  rw [hp] at hc2 hnm
  have k1 := fun n => str_conv (hc1 n)
  have k2 := fun n => str_conv (hc2 n)
  have bu := str_beq u s.user
  have bp := str_beq p s.pass
  have hlen4 : 3 + y + v ≤ s.wait.length := by omega
  have hpos : 0 < s.wait.length := by omega
  clear hR1 hR2 hc1 hc2 hrN hu hp q hx hy hv l0 l2 l3 l4 hnw
  by_cases eu : u = s.user.data.toList
  case neg =>
    rw [if_pos (.inl eu)] at hnm
    rw [decide_eq_false eu] at bu
    have E := hid_ hnm
    clear hnm bp eu
    go_enter Try.func28, Try.ntmps28
    go_wp2_with fail
    go_quiet (fail)
    have hsn := hs.drewN nq
    go_wp2_with fail
    go_quiet (fail)
    have hsm := hsn.drewN nq
    rw [World.drewN_drewN] at hsm
    have h4 := hsm.new2 1 1
    go_wp2_with fail
    refine (rs_close h4).mono ?_
    rintro _ w2 ⟨rfl, h5⟩
    go_wp2_with fail
    go_ret
    rw [E.out]
    exact RsOut.of (bk_close HB.out _) (h5 _)
  by_cases ep : p = s.pass.data.toList
  case neg =>
    rw [if_pos (.inr ep)] at hnm
    rw [decide_eq_true eu] at bu
    rw [decide_eq_false ep] at bp
    have E := hid_ hnm
    clear hnm eu ep
    go_enter Try.func28, Try.ntmps28
    go_wp2_with fail
    go_quiet (fail)
    have hsn := hs.drewN nq
    go_wp2_with fail
    go_quiet (fail)
    have hsm := hsn.drewN nq
    rw [World.drewN_drewN] at hsm
    have h4 := hsm.new2 1 1
    go_wp2_with fail
    refine (rs_close h4).mono ?_
    rintro _ w2 ⟨rfl, h5⟩
    go_wp2_with fail
    go_ret
    rw [E.out]
    exact RsOut.of (bk_close HB.out _) (h5 _)
  rw [if_neg (by rintro (h | h); exact h eu; exact h ep)] at hnm
  rw [decide_eq_true eu] at bu
  rw [decide_eq_true ep] at bp
  have E := hid_ hnm
  clear hnm eu ep
  go_enter Try.func28, Try.ntmps28
  go_wp2_with fail
  go_quiet (fail)
  have hsn := hs.drewN nq
  go_wp2_with fail
  go_quiet (fail)
  have hsm := hsn.drewN nq
  rw [World.drewN_drewN] at hsm
  go_wp2_with fail
  refine (rs_took (n := 3 + y + v) (by omega) hlen4 hpos hw hsm).mono ?_
  rintro _ w2 ⟨rfl, h5⟩
  have h6 := (h5 [1, 0]).add (OwnB.ofNew (l := [1, 0]) (n := 2) ((Sat.refl w2).alloc (.cells #[.int .u8 1, .int .u8 0] 5 (0, 0))) rfl rfl (by omega))
  clear h5
  go_wp2_with fail
  go_ret
  rw [E.out]
  exact RsOut.of (bk_goes HB.out _ _ _) h6
end
end Go.Proofs.Ythfdejgckcoohaa
