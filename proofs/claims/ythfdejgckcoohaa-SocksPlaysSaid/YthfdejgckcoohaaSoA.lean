/- Who answers SOCKS: ask; walked. -/
import Derived.Test.YthfdejgckcoohaaSoN
namespace Go.Proofs.Ythfdejgckcoohaa
open Go Go.RowKit
set_option linter.unusedVariables false
set_option linter.unusedSimpArgs false

section
variable {w0 w w' : World} {L M : List Assn} {A : Assn} {g : Nat} {s : SoM}
set_option maxRecDepth 100000 in
set_option maxHeartbeats 4000000 in
theorem so_ask (hb : s.back.length ≤ 90000) (hw : s.wait.length ≤ 1000000) (hs : SoS w0 w L g s) :
    Calls Try.prog 24 #[.pointer (some ⟨g, 0, none⟩)] w (GreetOk w0 L g s.ask) := by
  have hs' := hs
  obtain ⟨wa, wc, ta, tc, ba, bc, h1⟩ := hs'
  unfold soO at h1
  have c3 : w.cell? ⟨g, 3, none⟩ = some (.slice wa s.wait.length wc) := h1.cell 3 rfl
  have hr : RdB w (.slice wa s.wait.length wc) s.wait := OwnB.rd (Sat.front [_] h1)
  have hm := hr.len
  unfold maxLen at hm
  obtain ⟨G, hE⟩ : ∃ G, s.ask = G := ⟨_, rfl⟩
  rw [hE]
  unfold SoM.ask at hE
  by_cases l0 : s.wait.length = 0
  · rw [if_neg (by omega), if_pos (by omega)] at hE
    have E := hid_ hE
    have z1 : ¬ (1 : Int) ≤ (s.wait.length : Int) := by omega
    have z3 : (s.wait.length : Int) < 3 := by omega
    clear hE l0
    go_enter Try.func24, Try.ntmps24
    go_wp2_with fail
    go_ret
    rw [← E.out]
    exact ⟨rfl, hs⟩
  have z1 : (1 : Int) ≤ (s.wait.length : Int) := by omega
  obtain ⟨b, o, c, he, h2, h3, q⟩ := hr.at0 (by omega)
  injection he with he _ he'
  subst he he'
  have q0 : w.cell? ⟨b, o, none⟩ = _ := q 0 (by omega)
  have x6 := bAt_lt s.wait 0
  obtain ⟨x, hx⟩ : ∃ x, bAt s.wait 0 = x := ⟨_, rfl⟩
  rw [hx] at q0 x6 hE
  by_cases n5 : x = 5
  case neg =>
    rw [if_pos ⟨by omega, n5⟩] at hE
    have E := hid_ hE
    have z2 : ((x : Int) != 5) = true := by rw [bne_iff_ne]; omega
    clear hE q hx n5 l0
    go_enter Try.func24, Try.ntmps24
    go_wp2_with fail
    refine (so_close (by simp; omega) hs Vw.nil).mono ?_
    rintro _ w1 ⟨rfl, h4⟩
    go_wp2_with fail
    go_ret
    rw [← E.out]
    exact ⟨rfl, h4⟩
  subst n5
  rw [if_neg (by omega)] at hE
  by_cases l3 : s.wait.length < 3
  · rw [if_pos l3] at hE
    have E := hid_ hE
    have z3 : (s.wait.length : Int) < 3 := by omega
    clear hE q hx l0 l3
    go_enter Try.func24, Try.ntmps24
    go_wp2_with fail
    go_ret
    rw [← E.out]
    exact ⟨rfl, hs⟩
  rw [if_neg l3] at hE
  have z3 : (3 : Int) ≤ (s.wait.length : Int) := by omega
  have q1 := q 1 (by omega)
  have q2 := q 2 (by omega)
  have y6 := bAt_lt s.wait 1
  have u6 := bAt_lt s.wait 2
  obtain ⟨y, hy⟩ : ∃ y, bAt s.wait 1 = y := ⟨_, rfl⟩
  obtain ⟨u, hu⟩ : ∃ u, bAt s.wait 2 = u := ⟨_, rfl⟩
  rw [hy] at q1 y6 hE
  rw [hu] at q2 u6 hE
  by_cases y1 : y = 1
  case neg =>
    rw [if_pos y1] at hE
    have E := hid_ hE
    have z2 : ((y : Int) != 1) = true := by rw [bne_iff_ne]; omega
    clear hE q hx hy hu y1 l0
    go_enter Try.func24, Try.ntmps24
    go_wp2_with fail
    refine (so_refuse (code := 7) rfl hb hs).mono ?_
    rintro _ w1 ⟨rfl, h4⟩
    go_wp2_with fail
    go_ret
    rw [← E.out]
    exact ⟨rfl, h4⟩
  subst y1
  rw [if_neg (by omega)] at hE
  by_cases u0 : u = 0
  case neg =>
    rw [if_pos u0] at hE
    have E := hid_ hE
    have z2 : ((u : Int) != 0) = true := by rw [bne_iff_ne]; omega
    clear hE q hx hy hu u0 l0
    go_enter Try.func24, Try.ntmps24
    go_wp2_with fail
    refine (so_refuse (code := 1) rfl hb hs).mono ?_
    rintro _ w1 ⟨rfl, h4⟩
    go_wp2_with fail
    go_ret
    rw [← E.out]
    exact ⟨rfl, h4⟩
  subst u0
  rw [if_neg (by omega)] at hE
  obtain ⟨V1, hV1, hR1⟩ := slc_from (b := b) (o := o) (n := 3) (ni := 3) rfl (by omega : 3 ≤ s.wait.length) h2 h3
  have hD := addr_Decode h1 (fun W L' hs => hR1 W _ rfl (OwnB.rd (Sat.front (L' ++ [_]) (by simpa using hs))))
  obtain ⟨⟨er, dst, n⟩, hd⟩ : ∃ d, decA (s.wait.drop 3) = d := ⟨_, rfl⟩
  have hln : er = 0 → n ≤ s.wait.length - 3 := by
    intro h
    have := dec_len (b := s.wait.drop 3) (by rw [hd]; exact h)
    rw [hd, List.length_drop] at this
    exact this
  have hl3 : er ≠ 2 → 3 < s.wait.length := by
    intro h
    rcases Nat.lt_or_ge 3 s.wait.length with h5 | h5
    · exact h5
    · exfalso
      apply h
      have : (decA (s.wait.drop 3)).1 = 2 := by unfold decA; rw [if_pos (by rw [List.length_drop]; omega)]
      rw [hd] at this
      exact this
  rw [hd] at hD hE
  simp only at hE
  clear hR1 hx hy hu hd h1 hr l0 l3 q hs
  by_cases e2 : er = 2
  · subst e2
    rw [if_pos rfl] at hE
    have E := hid_ hE
    clear hE
    go_enter Try.func24, Try.ntmps24
    go_wp2_with fail
    refine hD.mono ?_
    rintro _ w1 ⟨x, c, rfl, h5⟩
    have h6 : SoS w0 w1 L g s := ⟨_, _, _, _, _, _, h5.drop⟩
    go_wp2_with fail
    go_ret
    rw [← E.out]
    exact ⟨rfl, (h6.alloc _).drop⟩
  rw [if_neg e2] at hE
  have n2 : ((er : Int) == 2) = false := by rw [beq_eq_false_iff_ne]; exact e2
  by_cases e0 : er = 0
  case neg =>
    rw [if_pos e0] at hE
    have n0 : ((er : Int) != 0) = true := by rw [bne_iff_ne]; exact e0
    have l4 := hl3 e2
    obtain ⟨x3, hx3⟩ : ∃ x, bAt s.wait 3 = x := ⟨_, rfl⟩
    have x36 : x3 < 256 := by rw [← hx3]; exact bAt_lt _ _
    rw [hx3] at hE
    have HX := hid_ hx3
    have z4 : (3 : Int) < (s.wait.length : Int) := by omega
    clear hx3 e2 e0 hln hl3
    have hK := fun W => so_known (w := W) x3 x36
    by_cases hk : x3 = 1 ∨ x3 = 4 ∨ x3 = 3
    · rw [if_pos hk] at hE
      have E := hid_ hE
      simp only [decide_eq_true hk] at hK
      clear hE hk
      go_enter Try.func24, Try.ntmps24
      go_wp2_with fail
      refine hD.mono ?_
      rintro _ w1 ⟨x, c, rfl, h5⟩
      have h6 : SoS w0 w1 L g s := ⟨_, _, _, _, _, _, h5.drop⟩
      have h7 := h5.alloc (.cells #[.int .i64 dst.kind, .slice x dst.ip.length c, .string dst.name, .int .i64 dst.port] 33 (0, 0))
      have h8 := (h6.alloc (.cells #[.int .i64 dst.kind, .slice x dst.ip.length c, .string dst.name, .int .i64 dst.port] 33 (0, 0))).drop
      obtain ⟨b', o', c', he, _, _, q⟩ := (OwnB.rd (Sat.front [_, _, _] h7)).at0 (by omega)
      injection he with he _ he'
      injection he with he
      injection he with he1 he2
      subst he1 he2 he'
      have q3 := q 3 l4
      rw [HX.out] at q3
      clear q h7 h5 h6
      go_wp2_with fail
      refine (hK _).mono ?_
      rintro _ _ ⟨rfl, rfl⟩
      go_wp2_with fail
      refine (so_refuse (code := 1) rfl hb h8).mono ?_
      rintro _ w2 ⟨rfl, h4⟩
      go_wp2_with fail
      go_ret
      rw [← E.out]
      exact ⟨rfl, h4⟩
    · rw [if_neg hk] at hE
      have E := hid_ hE
      simp only [decide_eq_false hk] at hK
      clear hE hk
      go_enter Try.func24, Try.ntmps24
      go_wp2_with fail
      refine hD.mono ?_
      rintro _ w1 ⟨x, c, rfl, h5⟩
      have h6 : SoS w0 w1 L g s := ⟨_, _, _, _, _, _, h5.drop⟩
      have h7 := h5.alloc (.cells #[.int .i64 dst.kind, .slice x dst.ip.length c, .string dst.name, .int .i64 dst.port] 33 (0, 0))
      have h8 := (h6.alloc (.cells #[.int .i64 dst.kind, .slice x dst.ip.length c, .string dst.name, .int .i64 dst.port] 33 (0, 0))).drop
      obtain ⟨b', o', c', he, _, _, q⟩ := (OwnB.rd (Sat.front [_, _, _] h7)).at0 (by omega)
      injection he with he _ he'
      injection he with he
      injection he with he1 he2
      subst he1 he2 he'
      have q3 := q 3 l4
      rw [HX.out] at q3
      clear q h7 h5 h6
      go_wp2_with fail
      refine (hK _).mono ?_
      rintro _ _ ⟨rfl, rfl⟩
      go_wp2_with fail
      refine (so_refuse (code := 8) rfl hb h8).mono ?_
      rintro _ w2 ⟨rfl, h4⟩
      go_wp2_with fail
      go_ret
      rw [← E.out]
      exact ⟨rfl, h4⟩
  subst e0
  rw [if_neg (by omega)] at hE
  have E := hid_ hE
  have l5 := hln rfl
  have i3 : IntKind.i64.wrap (3 + (n : Int)) = 3 + (n : Int) := i64_in (by omega) (by omega)
  clear hE hln hl3
  go_enter Try.func24, Try.ntmps24
  go_wp2_with fail
  refine hD.mono ?_
  rintro _ w1 ⟨x, c, rfl, h5⟩
  have h7 := (h5.alloc (.cells #[.int .i64 dst.kind, .slice x dst.ip.length c, .string dst.name, .int .i64 dst.port] 33 (0, 0)))
  have h8 := Sat.front [_, _] h7
  obtain ⟨x4, x5, x6, x7⟩ := (⟨h8.cell 4 rfl, h8.cell 5 rfl, h8.cell 6 rfl, h8.cell 7 rfl⟩ : _ ∧ _ ∧ _ ∧ _)
  obtain ⟨f4, f5, f6, f7⟩ := (⟨h8.frozen 4, h8.frozen 5, h8.frozen 6, h8.frozen 7⟩ : _ ∧ _ ∧ _ ∧ _)
  have h9 := (((h8.set 4 (.int .i64 dst.kind)).set 5 (.slice x dst.ip.length c)).set 6 (.string dst.name)).set 7 (.int .i64 dst.port)
  simp only [List.setIfInBounds_toArray, List.set_cons_zero, List.set_cons_succ] at h9
  have h10 : SoS w0 _ (_ :: _ :: L) g { s with dest := dst } := ⟨_, _, _, _, _, _, Sat.re [0, 3, 2, 5, 1, 4] [_, _, _, _, _, _] h9⟩
  have h11 := h10.drop.drop
  clear h7 h8 h9 h10
  go_wp2_with fail
  refine (so_goes (s := { s with dest := dst }) (n := 3 + n) (by omega) (show 3 + n ≤ s.wait.length by omega) (show 0 < s.wait.length by omega) (by show s.back.length + 0 ≤ 100000; omega) h11 Vw.nil).mono ?_
  rintro _ w2 ⟨rfl, h4⟩
  go_wp2_with fail
  go_ret
  rw [← E.out]
  exact ⟨rfl, h4⟩
end
end Go.Proofs.Ythfdejgckcoohaa
