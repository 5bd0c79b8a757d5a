/- The document's Socks: ask; walked. -/
import Derived.Test.YthfdejgckcoohaaRsC
namespace Go.Proofs.Ythfdejgckcoohaa
open Go Go.RowKit
set_option linter.unusedVariables false
set_option linter.unusedSimpArgs false

theorem dec_errs (b : List UInt8) : (decA b).1 = 0 ∨ (decA b).1 = 2 ∨ (decA b).1 = 3 := by
  unfold decA
  split
  · simp
  · split
    · rename_i h
      have h2 : lensB b = ((lensB b).1, (lensB b).2.1, (lensB b).2.2) := rfl
      have h3 := (lens_no h2 h).1
      exact .inr h3
    · split
      · simp
      · split
        · simp
        · split
          · simp
          · simp
section
variable {w0 w w' : World} {L M : List Assn} {A : Assn} {g : Nat} {s : SoM}
set_option maxRecDepth 100000 in
set_option maxHeartbeats 4000000 in
theorem rs_ask (hb : s.back = []) (hw : s.wait.length ≤ 1000000) (hs : RsS w0 w L g s) :
    Calls Try.prog 29 #[.pointer (some ⟨g, 0, none⟩)] w (RsOut w0 L g s.ask.2) := by
  have hs' := hs
  obtain ⟨wa, wc, ta, tc, h1⟩ := hs'
  unfold rsO at h1
  have c3 : w.cell? ⟨g, 3, none⟩ = some (.slice wa s.wait.length wc) := h1.cell 3 rfl
  have hr : RdB w (.slice wa s.wait.length wc) s.wait := OwnB.rd (Sat.front [_] h1)
  have HB := hid_ hb
  clear hb
  obtain ⟨G, hE⟩ : ∃ G, s.ask.2 = G := ⟨_, rfl⟩
  rw [hE]
  unfold SoM.ask at hE
  by_cases l0 : s.wait.length = 0
  · rw [if_neg (by omega), if_pos (by omega)] at hE
    have E := hid_ hE
    have z1 : ¬ (0 : Int) < (s.wait.length : Int) := by omega
    have z3 : (s.wait.length : Int) < 3 := by omega
    clear hE l0 h1
    go_enter Try.func29, Try.ntmps29
    go_wp2_with fail
    go_ret
    rw [← E.out]
    exact RsOut.nil HB.out hs
  have z1 : (0 : Int) < (s.wait.length : Int) := by omega
  obtain ⟨b, o, c, he, h2, h3, q⟩ := hr.at0 (by omega)
  injection he with he e10 he'
  clear e10
  subst he he'
  have q0 : w.cell? ⟨b, o, none⟩ = _ := q 0 (by omega)
  have x6 := bAt_lt s.wait 0
  obtain ⟨x, hx⟩ : ∃ x, bAt s.wait 0 = x := ⟨_, rfl⟩
  rw [hx] at q0 x6 hE
  by_cases n5 : x = 5
  case neg =>
    rw [if_pos ⟨by omega, n5⟩] at hE
    have E := hid_ hE
    have z2 : ((x : Int) != 5) = true := by rw [bne_iff_ne]; omega
    clear hE q hx n5 l0 h1
    go_enter Try.func29, Try.ntmps29
    go_wp2_with fail
    refine (rs_close hs).mono ?_
    rintro _ w1 ⟨rfl, h4⟩
    go_wp2_with fail
    go_ret
    rw [← E.out]
    exact RsOut.nil (bk_close HB.out _) (h4 _)
  subst n5
  rw [if_neg (by omega)] at hE
  by_cases l3 : s.wait.length < 3
  · rw [if_pos l3] at hE
    have E := hid_ hE
    have z3 : (s.wait.length : Int) < 3 := by omega
    clear hE q hx l0 l3 h1
    go_enter Try.func29, Try.ntmps29
    go_wp2_with fail
    go_ret
    rw [← E.out]
    exact RsOut.nil HB.out hs
  rw [if_neg l3] at hE
  have z3 : (3 : Int) ≤ (s.wait.length : Int) := by omega
  have q1 := q 1 (by omega)
  have q2 := q 2 (by omega)
  have y6 := bAt_lt s.wait 1
  have u6 := bAt_lt s.wait 2
  obtain ⟨y, hy⟩ : ∃ y, bAt s.wait 1 = y := ⟨_, rfl⟩
  obtain ⟨u, hu⟩ : ∃ u, bAt s.wait 2 = u := ⟨_, rfl⟩
  rw [hy] at q1 y6 hE
  rw [hu] at q2 u6 hE
  by_cases y1 : y = 1
  case neg =>
    rw [if_pos y1] at hE
    have E := hid_ hE
    have z2 : ((y : Int) != 1) = true := by rw [bne_iff_ne]; omega
    clear hE q hx hy hu y1 l0 h1
    go_enter Try.func29, Try.ntmps29
    go_wp2_with fail
    refine (rs_reply (code := 7) rfl).mono ?_
    rintro _ w1 ⟨a1, d1, rfl, h4⟩
    go_wp2_with fail
    refine (rs_close (hs.add h4)).mono ?_
    rintro _ w2 ⟨rfl, h5⟩
    go_wp2_with fail
    go_ret
    rw [← E.out]
    exact RsOut.of (bk_close HB.out _) (h5 _)
  subst y1
  rw [if_neg (by omega)] at hE
  by_cases u0 : u = 0
  case neg =>
    rw [if_pos u0] at hE
    have E := hid_ hE
    have z2 : ((u : Int) != 0) = true := by rw [bne_iff_ne]; omega
    clear hE q hx hy hu u0 l0 h1
    go_enter Try.func29, Try.ntmps29
    go_wp2_with fail
    refine (rs_reply (code := 1) rfl).mono ?_
    rintro _ w1 ⟨a1, d1, rfl, h4⟩
    go_wp2_with fail
    refine (rs_close (hs.add h4)).mono ?_
    rintro _ w2 ⟨rfl, h5⟩
    go_wp2_with fail
    go_ret
    rw [← E.out]
    exact RsOut.of (bk_close HB.out _) (h5 _)
  subst u0
  rw [if_neg (by omega)] at hE
  by_cases l4 : s.wait.length = 3
  · have hd : (decA (s.wait.drop 3)).1 = 2 := by unfold decA; rw [if_pos (by rw [List.length_drop]; omega)]
    rw [if_pos hd] at hE
    have E := hid_ hE
    have z4 : ((s.wait.length : Int) == 3) = true := by rw [l4]; rfl
    clear hE q hx hy hu l0 l3 l4 hd h1
    go_enter Try.func29, Try.ntmps29
    go_wp2_with fail
    go_ret
    rw [← E.out]
    exact RsOut.nil HB.out hs
  have z4 : ((s.wait.length : Int) == 3) = false := by rw [beq_eq_false_iff_ne]; omega
  have z5 : (3 : Int) < (s.wait.length : Int) := by omega
  have q3 := q 3 (by omega)
  have k6 := bAt_lt s.wait 3
  obtain ⟨k, hk⟩ : ∃ k, bAt s.wait 3 = k := ⟨_, rfl⟩
  have hdr : s.wait.drop 3 = UInt8.ofNat k :: s.wait.drop 4 := by
    rw [← hk, ← List.getElem_cons_drop (show 3 < s.wait.length by omega)]
    congr 1
    unfold bAt
    simp [List.getD, show 3 < s.wait.length by omega]
  have hkk : (UInt8.ofNat k).toNat = k := toNat_of (by omega)
  rw [hk] at q3 hE
  by_cases kk : k = 1 ∨ k = 4 ∨ k = 3
  case neg =>
    have hd : (decA (s.wait.drop 3)).1 = 3 := by rw [hdr]; exact dec_kind _ (by omega) (by omega) (by omega)
    rw [hd, if_neg (by decide), if_pos (by decide), if_neg kk] at hE
    have E := hid_ hE
    have e1 : ((k : Int) != 1) = true := by rw [bne_iff_ne]; omega
    have e3 : ((k : Int) != 3) = true := by rw [bne_iff_ne]; omega
    have e4 : ((k : Int) != 4) = true := by rw [bne_iff_ne]; omega
    clear hE q hx hy hu hk hdr hkk l0 l3 l4 hd h1 kk
    go_enter Try.func29, Try.ntmps29
    go_wp2_with fail
    refine (rs_reply (code := 8) rfl).mono ?_
    rintro _ w1 ⟨a1, d1, rfl, h4⟩
    go_wp2_with fail
    refine (rs_close (hs.add h4)).mono ?_
    rintro _ w2 ⟨rfl, h5⟩
    go_wp2_with fail
    go_ret
    rw [← E.out]
    exact RsOut.of (bk_close HB.out _) (h5 _)
  have ek : (((k : Int) != 1) && ((k : Int) != 3) && ((k : Int) != 4)) = false := by
    rcases kk with rfl | rfl | rfl <;> rfl
  obtain ⟨V1, hV1, hR1⟩ := slc_from (b := b) (o := o) (n := 3) (ni := 3) rfl (by omega : 3 ≤ s.wait.length) h2 h3
  have hD := ref_DecodeAddr h1 (fun W L' hs => hR1 W _ rfl (OwnB.rd (Sat.front (L' ++ [_]) (by simpa using hs))))
  have hde := dec_errs (s.wait.drop 3)
  obtain ⟨⟨er, dst, n⟩, hd⟩ : ∃ d, decA (s.wait.drop 3) = d := ⟨_, rfl⟩
  have hln : er = 0 → n ≤ s.wait.length - 3 := by
    intro h
    have := dec_len (b := s.wait.drop 3) (by rw [hd]; exact h)
    rw [hd, List.length_drop] at this
    exact this
  rw [hd] at hD hE hde
  simp only at hE hde
  clear hR1 hx hy hu hd h1 hr l0 l3 q hs hdr hkk hk
  have HK := hid_ kk
  clear kk
  by_cases e2 : er = 2
  · subst e2
    rw [if_pos rfl] at hE
    have E := hid_ hE
    clear hE hde hln
    rcases HK.out with rfl | rfl | rfl
    all_goals
      go_enter Try.func29, Try.ntmps29
      go_wp2_with fail
      refine hD.mono ?_
      rintro _ w1 ⟨x, c, rfl, h5⟩
      have h6 : RsS w0 w1 L g s := ⟨_, _, _, _, h5.drop⟩
      go_wp2_with fail
      go_ret
      rw [← E.out]
      exact RsOut.nil HB.out (RsS.drop (h6.add ((Sat.refl w1).alloc _)))
  rw [if_neg e2] at hE
  by_cases e0 : er = 0
  case neg =>
    obtain rfl : er = 3 := by omega
    rw [if_pos (by decide), if_pos HK.out] at hE
    have E := hid_ hE
    clear hE hde hln e2 e0
    rcases HK.out with rfl | rfl | rfl
    all_goals
      go_enter Try.func29, Try.ntmps29
      go_wp2_with fail
      refine hD.mono ?_
      rintro _ w1 ⟨x, c, rfl, h5⟩
      have h6 : RsS w0 w1 L g s := ⟨_, _, _, _, h5.drop⟩
      have h7 := RsS.drop (h6.add ((Sat.refl w1).alloc (.cells #[.int .i64 dst.kind, .slice x dst.ip.length c, .string dst.name, .int .i64 dst.port] 33 (0, 0))))
      clear h5 h6
      go_wp2_with fail
      refine (rs_reply (code := 1) rfl).mono ?_
      rintro _ w2 ⟨a1, d1, rfl, h4⟩
      go_wp2_with fail
      refine (rs_close (h7.add h4)).mono ?_
      rintro _ w3 ⟨rfl, h5⟩
      go_wp2_with fail
      go_ret
      rw [← E.out]
      exact RsOut.of (bk_close HB.out _) (h5 _)
  subst e0
  rw [if_neg (by omega)] at hE
  have E := hid_ hE
  have l5 := hln rfl
  have i3 : IntKind.i64.wrap (3 + (n : Int)) = 3 + (n : Int) := i64_in (by omega) (by omega)
  clear hE hln hde e2
  rcases HK.out with rfl | rfl | rfl
  all_goals
    go_enter Try.func29, Try.ntmps29
    go_wp2_with fail
    refine hD.mono ?_
    rintro _ w1 ⟨x, c, rfl, h5⟩
    have h7 := (h5.alloc (.cells #[.int .i64 dst.kind, .slice x dst.ip.length c, .string dst.name, .int .i64 dst.port] 33 (0, 0)))
    have h8 := Sat.front [_, _] h7
    obtain ⟨x4, x5, x6, x7⟩ := (⟨h8.cell 4 rfl, h8.cell 5 rfl, h8.cell 6 rfl, h8.cell 7 rfl⟩ : _ ∧ _ ∧ _ ∧ _)
    obtain ⟨f4, f5, f6, f7⟩ := (⟨h8.frozen 4, h8.frozen 5, h8.frozen 6, h8.frozen 7⟩ : _ ∧ _ ∧ _ ∧ _)
    have h9 := (((h8.set 4 (.int .i64 dst.kind)).set 5 (.slice x dst.ip.length c)).set 6 (.string dst.name)).set 7 (.int .i64 dst.port)
    simp only [List.setIfInBounds_toArray, List.set_cons_zero, List.set_cons_succ] at h9
    have h10 : RsS w0 _ (_ :: _ :: L) g { s with dest := dst } := ⟨_, _, _, _, Sat.re [0, 3, 2, 1, 4] [_, _, _, _, _] h9⟩
    have h11 := h10.drop.drop
    clear h7 h8 h9 h10
    go_wp2_with fail
    refine (rs_took (s := { s with dest := dst }) (n := 3 + n) (by omega) (show 3 + n ≤ s.wait.length by omega) (show 0 < s.wait.length by omega) hw h11).mono ?_
    rintro _ w2 ⟨rfl, h4⟩
    go_wp2_with fail
    go_ret
    rw [← E.out]
    exact RsOut.nil (bk_goes (s := { s with dest := dst }) HB.out _ _ _) (h4 _)
end
end Go.Proofs.Ythfdejgckcoohaa
