/- Who answers SOCKS: Contains, greet; walked. -/
import Derived.Test.YthfdejgckcoohaaSoG
namespace Go.Proofs.Ythfdejgckcoohaa
open Go Go.RowKit
set_option linter.unusedVariables false
set_option linter.unusedSimpArgs false

section
variable {w0 w w' : World} {L M : List Assn} {A : Assn} {g : Nat} {s : SoM}
theorem RdB.at0 {v : Value} {l : List UInt8} (hr : RdB w v l) (h : 0 < l.length) : ∃ b o c, v = .slice (some ⟨b, o, none⟩) l.length c ∧ l.length ≤ c ∧ c ≤ maxLen ∧ ∀ i, i < l.length → w.cell? ⟨b, o + i, none⟩ = some (.int .u8 (bAt l i)) := by
  obtain ⟨b, o, c, he, _, h1, h2, q⟩ := hr.at h
  exact ⟨b, o, c, he, h1, h2, q⟩
theorem bAt_lt (l : List UInt8) (i : Nat) : bAt l i < 256 := UInt8.toNat_lt _
theorem mem_at {x : UInt8} {l : List UInt8} : x ∈ l ↔ ∃ i, i < l.length ∧ bAt l i = x.toNat := by
  constructor
  · intro h
    obtain ⟨i, hi, he⟩ := List.getElem_of_mem h
    exact ⟨i, hi, by unfold bAt; simp [List.getD, hi, he]⟩
  · rintro ⟨i, hi, he⟩
    unfold bAt at he
    have : l.getD i 0 = x := UInt8.toNat_inj.1 he
    rw [← this]
    simp [List.getD, hi]
set_option maxHeartbeats 1000000 in
theorem so_index {v : Value} {l : List UInt8} {x : UInt8} {xi : Int} (hxi : xi = (x.toNat : Int)) (hr : RdB w v l) :
    Calls Try.prog 44 #[v, .int .u8 xi] w fun e w' => ∃ i : Int, e = .returned (.int .i64 i) ∧ (x ∈ l → 0 ≤ i) ∧ (¬ x ∈ l → i < 0) ∧ w = w' := by
  obtain ⟨a, c, rfl, h1, h2, h3⟩ := hr.form
  have hm := hr.len
  unfold maxLen at hm
  obtain ⟨y, hy⟩ : ∃ y, x.toNat = y := ⟨_, rfl⟩
  rw [hy] at hxi
  subst hxi
  have HM := hid_ (mem_at (x := x) (l := l))
  rw [hy] at HM
  clear hy
  go_enter Try.func44, Try.ntmps44
  go_wp2_with fail
  go_loopw [8] (fun vi wr => ∃ i : Nat, i ≤ l.length ∧ vi = .int .i64 i ∧ (∀ j, j < i → bAt l j ≠ y) ∧ w = wr) (fun vi _ => l.length - (intOf vi).toNat)
  case atStart => exact ⟨0, by omega, rfl, fun j hj => by omega, rfl⟩
  case round =>
    obtain ⟨i, hi, rfl, hbef, rfl⟩ := hrel
    have HB := hid_ hbef
    clear hbef
    by_cases hlt : i < l.length
    · obtain ⟨b, o, c', he, _, _, q⟩ := hr.at0 (by omega)
      injection he with he _ he'
      subst he he'
      have q1 := q i hlt
      have z1 : (i : Int) < (l.length : Int) := by omega
      obtain ⟨u, hu⟩ : ∃ u, bAt l i = u := ⟨_, rfl⟩
      rw [hu] at q1
      clear q
      by_cases hyu : y = u
      · have HU := hid_ hu
        clear hu
        subst hyu
        go_wp2_with fail
        go_ret
        exact ⟨i, rfl, fun _ => by omega, fun h => absurd (HM.out.2 ⟨i, hlt, HU.out⟩) h, rfl⟩
      · have hne : ((y : Int) == (u : Int)) = false := by rw [beq_eq_false_iff_ne]; omega
        have HU := hid_ hu
        clear hu
        go_wp2_with fail
        go_roundw
        case rel =>
          refine ⟨i + 1, by omega, by go_num, fun j hj => ?_, (by first | rfl | trivial)⟩
          rcases Nat.lt_or_ge j i with h | h
          · exact HB.out j h
          · obtain rfl : j = i := by omega
            rw [HU.out]
            omega
        case measure => simp [intOf]; omega
    · have z1 : ¬ (i : Int) < (l.length : Int) := by omega
      go_wp2_with fail
      go_ret
      refine ⟨-1, rfl, fun h => ?_, fun _ => by omega, rfl⟩
      obtain ⟨j, hj, he⟩ := HM.out.1 h
      exact absurd he (HB.out j (by omega))
theorem so_contains {v : Value} {l : List UInt8} {x : UInt8} {xi : Int} (hxi : xi = (x.toNat : Int)) (hr : RdB w v l) :
    Calls Try.prog 34 #[v, .int .u8 xi] w fun e w' => e = .returned (.bool (decide (x ∈ l))) ∧ w = w' := by
  have H := so_index hxi hr
  clear hxi
  go_enter Try.func34, Try.ntmps34
  go_wp2_with fail
  refine H.mono ?_
  rintro _ _ ⟨i, rfl, h1, h2, rfl⟩
  by_cases hx : x ∈ l
  · have z := h1 hx
    have e := hid_ (decide_eq_true hx)
    go_wp2_with fail
    go_ret
    exact ⟨congrArg (fun b => Ending.returned (.bool b)) e.out.symm, rfl⟩
  · have z := h2 hx
    have z2 : ¬ (0 : Int) ≤ i := by omega
    have e := hid_ (decide_eq_false hx)
    go_wp2_with fail
    go_ret
    exact ⟨congrArg (fun b => Ending.returned (.bool b)) ((decide_eq_false (by omega)).trans e.out.symm), rfl⟩

abbrev GreetOk (w0 : World) (L : List Assn) (g : Nat) (p : Bool × SoM) (e : Ending) (w' : World) : Prop := e = .returned (.bool p.1) ∧ SoS w0 w' L g p.2
set_option maxRecDepth 100000 in
set_option maxHeartbeats 2000000 in
theorem so_greet (hb : s.back.length ≤ 90000) (hs : SoS w0 w L g s) :
    Calls Try.prog 22 #[.pointer (some ⟨g, 0, none⟩)] w (GreetOk w0 L g s.greet) := by
  have hs' := hs
  obtain ⟨wa, wc, ta, tc, ba, bc, h1⟩ := hs'
  unfold soO at h1
  have c0 : w.cell? ⟨g, 0, none⟩ = some (.string s.user) := h1.cell 0 rfl
  have c3 : w.cell? ⟨g, 3, none⟩ = some (.slice wa s.wait.length wc) := h1.cell 3 rfl
  have hr : RdB w (.slice wa s.wait.length wc) s.wait := OwnB.rd (Sat.front [_] h1)
  have hm := hr.len
  unfold maxLen at hm
  clear h1
  obtain ⟨G, hE⟩ : ∃ G, s.greet = G := ⟨_, rfl⟩
  rw [hE]
  unfold SoM.greet at hE
  by_cases l0 : s.wait.length = 0
  · rw [if_neg (by omega), if_neg (by omega)] at hE
    have E := hid_ hE
    have z1 : ¬ (1 : Int) ≤ (s.wait.length : Int) := by omega
    have z2 : ¬ (2 : Int) ≤ (s.wait.length : Int) := by omega
    clear hE l0
    go_enter Try.func22, Try.ntmps22
    go_wp2_with fail
    go_ret
    rw [← E.out]
    exact ⟨rfl, hs⟩
  obtain ⟨b, o, c, he, h2, h3, q⟩ := hr.at0 (by omega)
  injection he with he _ he'
  subst he he'
  have q0 : w.cell? ⟨b, o, none⟩ = _ := q 0 (by omega)
  have x6 := bAt_lt s.wait 0
  have y6 := bAt_lt s.wait 1
  obtain ⟨x, hx⟩ : ∃ x, bAt s.wait 0 = x := ⟨_, rfl⟩
  obtain ⟨y, hy⟩ : ∃ y, bAt s.wait 1 = y := ⟨_, rfl⟩
  rw [hx] at q0 x6 hE
  rw [hy] at y6 hE
  have z1 : (1 : Int) ≤ (s.wait.length : Int) := by omega
  by_cases n5 : x = 5
  case neg =>
    rw [if_pos (.inl ⟨by omega, n5⟩)] at hE
    have E := hid_ hE
    have z2 : ((x : Int) != 5) = true := by rw [bne_iff_ne]; omega
    clear hE q hx hy n5 l0
    go_enter Try.func22, Try.ntmps22
    go_wp2_with fail
    refine (so_close (by simp; omega) hs Vw.nil).mono ?_
    rintro _ w1 ⟨rfl, h4⟩
    go_wp2_with fail
    go_ret
    rw [← E.out]
    exact ⟨rfl, h4⟩
  subst n5
  by_cases l2 : s.wait.length < 2
  · rw [if_neg (by omega), if_neg (by omega)] at hE
    have E := hid_ hE
    have z2 : ¬ (2 : Int) ≤ (s.wait.length : Int) := by omega
    clear hE q hx hy l0 l2
    go_enter Try.func22, Try.ntmps22
    go_wp2_with fail
    go_ret
    rw [← E.out]
    exact ⟨rfl, hs⟩
  have q1 := q 1 (by omega)
  rw [hy] at q1
  have z2 : (2 : Int) ≤ (s.wait.length : Int) := by omega
  by_cases y0 : y = 0
  · rw [if_pos (.inr ⟨by omega, y0⟩)] at hE
    have E := hid_ hE
    subst y0
    clear hE q hx hy l0 l2
    go_enter Try.func22, Try.ntmps22
    go_wp2_with fail
    refine (so_close (by simp; omega) hs Vw.nil).mono ?_
    rintro _ w1 ⟨rfl, h4⟩
    go_wp2_with fail
    go_ret
    rw [← E.out]
    exact ⟨rfl, h4⟩
  rw [if_neg (by omega)] at hE
  have y1 : ((y : Int) == 0) = false := by rw [beq_eq_false_iff_ne]; omega
  have e2 : IntKind.i64.wrap (2 + (y : Int)) = 2 + (y : Int) := i64_in (by omega) (by omega)
  by_cases lny : 2 + y ≤ s.wait.length
  case neg =>
    rw [if_neg (by omega)] at hE
    have E := hid_ hE
    have z3 : ¬ 2 + (y : Int) ≤ (s.wait.length : Int) := by omega
    clear hE q hx hy l0 l2 lny y0
    go_enter Try.func22, Try.ntmps22
    go_wp2_with fail
    go_ret
    rw [← E.out]
    exact ⟨rfl, hs⟩
  rw [if_pos ⟨by omega, lny⟩] at hE
  have z3 : 2 + (y : Int) ≤ (s.wait.length : Int) := by omega
  have z4 : (2 : Int) ≤ 2 + (y : Int) ∧ 2 + (y : Int) ≤ (wc : Int) ∧ (2 : Int) < (wc : Int) := by omega
  have hc := RdB.cut (lo := 2) (hi := 2 + y) hr (by omega) (by omega)
  rw [show 2 + y - 2 = y by omega] at hc
  obtain ⟨m, hm0⟩ : ∃ m, (s.wait.drop 2).take y = m := ⟨_, rfl⟩
  rw [hm0] at hc hE
  clear q hx hy l0 l2 hm0
  by_cases hu : s.user.size = 0
  · have hu1 : s.user.toList.isEmpty = true := by
      rw [empty_of_size hu]
      decide +kernel
    rw [if_pos hu] at hE
    rw [show s.method = 0 by unfold SoM.method; rw [if_pos hu]] at hE
    have hs2 := hs.add (OwnB.ofNew (l := [5, 0]) (n := 2) ((Sat.refl w).alloc (.cells #[.int .u8 5, .int .u8 0] 5 (0, 0))) rfl rfl (by omega))
    have hs3 := hs.add (OwnB.ofNew (l := [5, 255]) (n := 2) ((Sat.refl w).alloc (.cells #[.int .u8 5, .int .u8 255] 5 (0, 0))) rfl rfl (by omega))
    clear hu
    by_cases hmem : (0 : UInt8) ∈ m
    · rw [if_pos hmem] at hE
      have E := hid_ hE
      have D := hid_ (decide_eq_true hmem)
      clear hE hmem
      go_enter Try.func22, Try.ntmps22
      go_wp2_with fail
      refine (so_contains (x := 0) rfl hc).mono ?_
      rintro _ _ ⟨rfl, rfl⟩
      rw [D.out]
      go_wp2_with fail
      refine (so_goes (n := 2 + y) (by omega) lny (by omega) (by show s.back.length + 2 ≤ 100000; omega) hs2 (Vw.own (L := L) [])).mono ?_
      rintro _ w1 ⟨rfl, h4⟩
      replace h4 := h4.drop
      go_wp2_with fail
      go_ret
      rw [← E.out]
      exact ⟨rfl, h4⟩
    · rw [if_neg hmem] at hE
      have E := hid_ hE
      have D := hid_ (decide_eq_false hmem)
      clear hE hmem
      go_enter Try.func22, Try.ntmps22
      go_wp2_with fail
      refine (so_contains (x := 0) rfl hc).mono ?_
      rintro _ _ ⟨rfl, rfl⟩
      rw [D.out]
      go_wp2_with fail
      refine (so_close (by show s.back.length + 2 ≤ 100000; omega) hs3 (Vw.own (L := L) [])).mono ?_
      rintro _ w1 ⟨rfl, h4⟩
      replace h4 := h4.drop
      go_wp2_with fail
      go_ret
      rw [← E.out]
      exact ⟨rfl, h4⟩
  · have hu1 : s.user.toList.isEmpty = false := by
      rw [Bool.eq_false_iff]
      intro h
      have h5 := isEmpty_size s.user
      rw [h] at h5
      exact hu (by simpa using h5.symm)
    rw [if_neg hu] at hE
    rw [show s.method = 2 by unfold SoM.method; rw [if_neg hu]] at hE
    have hs2 := hs.add (OwnB.ofNew (l := [5, 2]) (n := 2) ((Sat.refl w).alloc (.cells #[.int .u8 5, .int .u8 2] 5 (0, 0))) rfl rfl (by omega))
    have hs3 := hs.add (OwnB.ofNew (l := [5, 255]) (n := 2) ((Sat.refl w).alloc (.cells #[.int .u8 5, .int .u8 255] 5 (0, 0))) rfl rfl (by omega))
    clear hu
    by_cases hmem : (2 : UInt8) ∈ m
    · rw [if_pos hmem] at hE
      have E := hid_ hE
      have D := hid_ (decide_eq_true hmem)
      clear hE hmem
      go_enter Try.func22, Try.ntmps22
      go_wp2_with fail
      refine (so_contains (x := 2) rfl hc).mono ?_
      rintro _ _ ⟨rfl, rfl⟩
      rw [D.out]
      go_wp2_with fail
      refine (so_goes (n := 2 + y) (by omega) lny (by omega) (by show s.back.length + 2 ≤ 100000; omega) hs2 (Vw.own (L := L) [])).mono ?_
      rintro _ w1 ⟨rfl, h4⟩
      replace h4 := h4.drop
      go_wp2_with fail
      go_ret
      rw [← E.out]
      exact ⟨rfl, h4⟩
    · rw [if_neg hmem] at hE
      have E := hid_ hE
      have D := hid_ (decide_eq_false hmem)
      clear hE hmem
      go_enter Try.func22, Try.ntmps22
      go_wp2_with fail
      refine (so_contains (x := 2) rfl hc).mono ?_
      rintro _ _ ⟨rfl, rfl⟩
      rw [D.out]
      go_wp2_with fail
      refine (so_close (by show s.back.length + 2 ≤ 100000; omega) hs3 (Vw.own (L := L) [])).mono ?_
      rintro _ w1 ⟨rfl, h4⟩
      replace h4 := h4.drop
      go_wp2_with fail
      go_ret
      rw [← E.out]
      exact ⟨rfl, h4⟩
end
end Go.Proofs.Ythfdejgckcoohaa
