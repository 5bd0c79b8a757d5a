/- The law SocksRefuses, walked. -/
import Derived.Test.YthfdejgckcoohaaSoZ
namespace Go.Proofs.Ythfdejgckcoohaa
open Go Go.RowKit
set_option linter.unusedVariables false
set_option linter.unusedSimpArgs false

theorem SoM.run_stop {n : Nat} {s t : SoM} (h : s.step = (false, t)) : SoM.run (n + 1) s = t := by
  show (if s.step.1 then _ else _) = _
  rw [h]
  rfl
def SoM.fed (u e : ByteArray) (f : List UInt8) : SoM := ⟨u, e, 0, f, AdM.zero, []⟩
theorem fresh_fed (u e : ByteArray) (f : List UInt8) : (SoM.fresh u e).feed f = SoM.run 4 (SoM.fed u e f) := rfl
theorem SoM.step_of0 {s : SoM} (h : s.state = 0) : s.step = s.greet := by unfold SoM.step; rw [if_pos h]
theorem refuse_first (u e : ByteArray) {b : UInt8} (p : List UInt8) (h : b.toNat ≠ 5) : ((SoM.fresh u e).feed (b :: p)).state = 5 ∧ ((SoM.fresh u e).feed (b :: p)).back = [] := by
  have h1 : (SoM.fed u e (b :: p)).step = (false, (SoM.fed u e (b :: p)).close []) := by
    rw [SoM.step_of0 rfl]
    unfold SoM.greet
    rw [if_pos (.inl ⟨by simp [SoM.fed], by simpa [bAt, SoM.fed] using h⟩)]
  rw [fresh_fed, SoM.run_stop h1]
  exact ⟨rfl, rfl⟩
theorem refuse_none (u e : ByteArray) : ((SoM.fresh u e).feed [5, 0]).state = 5 ∧ ((SoM.fresh u e).feed [5, 0]).back = [] := by
  have h1 : (SoM.fed u e [5, 0]).step = (false, (SoM.fed u e [5, 0]).close []) := by
    rw [SoM.step_of0 rfl]
    unfold SoM.greet
    rw [if_pos (.inr ⟨by simp [SoM.fed], by simp [bAt, SoM.fed]⟩)]
  rw [fresh_fed, SoM.run_stop h1]
  exact ⟨rfl, rfl⟩
theorem refuse_all (u e : ByteArray) {p : List UInt8} (hl : p.length ≤ 255) (h0 : p.length ≠ 0) (hm : ¬ (SoM.fresh u e).method ∈ p) :
    ((SoM.fresh u e).feed (5 :: UInt8.ofNat p.length :: p)).state = 5 ∧ ((SoM.fresh u e).feed (5 :: UInt8.ofNat p.length :: p)).back = [5, 255] := by
  have hn : (UInt8.ofNat p.length).toNat = p.length := toNat_of (by omega)
  obtain ⟨f, hf⟩ : ∃ f, 5 :: UInt8.ofNat p.length :: p = f := ⟨_, rfl⟩
  have h1 : (SoM.fed u e f).step = (false, (SoM.fed u e f).close [5, 255]) := by
    rw [SoM.step_of0 rfl]
    unfold SoM.greet
    have e0 : bAt f 0 = 5 := by rw [← hf]; rfl
    have e1 : bAt f 1 = p.length := by rw [← hf]; exact hn
    have el : f.length = p.length + 2 := by rw [← hf]; rfl
    have ed : f.drop 2 = p := by rw [← hf]; rfl
    have ew : (SoM.fed u e f).wait = f := rfl
    have em : (SoM.fed u e f).method = (SoM.fresh u e).method := rfl
    rw [ew, e0, e1, em, el, ed, if_neg (by omega), if_pos (by omega), List.take_of_length_le (Nat.le_refl _), if_neg hm]
  rw [hf, fresh_fed, SoM.run_stop h1]
  exact ⟨rfl, rfl⟩
theorem fresh_state (u e : ByteArray) : 0 ≤ (SoM.fresh u e).state ∧ (SoM.fresh u e).state ≤ 3 := ⟨Int.le_refl 0, by show (0 : Int) ≤ 3; decide⟩
set_option maxRecDepth 100000 in
set_option maxHeartbeats 8000000 in
theorem socks_refuses_law (u v z : Value) (w : World) (hu : IsByte w u) (hv : IsBytes w v) (hz : IsStr w z) :
    Calls Try.prog 4 #[u, v, z] w fun e w' => e = .returned (.bool true) ∧ Below w.heap.size w w' := by
  have hs := Sat.refl w
  obtain ⟨x, rfl, hx⟩ := hu
  obtain ⟨b, hb⟩ : ∃ b : UInt8, b.toNat = x := ⟨UInt8.ofNat x, toNat_of hx⟩
  obtain ⟨p, hr⟩ := hv
  obtain ⟨s, rfl, hsz⟩ := hz
  obtain ⟨a0, c0, rfl, -, -, -⟩ := hr.form
  by_cases hl : 255 < p.length ∨ 255 < s.size
  · by_cases hl1 : 255 < p.length
    · have z : (255 : Int) < (p.length : Int) := by omega
      clear hl hl1
      go_enter Try.func4, Try.ntmps4
      go_wp2_with fail
      refine (so_awake hs).mono ?_
      rintro _ wz ⟨rfl, hz⟩
      go_wp2_with fail
      go_ret
      exact ⟨rfl, hz.below⟩
    · have z : (p.length : Int) ≤ 255 := by omega
      have z2 : (255 : Int) < (s.size : Int) := by omega
      clear hl hl1
      go_enter Try.func4, Try.ntmps4
      go_wp2_with fail
      refine (so_awake hs).mono ?_
      rintro _ wz ⟨rfl, hz⟩
      go_wp2_with fail
      go_ret
      exact ⟨rfl, hz.below⟩
  have z : (p.length : Int) ≤ 255 := by omega
  have z2 : (s.size : Int) ≤ 255 := by omega
  have hl2 : p.length ≤ 255 := by omega
  clear hl
  by_cases hx5 : x = 5
  case neg =>
    have R := hid_ (refuse_first s ⟨#[]⟩ p (by rw [hb]; exact hx5))
    have q5 : ((x : Int) != 5) = true := by rw [bne_iff_ne]; omega
    have HB := hid_ hb
    clear hb hx5
    go_enter Try.func4, Try.ntmps4
    go_wp2_with fail
    refine (so_New s ⟨#[]⟩ hs).mono ?_
    rintro _ w1 ⟨g, rfl, h1⟩
    have h2 : Sat w1 (w1.alloc (.cells #[.int .u8 x] 5 (0, 0))) [OwnB 5 (.slice (some ⟨w1.heap.size, 0, none⟩) 1 1) [b]] := OwnB.ofNew (l := [b]) (n := 1) ((Sat.refl w1).alloc (.cells #[.int .u8 x] 5 (0, 0))) (by rw [← HB.out]; rfl) rfl (by omega)
    have hr2 := (hr.mono h1.rest.below).mono h2.below
    go_wp2_with (at_builtin; refine wpList_append_b (w0 := w1) rfl _ _ 22 rfl rfl h2 rfl (slSrc hr2) (b :: p) (1 + p.length) rfl (by simp; omega) (by omega) ?_)
    intro a2 c2 w2 h3
    obtain ⟨bv, h4⟩ := SoB.of (h1.add h3)
    clear h1 h2 hr2
    go_wp2_with fail
    refine (so_feed_on (fresh_state _ _).1 (fresh_state _ _).2 (by show 0 + (b :: p).length ≤ _; simp; omega) h4 (Vw.own (L := []) [])).mono ?_
    rintro _ w3 ⟨b3, rfl, h5⟩
    obtain ⟨R1, R2⟩ := R.out
    obtain ⟨a3, c3, hf⟩ := h5.form
    rw [R2] at hf
    replace hf : b3 = .slice a3 0 c3 := hf
    subst hf
    have hS := so_State h5.to
    rw [R1] at hS
    clear R1 R2
    go_wp2_with fail
    refine hS.mono ?_
    rintro _ _ ⟨rfl, rfl⟩
    go_wp2_with fail
    refine (so_awake h5.to.rest).mono ?_
    rintro _ wz ⟨rfl, hz⟩
    go_wp2_with fail
    go_ret
    exact ⟨rfl, hz.below⟩
  subst hx5
  clear hb
  by_cases hu : s.size = 0
  · have hu1 : s.toList.isEmpty = true := by
      rw [empty_of_size hu]
      decide +kernel
    have HM := hid_ (show (SoM.fresh s ⟨#[]⟩).method = 0 by unfold SoM.method; exact if_pos hu)
    clear hu
    go_enter Try.func4, Try.ntmps4
    go_wp2_with fail
    refine (so_New s ⟨#[]⟩ hs).mono ?_
    rintro _ w1 ⟨g, rfl, h1⟩
    have hr1 := hr.mono h1.rest.below
    go_wp2_with fail
    go_loopw [57] (fun vi wr => ∃ i : Nat, i ≤ p.length ∧ vi = .int .i64 i ∧ (∀ j, j < i → bAt p j ≠ 0) ∧ w1 = wr) (fun vi _ => p.length - (intOf vi).toNat)
    case atStart => exact ⟨0, by omega, rfl, fun j hj => by omega, rfl⟩
    case round =>
      obtain ⟨i, hi, rfl, hbef, rfl⟩ := hrel
      have HF := hid_ hbef
      clear hbef
      by_cases hlt : i < p.length
      · obtain ⟨b', o, c', he, _, _, q⟩ := hr1.at0 (by omega)
        injection he with he _ he'
        subst he he'
        have q1 := q i hlt
        have z1 : (i : Int) < (p.length : Int) := by omega
        obtain ⟨y, hy⟩ : ∃ y, bAt p i = y := ⟨_, rfl⟩
        rw [hy] at q1
        clear q
        by_cases hyu : y = 0
        · clear hy
          subst hyu
          go_wp2_with fail
          refine (so_awake h1.rest).mono ?_
          rintro _ wz ⟨rfl, hz⟩
          go_wp2_with fail
          go_ret
          exact ⟨rfl, hz.below⟩
        · have hne : ((y : Int) == 0) = false := by rw [beq_eq_false_iff_ne]; omega
          have HU := hid_ hy
          clear hy
          go_wp2_with fail
          go_roundw
          case rel =>
            refine ⟨i + 1, by omega, by go_num, fun j hj => ?_, (by first | rfl | trivial)⟩
            rcases Nat.lt_or_ge j i with h | h
            · exact HF.out j h
            · obtain rfl : j = i := by omega
              rw [HU.out]
              exact hyu
          case measure => simp [intOf]; omega
      · have z1 : ¬ (i : Int) < (p.length : Int) := by omega
        have hno : ¬ (0 : UInt8) ∈ p := by
          intro h
          obtain ⟨j, hj, he⟩ := mem_at.1 h
          exact HF.out j (by omega) he
        have u8 : IntKind.u8.wrap (p.length : Int) = (p.length : Int) := by rw [u8_wrap_mod]; omega
        have n8 : ((UInt8.ofNat p.length).toNat : Int) = (p.length : Int) := by rw [toNat_of (by omega)]
        have h2 : Sat w1 (w1.alloc (.cells #[.int .u8 5, .int .u8 p.length] 5 (0, 0))) [OwnB 5 (.slice (some ⟨w1.heap.size, 0, none⟩) 2 2) [5, UInt8.ofNat p.length]] := OwnB.ofNew (l := [5, UInt8.ofNat p.length]) (n := 2) ((Sat.refl w1).alloc (.cells #[.int .u8 5, .int .u8 p.length] 5 (0, 0))) (by rw [← n8]; rfl) rfl (by omega)
        have hr2 := hr1.mono h2.below
        clear n8
        go_wp2_with (at_builtin; refine wpList_append_b (w0 := w1) rfl _ _ 22 rfl rfl h2 rfl (slSrc hr2) (5 :: UInt8.ofNat p.length :: p) (2 + p.length) rfl (by simp; omega) (by omega) ?_)
        intro a2 c2 w2 h3
        obtain ⟨bv, h4⟩ := SoB.of (h1.add h3)
        clear h1 h2 hr2
        go_wp2_with fail
        refine (so_feed_on (fresh_state _ _).1 (fresh_state _ _).2 (by show 0 + (5 :: UInt8.ofNat p.length :: p).length ≤ _; simp; omega) h4 (Vw.own (L := []) [])).mono ?_
        rintro _ w3 ⟨b3, rfl, h5⟩
        obtain ⟨bl, h6⟩ : ∃ bl, SoS w (w3.alloc (.cells #[.int .u8 5, .int .u8 1, .int .u8 0, .int .u8 1, .int .u8 1, .int .u8 2, .int .u8 3, .int .u8 4, .int .u8 0, .int .u8 80] 5 (0, 0))) bl g ((SoM.fresh s ⟨#[]⟩).feed (5 :: UInt8.ofNat p.length :: p)) := ⟨_, (h5.to.alloc _)⟩
        have hB := (h5.add ((Sat.refl w3).alloc (.cells #[.int .u8 5, .int .u8 1, .int .u8 0, .int .u8 1, .int .u8 1, .int .u8 2, .int .u8 3, .int .u8 4, .int .u8 0, .int .u8 80] 5 (0, 0)))).back
        by_cases h0 : p.length = 0
        · have hp : p = [] := List.eq_nil_of_length_eq_zero h0
          have R : ((SoM.fresh s ⟨#[]⟩).feed (5 :: UInt8.ofNat p.length :: p)).state = 5 ∧ ((SoM.fresh s ⟨#[]⟩).feed (5 :: UInt8.ofNat p.length :: p)).back = [] := by rw [hp]; exact refuse_none s ⟨#[]⟩
          obtain ⟨R1, R2⟩ := R
          obtain ⟨a3, c3, hf⟩ := h5.form
          rw [R2] at hf
          replace hf : b3 = .slice a3 0 c3 := hf
          subst hf
          have hS := so_State h6
          rw [R1] at hS
          have hF := fun v => so_feed_shut (v := v) R1 h6
          have z0 : ((p.length : Int) == 0) = true := by rw [h0]; rfl
          clear R1 R2 h0 hp
          go_wp2_with fail
          refine (hF _).mono ?_
          rintro _ _ ⟨rfl, rfl⟩
          go_wp2_with fail
          refine hS.mono ?_
          rintro _ _ ⟨rfl, rfl⟩
          go_wp2_with fail
          refine (so_awake h6.rest).mono ?_
          rintro _ wz ⟨rfl, hz⟩
          go_wp2_with fail
          go_ret
          exact ⟨rfl, hz.below⟩
        · have R := refuse_all s ⟨#[]⟩ hl2 h0 (by rw [HM.out]; exact hno)
          obtain ⟨R1, R2⟩ := R
          obtain ⟨a3, c3, hf⟩ := h5.form
          rw [R2] at hf hB
          replace hf : b3 = .slice a3 2 c3 := hf
          subst hf
          have hS := so_State h6
          rw [R1] at hS
          have hF := fun v => so_feed_shut (v := v) R1 h6
          have z0 : ((p.length : Int) == 0) = false := by rw [beq_eq_false_iff_ne]; omega
          have k1 := str_conv hB
          have e5 : ((strOf [5, 255]).toList == [5, 255]) = true := by decide +kernel
          clear R1 R2 h0
          go_wp2_with fail
          refine (hF _).mono ?_
          rintro _ _ ⟨rfl, rfl⟩
          go_wp2_with fail
          refine hS.mono ?_
          rintro _ _ ⟨rfl, rfl⟩
          go_wp2_with fail
          refine (so_awake h6.rest).mono ?_
          rintro _ wz ⟨rfl, hz⟩
          go_wp2_with fail
          go_ret
          exact ⟨rfl, hz.below⟩
  · have hu1 : s.toList.isEmpty = false := by
      rw [Bool.eq_false_iff]
      intro h
      have h5 := isEmpty_size s
      rw [h] at h5
      exact hu (by simpa using h5.symm)
    have HM := hid_ (show (SoM.fresh s ⟨#[]⟩).method = 2 by unfold SoM.method; exact if_neg hu)
    clear hu
    go_enter Try.func4, Try.ntmps4
    go_wp2_with fail
    refine (so_New s ⟨#[]⟩ hs).mono ?_
    rintro _ w1 ⟨g, rfl, h1⟩
    have hr1 := hr.mono h1.rest.below
    go_wp2_with fail
    go_loopw [57] (fun vi wr => ∃ i : Nat, i ≤ p.length ∧ vi = .int .i64 i ∧ (∀ j, j < i → bAt p j ≠ 2) ∧ w1 = wr) (fun vi _ => p.length - (intOf vi).toNat)
    case atStart => exact ⟨0, by omega, rfl, fun j hj => by omega, rfl⟩
    case round =>
      obtain ⟨i, hi, rfl, hbef, rfl⟩ := hrel
      have HF := hid_ hbef
      clear hbef
      by_cases hlt : i < p.length
      · obtain ⟨b', o, c', he, _, _, q⟩ := hr1.at0 (by omega)
        injection he with he _ he'
        subst he he'
        have q1 := q i hlt
        have z1 : (i : Int) < (p.length : Int) := by omega
        obtain ⟨y, hy⟩ : ∃ y, bAt p i = y := ⟨_, rfl⟩
        rw [hy] at q1
        clear q
        by_cases hyu : y = 2
        · clear hy
          subst hyu
          go_wp2_with fail
          refine (so_awake h1.rest).mono ?_
          rintro _ wz ⟨rfl, hz⟩
          go_wp2_with fail
          go_ret
          exact ⟨rfl, hz.below⟩
        · have hne : ((y : Int) == 2) = false := by rw [beq_eq_false_iff_ne]; omega
          have HU := hid_ hy
          clear hy
          go_wp2_with fail
          go_roundw
          case rel =>
            refine ⟨i + 1, by omega, by go_num, fun j hj => ?_, (by first | rfl | trivial)⟩
            rcases Nat.lt_or_ge j i with h | h
            · exact HF.out j h
            · obtain rfl : j = i := by omega
              rw [HU.out]
              exact hyu
          case measure => simp [intOf]; omega
      · have z1 : ¬ (i : Int) < (p.length : Int) := by omega
        have hno : ¬ (2 : UInt8) ∈ p := by
          intro h
          obtain ⟨j, hj, he⟩ := mem_at.1 h
          exact HF.out j (by omega) he
        have u8 : IntKind.u8.wrap (p.length : Int) = (p.length : Int) := by rw [u8_wrap_mod]; omega
        have n8 : ((UInt8.ofNat p.length).toNat : Int) = (p.length : Int) := by rw [toNat_of (by omega)]
        have h2 : Sat w1 (w1.alloc (.cells #[.int .u8 5, .int .u8 p.length] 5 (0, 0))) [OwnB 5 (.slice (some ⟨w1.heap.size, 0, none⟩) 2 2) [5, UInt8.ofNat p.length]] := OwnB.ofNew (l := [5, UInt8.ofNat p.length]) (n := 2) ((Sat.refl w1).alloc (.cells #[.int .u8 5, .int .u8 p.length] 5 (0, 0))) (by rw [← n8]; rfl) rfl (by omega)
        have hr2 := hr1.mono h2.below
        clear n8
        go_wp2_with (at_builtin; refine wpList_append_b (w0 := w1) rfl _ _ 22 rfl rfl h2 rfl (slSrc hr2) (5 :: UInt8.ofNat p.length :: p) (2 + p.length) rfl (by simp; omega) (by omega) ?_)
        intro a2 c2 w2 h3
        obtain ⟨bv, h4⟩ := SoB.of (h1.add h3)
        clear h1 h2 hr2
        go_wp2_with fail
        refine (so_feed_on (fresh_state _ _).1 (fresh_state _ _).2 (by show 0 + (5 :: UInt8.ofNat p.length :: p).length ≤ _; simp; omega) h4 (Vw.own (L := []) [])).mono ?_
        rintro _ w3 ⟨b3, rfl, h5⟩
        obtain ⟨bl, h6⟩ : ∃ bl, SoS w (w3.alloc (.cells #[.int .u8 5, .int .u8 1, .int .u8 0, .int .u8 1, .int .u8 1, .int .u8 2, .int .u8 3, .int .u8 4, .int .u8 0, .int .u8 80] 5 (0, 0))) bl g ((SoM.fresh s ⟨#[]⟩).feed (5 :: UInt8.ofNat p.length :: p)) := ⟨_, (h5.to.alloc _)⟩
        have hB := (h5.add ((Sat.refl w3).alloc (.cells #[.int .u8 5, .int .u8 1, .int .u8 0, .int .u8 1, .int .u8 1, .int .u8 2, .int .u8 3, .int .u8 4, .int .u8 0, .int .u8 80] 5 (0, 0)))).back
        by_cases h0 : p.length = 0
        · have hp : p = [] := List.eq_nil_of_length_eq_zero h0
          have R : ((SoM.fresh s ⟨#[]⟩).feed (5 :: UInt8.ofNat p.length :: p)).state = 5 ∧ ((SoM.fresh s ⟨#[]⟩).feed (5 :: UInt8.ofNat p.length :: p)).back = [] := by rw [hp]; exact refuse_none s ⟨#[]⟩
          obtain ⟨R1, R2⟩ := R
          obtain ⟨a3, c3, hf⟩ := h5.form
          rw [R2] at hf
          replace hf : b3 = .slice a3 0 c3 := hf
          subst hf
          have hS := so_State h6
          rw [R1] at hS
          have hF := fun v => so_feed_shut (v := v) R1 h6
          have z0 : ((p.length : Int) == 0) = true := by rw [h0]; rfl
          clear R1 R2 h0 hp
          go_wp2_with fail
          refine (hF _).mono ?_
          rintro _ _ ⟨rfl, rfl⟩
          go_wp2_with fail
          refine hS.mono ?_
          rintro _ _ ⟨rfl, rfl⟩
          go_wp2_with fail
          refine (so_awake h6.rest).mono ?_
          rintro _ wz ⟨rfl, hz⟩
          go_wp2_with fail
          go_ret
          exact ⟨rfl, hz.below⟩
        · have R := refuse_all s ⟨#[]⟩ hl2 h0 (by rw [HM.out]; exact hno)
          obtain ⟨R1, R2⟩ := R
          obtain ⟨a3, c3, hf⟩ := h5.form
          rw [R2] at hf hB
          replace hf : b3 = .slice a3 2 c3 := hf
          subst hf
          have hS := so_State h6
          rw [R1] at hS
          have hF := fun v => so_feed_shut (v := v) R1 h6
          have z0 : ((p.length : Int) == 0) = false := by rw [beq_eq_false_iff_ne]; omega
          have k1 := str_conv hB
          have e5 : ((strOf [5, 255]).toList == [5, 255]) = true := by decide +kernel
          clear R1 R2 h0
          go_wp2_with fail
          refine (hF _).mono ?_
          rintro _ _ ⟨rfl, rfl⟩
          go_wp2_with fail
          refine hS.mono ?_
          rintro _ _ ⟨rfl, rfl⟩
          go_wp2_with fail
          refine (so_awake h6.rest).mono ?_
          rintro _ wz ⟨rfl, hz⟩
          go_wp2_with fail
          go_ret
          exact ⟨rfl, hz.below⟩
end Go.Proofs.Ythfdejgckcoohaa
