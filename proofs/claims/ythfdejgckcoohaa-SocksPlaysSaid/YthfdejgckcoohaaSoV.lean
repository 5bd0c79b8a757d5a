/- The law SocksCommands, walked. -/
import Derived.Test.YthfdejgckcoohaaSoU
namespace Go.Proofs.Ythfdejgckcoohaa
open Go Go.RowKit
set_option linter.unusedVariables false
set_option linter.unusedSimpArgs false

theorem SoM.run_mono : ∀ (n : Nat) (s : SoM), 0 ≤ s.state → s.state ≤ 3 → s.wait.length ≤ 4096 → s.state ≤ (SoM.run n s).state
  | 0, s, _, _, _ => Int.le_refl _
  | n + 1, s, h0, h3, hl => by
    have e : SoM.run (n + 1) s = if s.step.1 then SoM.run n s.step.2 else s.step.2 := rfl
    rw [e]
    cases SoM.step_put (s := s) [] h0 h3 hl with
    | on s' e1 _ h5 h6 h7 => rw [e1]; have := SoM.run_mono n s' (by omega) h6 (by omega); show s.state ≤ (SoM.run n s').state; omega
    | shut s' e1 _ h5 => rw [e1]; show s.state ≤ s'.state; omega
    | more e1 => rw [e1]; exact Int.le_refl _
def aw2f (f : List UInt8) : SoM := ⟨⟨#[]⟩, ⟨#[]⟩, 2, f, AdM.zero, []⟩
theorem aw2_feed (f : List UInt8) : aw2.feed f = SoM.run 4 (aw2f f) := rfl
theorem SoM.step_of2 {s : SoM} (h : s.state = 2) : s.step = s.ask := by unfold SoM.step; rw [if_neg (by omega), if_neg (by omega), if_pos h]
def cmdB (c k : UInt8) (p : List UInt8) : List UInt8 := 5 :: c :: 0 :: k :: UInt8.ofNat p.length :: p
theorem cmd_moves (c k : UInt8) {p : List UInt8} (hl : p.length ≤ 255) : (aw2.feed (cmdB c k p)).state ≠ 0 := by
  rw [aw2_feed]
  have h := SoM.run_mono 4 (aw2f (cmdB c k p)) (by show (0 : Int) ≤ 2; decide) (by show (2 : Int) ≤ 3; decide) (by show (cmdB c k p).length ≤ 4096; simp [cmdB]; omega)
  have h2 : (aw2f (cmdB c k p)).state = 2 := rfl
  omega
theorem cmd_ask {c k : UInt8} {p : List UInt8} {x : SoM} (h : (aw2f (cmdB c k p)).ask = (false, x)) : aw2.feed (cmdB c k p) = x := by
  rw [aw2_feed, SoM.run_stop]
  rw [SoM.step_of2 rfl, h]
theorem cmd_bad {c k : UInt8} {p : List UInt8} (h : c.toNat ≠ 1) : aw2.feed (cmdB c k p) = (aw2f (cmdB c k p)).close (replyB 7) := by
  refine cmd_ask ?_
  unfold SoM.ask
  have e0 : bAt (aw2f (cmdB c k p)).wait 0 = 5 := rfl
  have e1 : bAt (aw2f (cmdB c k p)).wait 1 = c.toNat := rfl
  have el : (aw2f (cmdB c k p)).wait.length = p.length + 5 := rfl
  rw [e0, e1, el, if_neg (by omega), if_neg (by omega), if_pos h]
theorem cmd_err {c k : UInt8} {p : List UInt8} (h : c.toNat = 1) (hd : (decA (k :: UInt8.ofNat p.length :: p)).1 = 3) :
    aw2.feed (cmdB c k p) = if k.toNat = 1 ∨ k.toNat = 4 ∨ k.toNat = 3 then (aw2f (cmdB c k p)).close (replyB 1) else (aw2f (cmdB c k p)).close (replyB 8) := by
  refine cmd_ask ?_
  unfold SoM.ask
  have e0 : bAt (aw2f (cmdB c k p)).wait 0 = 5 := rfl
  have e1 : bAt (aw2f (cmdB c k p)).wait 1 = c.toNat := rfl
  have e2 : bAt (aw2f (cmdB c k p)).wait 2 = 0 := rfl
  have e3 : bAt (aw2f (cmdB c k p)).wait 3 = k.toNat := rfl
  have el : (aw2f (cmdB c k p)).wait.length = p.length + 5 := rfl
  have ed : (aw2f (cmdB c k p)).wait.drop 3 = k :: UInt8.ofNat p.length :: p := rfl
  rw [e0, e1, e2, e3, el, ed, hd, if_neg (by omega), if_neg (by omega), if_neg (by omega), if_neg (by omega), if_neg (by decide), if_pos (by decide)]
  split <;> rfl
theorem dec_kind {k : UInt8} (r : List UInt8) (h1 : k.toNat ≠ 1) (h3 : k.toNat ≠ 3) (h4 : k.toNat ≠ 4) : (decA (k :: r)).1 = 3 := by
  have e0 : ((k :: r).getD 0 0).toNat = k.toNat := rfl
  have hl : lensB (k :: r) = (3, 0, 0) := by
    unfold lensB
    rw [e0, if_neg h1, if_neg h4, if_neg h3]
  unfold decA
  rw [hl, if_neg (by simp), if_pos (by decide)]
def upB (y : Nat) : Prop := 65 ≤ y ∧ y ≤ 90
theorem dec_name {p : List UInt8} (hl : p.length ≤ 255) (h : p.length = 0 ∨ 64 < p.length ∨ ∃ j, j < p.length ∧ upB (bAt p j)) : (decA (3 :: UInt8.ofNat p.length :: p)).1 = 3 := by
  have hn : (UInt8.ofNat p.length).toNat = p.length := toNat_of (by omega)
  obtain ⟨f, hf⟩ : ∃ f, (3 : UInt8) :: UInt8.ofNat p.length :: p = f := ⟨_, rfl⟩
  have e0 : (f.getD 0 0).toNat = 3 := by rw [← hf]; rfl
  have e1 : (f.getD 1 0).toNat = p.length := by rw [← hf]; exact hn
  have el : f.length = p.length + 2 := by rw [← hf]; rfl
  have ed : f.drop 2 = p := by rw [← hf]; rfl
  rw [hf]
  by_cases hb : p.length = 0 ∨ 64 < p.length
  · have h2 : lensB f = (3, 0, 0) := by
      unfold lensB
      rw [e0, e1, el, if_neg (by decide), if_neg (by decide), if_pos rfl, if_neg (by omega), if_pos hb]
    unfold decA
    rw [h2, el, if_neg (by omega), if_pos (by decide)]
  · have h2 : lensB f = (0, p.length, 1) := by
      unfold lensB
      rw [e0, e1, el, if_neg (by decide), if_neg (by decide), if_pos rfl, if_neg (by omega), if_neg hb]
    have hc : cutAd f p.length 1 = ⟨3, [], strOf p, 0⟩ := by
      unfold cutAd
      rw [e0, if_pos rfl, ed, List.take_of_length_le (Nat.le_refl _)]
    have hm : (cutAd f p.length 1).may = false := by
      rw [Bool.eq_false_iff]
      intro hm
      rw [hc] at hm
      have h5 := ((may_iff _).1 hm).2.2
      rcases h5 with ⟨h5, _⟩ | ⟨h5, _⟩ | ⟨_, h5, _⟩
      · exact absurd (show (3 : Int) = 1 from h5) (by decide)
      · exact absurd (show (3 : Int) = 4 from h5) (by decide)
      · rw [show (⟨3, [], strOf p, 0⟩ : AdM).name = strOf p from rfl, strOf_toList] at h5
        obtain ⟨j, hj, hu⟩ : ∃ j, j < p.length ∧ upB (bAt p j) := by
          rcases h with h | h | h
          · exact absurd (.inl h) hb
          · exact absurd (.inr h) hb
          · exact h
        unfold nameOk at h5
        simp only [Bool.and_eq_true, List.all_eq_true] at h5
        have h6 := h5.1.1 (p.getD j 0) (by simp [List.getD, hj])
        have h7 : bAt p j = (p.getD j 0).toNat := rfl
        rw [← h7] at h6
        unfold letterB at h6
        unfold upB at hu
        simp only [Bool.or_eq_true, Bool.and_eq_true, decide_eq_true_eq, beq_iff_eq] at h6
        omega
    unfold decA
    rw [h2, el, if_neg (by omega), if_neg (by simp)]
    simp only
    rw [if_neg (by omega), if_pos hm]
theorem cmd_kind {c k : UInt8} {p : List UInt8} (h : c.toNat = 1) (h1 : k.toNat ≠ 1) (h3 : k.toNat ≠ 3) (h4 : k.toNat ≠ 4) : aw2.feed (cmdB c k p) = (aw2f (cmdB c k p)).close (replyB 8) := by
  rw [cmd_err h (dec_kind _ h1 h3 h4), if_neg (by omega)]
theorem cmd_name {c k : UInt8} {p : List UInt8} (hl : p.length ≤ 255) (h : c.toNat = 1) (h3 : k.toNat = 3) (hp : p.length = 0 ∨ 64 < p.length ∨ ∃ j, j < p.length ∧ upB (bAt p j)) : aw2.feed (cmdB c k p) = (aw2f (cmdB c k p)).close (replyB 1) := by
  have e : k = 3 := UInt8.toNat_inj.1 h3
  subst e
  rw [cmd_err h (dec_name hl hp), if_pos (by decide)]
set_option maxRecDepth 100000 in
set_option maxHeartbeats 8000000 in
theorem socks_commands_law (u v z : Value) (w : World) (hu : IsByte w u) (hv : IsByte w v) (hz : IsBytes w z) :
    Calls Try.prog 5 #[u, v, z] w fun e w' => e = .returned (.bool true) ∧ Below w.heap.size w w' := by
  have hs := Sat.refl w
  obtain ⟨x, rfl, hx⟩ := hu
  obtain ⟨y, rfl, hy⟩ := hv
  obtain ⟨b, hb⟩ : ∃ b : UInt8, b.toNat = x := ⟨UInt8.ofNat x, toNat_of hx⟩
  obtain ⟨k, hk⟩ : ∃ b : UInt8, b.toNat = y := ⟨UInt8.ofNat y, toNat_of hy⟩
  obtain ⟨p, hr⟩ := hz
  obtain ⟨a0, c0, rfl, -, -, -⟩ := hr.form
  by_cases hl : 255 < p.length
  · have z : (255 : Int) < (p.length : Int) := by omega
    clear hl hb hk
    go_enter Try.func5, Try.ntmps5
    go_wp2_with fail
    refine (so_awake hs).mono ?_
    rintro _ wz ⟨rfl, hz⟩
    go_wp2_with fail
    go_ret
    exact ⟨rfl, hz.below⟩
  have z : (p.length : Int) ≤ 255 := by omega
  have hl2 : p.length ≤ 255 := by omega
  clear hl
  have HB := hid_ hb
  have HK := hid_ hk
  clear hb hk
  have u8 : IntKind.u8.wrap (p.length : Int) = (p.length : Int) := by rw [u8_wrap_mod]; omega
  have n8 := hid_ (show ((UInt8.ofNat p.length).toNat : Int) = (p.length : Int) by rw [toNat_of (by omega)])
  have hmv := hid_ (cmd_moves b k hl2)
  obtain ⟨T, hT⟩ : ∃ T, aw2.feed (cmdB b k p) = T := ⟨_, rfl⟩
  have HT := hid_ hT
  rw [hT] at hmv
  clear hT
  go_enter Try.func5, Try.ntmps5
  go_wp2_with fail
  refine (so_New ⟨#[]⟩ ⟨#[]⟩ hs).mono ?_
  rintro _ w1 ⟨g, rfl, h1⟩
  obtain ⟨bv, h2⟩ := SoB.of (h1.add (OwnB.ofNew (l := [5, 1, 0]) (n := 3) ((Sat.refl w1).alloc (.cells #[.int .u8 5, .int .u8 1, .int .u8 0] 5 (0, 0))) rfl rfl (by omega)))
  clear h1
  go_wp2_with fail
  refine (so_feed_on (s := aw1) (by decide) (by decide) (by decide) h2 (Vw.own (L := []) [])).mono ?_
  rintro _ w2 ⟨b2, rfl, h3⟩
  rw [aw12] at h3
  replace h3 := h3.drop.drop
  clear h2
  have h4 : Sat w2 (w2.alloc (.cells #[.int .u8 5, .int .u8 x, .int .u8 0, .int .u8 y, .int .u8 p.length] 5 (0, 0))) [OwnB 5 (.slice (some ⟨w2.heap.size, 0, none⟩) 5 5) [5, b, 0, k, UInt8.ofNat p.length]] := OwnB.ofNew (l := [5, b, 0, k, UInt8.ofNat p.length]) (n := 5) ((Sat.refl w2).alloc (.cells #[.int .u8 5, .int .u8 x, .int .u8 0, .int .u8 y, .int .u8 p.length] 5 (0, 0))) (by rw [← HB.out, ← HK.out, ← n8.out]; rfl) rfl (by omega)
  have hr2 := (hr.mono h3.to.rest.below).mono h4.below
  go_wp2_with (at_builtin; refine wpList_append_b (w0 := w2) rfl _ _ 22 rfl rfl h4 rfl (slSrc hr2) (cmdB b k p) (5 + p.length) rfl (by show p.length + 5 = _; omega) (by omega) ?_)
  intro a2 c2 w3 h5
  have h6 := h3.add h5
  clear h3 h4 hr2
  go_wp2_with fail
  refine (so_feed_on (s := aw2) (by decide) (by decide) (by show 0 + (cmdB b k p).length ≤ _; show 0 + (p.length + 5) ≤ _; omega) h6 (Vw.own (L := []) [])).mono ?_
  rintro _ w4 ⟨b4, rfl, h7⟩
  rw [HT.out] at h7
  have hS := so_State h7.to
  have hr3 := hr.mono h7.to.rest.below
  have hA := so_awake h7.to.rest
  clear h5 h6
  by_cases x1 : x = 1
  case neg =>
    have e1 : ((x : Int) != 1) = true := by rw [bne_iff_ne]; omega
    have F := HT.out.symm.trans (cmd_bad (c := b) (k := k) (p := p) (by rw [HB.out]; exact x1))
    obtain ⟨a4, c4, hf⟩ := h7.form
    have hB := h7.back
    rw [F] at hf hS hB
    replace hf : b4 = .slice a4 10 c4 := hf
    subst hf
    replace hB : RdB w4 (.slice a4 10 c4) (replyB 7) := hB
    obtain ⟨b', o', c', he, _, _, q⟩ := hB.at0 (by decide)
    injection he with he e10 he'
    clear e10
    subst he he'
    have q0 : w4.cell? ⟨b', o', none⟩ = some (.int .u8 5) := q 0 (by decide)
    have q1 : w4.cell? ⟨b', o' + 1, none⟩ = some (.int .u8 7) := q 1 (by decide)
    rw [show ((aw2f (cmdB b k p)).close (replyB 7)).state = 5 from rfl] at hS
    clear F q
    go_wp2_with fail
    refine hS.mono ?_
    rintro _ _ ⟨rfl, rfl⟩
    go_wp2_with fail
    refine hA.mono ?_
    rintro _ wz ⟨rfl, hz⟩
    go_wp2_with fail
    go_ret
    exact ⟨rfl, hz.below⟩
  have hb1 := hid_ (show b.toNat = 1 by rw [HB.out]; exact x1)
  subst x1
  by_cases yk : y ≠ 1 ∧ y ≠ 3 ∧ y ≠ 4
  · have e1 : ((y : Int) != 1) = true := by rw [bne_iff_ne]; omega
    have e2 : ((y : Int) != 3) = true := by rw [bne_iff_ne]; omega
    have e3 : ((y : Int) != 4) = true := by rw [bne_iff_ne]; omega
    have F := HT.out.symm.trans (cmd_kind (k := k) (p := p) hb1.out (by rw [HK.out]; exact yk.1) (by rw [HK.out]; exact yk.2.1) (by rw [HK.out]; exact yk.2.2))
    obtain ⟨a4, c4, hf⟩ := h7.form
    have hB := h7.back
    rw [F] at hf hS hB
    replace hf : b4 = .slice a4 10 c4 := hf
    subst hf
    replace hB : RdB w4 (.slice a4 10 c4) (replyB 8) := hB
    obtain ⟨b', o', c', he, _, _, q⟩ := hB.at0 (by decide)
    injection he with he e10 he'
    clear e10
    subst he he'
    have q0 : w4.cell? ⟨b', o', none⟩ = some (.int .u8 5) := q 0 (by decide)
    have q1 : w4.cell? ⟨b', o' + 1, none⟩ = some (.int .u8 8) := q 1 (by decide)
    rw [show ((aw2f (cmdB b k p)).close (replyB 8)).state = 5 from rfl] at hS
    clear F q
    go_wp2_with fail
    refine hS.mono ?_
    rintro _ _ ⟨rfl, rfl⟩
    go_wp2_with fail
    refine hA.mono ?_
    rintro _ wz ⟨rfl, hz⟩
    go_wp2_with fail
    go_ret
    exact ⟨rfl, hz.below⟩
  by_cases y3 : y = 3
  case neg =>
    have e4 : ((y : Int) == 3) = false := by rw [beq_eq_false_iff_ne]; omega
    by_cases y1 : y = 1
    · subst y1
      have hst : (T.state != 0) = true := by rw [bne_iff_ne]; exact hmv.out
      obtain ⟨st, hst2⟩ : ∃ st, T.state = st := ⟨_, rfl⟩
      rw [hst2] at hst hS
      clear hst2
      go_wp2_with fail
      refine hS.mono ?_
      rintro _ _ ⟨rfl, rfl⟩
      go_wp2_with fail
      refine hA.mono ?_
      rintro _ wz ⟨rfl, hz⟩
      go_wp2_with fail
      go_ret
      exact ⟨rfl, hz.below⟩
    · obtain rfl : y = 4 := by omega
      have hst : (T.state != 0) = true := by rw [bne_iff_ne]; exact hmv.out
      obtain ⟨st, hst2⟩ : ∃ st, T.state = st := ⟨_, rfl⟩
      rw [hst2] at hst hS
      clear hst2
      go_wp2_with fail
      refine hS.mono ?_
      rintro _ _ ⟨rfl, rfl⟩
      go_wp2_with fail
      refine hA.mono ?_
      rintro _ wz ⟨rfl, hz⟩
      go_wp2_with fail
      go_ret
      exact ⟨rfl, hz.below⟩
  have hk3 := hid_ (show k.toNat = 3 by rw [HK.out]; exact y3)
  subst y3
  go_wp2_with fail
  go_loopw [10, 53] (fun v10 vi wr => ∃ (i : Nat) (c : Int), i ≤ p.length ∧ vi = .int .i64 i ∧ v10 = .int .i64 c ∧ (c = 0 ∧ Hid (∀ j, j < i → ¬ upB (bAt p j)) ∨ c = 1 ∧ Hid (∃ j, j < i ∧ upB (bAt p j))) ∧ w4 = wr) (fun _ vi _ => p.length - (intOf vi).toNat)
  case atStart => exact ⟨0, 0, by omega, rfl, rfl, .inl ⟨rfl, hid_ (fun j hj => by omega)⟩, rfl⟩
  case round =>
    obtain ⟨i, c, hi, rfl, rfl, hc, rfl⟩ := hrel
    by_cases hlt : i < p.length
    · obtain ⟨b', o, c', he, _, _, q⟩ := hr3.at0 (by omega)
      injection he with he _ he'
      subst he he'
      have q1 := q i hlt
      have z1 : (i : Int) < (p.length : Int) := by omega
      obtain ⟨m, hm⟩ : ∃ m, bAt p i = m := ⟨_, rfl⟩
      rw [hm] at q1
      have HU := hid_ hm
      clear q hm
      have HC := hid_ hc
      clear hc
      by_cases hm1 : 65 ≤ m
      · have f1 : (65 : Int) ≤ (m : Int) := by omega
        by_cases hm2 : m ≤ 90
        · have f2 : (m : Int) ≤ 90 := by omega
          go_wp2_with fail
          go_roundw
          case rel => exact ⟨i + 1, 1, by omega, by go_num, rfl, .inr ⟨rfl, hid_ ⟨i, by omega, by rw [HU.out]; exact ⟨hm1, hm2⟩⟩⟩, (by first | rfl | trivial)⟩
          case measure => simp [intOf]; omega
        · have f2 : ¬ (m : Int) ≤ 90 := by omega
          go_wp2_with fail
          go_roundw
          case rel =>
            refine ⟨i + 1, c, by omega, by go_num, rfl, ?_, (by first | rfl | trivial)⟩
            rcases HC.out with ⟨h, h5⟩ | ⟨h, h5⟩
            · refine .inl ⟨h, hid_ (fun j hj hu => ?_)⟩
              rcases Nat.lt_or_ge j i with h6 | h6
              · exact h5.out j h6 hu
              · obtain rfl : j = i := by omega
                rw [HU.out] at hu
                exact hm2 hu.2
            · obtain ⟨j, hj, hu⟩ := h5.out
              exact .inr ⟨h, hid_ ⟨j, by omega, hu⟩⟩
          case measure => simp [intOf]; omega
      · have f1 : ¬ (65 : Int) ≤ (m : Int) := by omega
        go_wp2_with fail
        go_roundw
        case rel =>
          refine ⟨i + 1, c, by omega, by go_num, rfl, ?_, (by first | rfl | trivial)⟩
          rcases HC.out with ⟨h, h5⟩ | ⟨h, h5⟩
          · refine .inl ⟨h, hid_ (fun j hj hu => ?_)⟩
            rcases Nat.lt_or_ge j i with h6 | h6
            · exact h5.out j h6 hu
            · obtain rfl : j = i := by omega
              rw [HU.out] at hu
              exact hm1 hu.1
          · obtain ⟨j, hj, hu⟩ := h5.out
            exact .inr ⟨h, hid_ ⟨j, by omega, hu⟩⟩
        case measure => simp [intOf]; omega
    · obtain rfl : i = p.length := by omega
      have z1 : ¬ (p.length : Int) < (p.length : Int) := by omega
      by_cases l0 : p.length = 0
      · have e5 : ((p.length : Int) == 0) = true := by rw [l0]; rfl
        have HP := hid_ l0
        have HC := hid_ hc
        clear l0 hc
        have F := HT.out.symm.trans (cmd_name (k := k) hl2 hb1.out hk3.out (.inl HP.out))
        obtain ⟨a4, c4, hf⟩ := h7.form
        have hB := h7.back
        rw [F] at hf hS hB
        replace hf : b4 = .slice a4 10 c4 := hf
        subst hf
        replace hB : RdB w4 (.slice a4 10 c4) (replyB 1) := hB
        obtain ⟨b', o', c', he, _, _, q⟩ := hB.at0 (by decide)
        injection he with he e10 he'
        clear e10
        subst he he'
        have q0 : w4.cell? ⟨b', o', none⟩ = some (.int .u8 5) := q 0 (by decide)
        have q1 : w4.cell? ⟨b', o' + 1, none⟩ = some (.int .u8 1) := q 1 (by decide)
        rw [show ((aw2f (cmdB b k p)).close (replyB 1)).state = 5 from rfl] at hS
        clear F q
        go_wp2_with fail
        refine hS.mono ?_
        rintro _ _ ⟨rfl, rfl⟩
        go_wp2_with fail
        refine hA.mono ?_
        rintro _ wz ⟨rfl, hz⟩
        go_wp2_with fail
        go_ret
        exact ⟨rfl, hz.below⟩
      · have e5 : ((p.length : Int) == 0) = false := by rw [beq_eq_false_iff_ne]; omega
        by_cases l64 : 64 < p.length
        · have e6 : (64 : Int) < (p.length : Int) := by omega
          have F := HT.out.symm.trans (cmd_name (k := k) hl2 hb1.out hk3.out (.inr (.inl l64)))
          obtain ⟨a4, c4, hf⟩ := h7.form
          have hB := h7.back
          rw [F] at hf hS hB
          replace hf : b4 = .slice a4 10 c4 := hf
          subst hf
          replace hB : RdB w4 (.slice a4 10 c4) (replyB 1) := hB
          obtain ⟨b', o', c', he, _, _, q⟩ := hB.at0 (by decide)
          injection he with he e10 he'
          clear e10
          subst he he'
          have q0 : w4.cell? ⟨b', o', none⟩ = some (.int .u8 5) := q 0 (by decide)
          have q1 : w4.cell? ⟨b', o' + 1, none⟩ = some (.int .u8 1) := q 1 (by decide)
          rw [show ((aw2f (cmdB b k p)).close (replyB 1)).state = 5 from rfl] at hS
          clear F q
          go_wp2_with fail
          refine hS.mono ?_
          rintro _ _ ⟨rfl, rfl⟩
          go_wp2_with fail
          refine hA.mono ?_
          rintro _ wz ⟨rfl, hz⟩
          go_wp2_with fail
          go_ret
          exact ⟨rfl, hz.below⟩
        · have e6 : ¬ (64 : Int) < (p.length : Int) := by omega
          rcases hc with ⟨rfl, h5⟩ | ⟨rfl, h5⟩
          · skip
            have hst : (T.state != 0) = true := by rw [bne_iff_ne]; exact hmv.out
            obtain ⟨st, hst2⟩ : ∃ st, T.state = st := ⟨_, rfl⟩
            rw [hst2] at hst hS
            clear hst2
            go_wp2_with fail
            refine hS.mono ?_
            rintro _ _ ⟨rfl, rfl⟩
            go_wp2_with fail
            refine hA.mono ?_
            rintro _ wz ⟨rfl, hz⟩
            go_wp2_with fail
            go_ret
            exact ⟨rfl, hz.below⟩
          · skip
            have F := HT.out.symm.trans (cmd_name (k := k) hl2 hb1.out hk3.out (.inr (.inr h5.out)))
            obtain ⟨a4, c4, hf⟩ := h7.form
            have hB := h7.back
            rw [F] at hf hS hB
            replace hf : b4 = .slice a4 10 c4 := hf
            subst hf
            replace hB : RdB w4 (.slice a4 10 c4) (replyB 1) := hB
            obtain ⟨b', o', c', he, _, _, q⟩ := hB.at0 (by decide)
            injection he with he e10 he'
            clear e10
            subst he he'
            have q0 : w4.cell? ⟨b', o', none⟩ = some (.int .u8 5) := q 0 (by decide)
            have q1 : w4.cell? ⟨b', o' + 1, none⟩ = some (.int .u8 1) := q 1 (by decide)
            rw [show ((aw2f (cmdB b k p)).close (replyB 1)).state = 5 from rfl] at hS
            clear F q
            go_wp2_with fail
            refine hS.mono ?_
            rintro _ _ ⟨rfl, rfl⟩
            go_wp2_with fail
            refine hA.mono ?_
            rintro _ wz ⟨rfl, hz⟩
            go_wp2_with fail
            go_ret
            exact ⟨rfl, hz.below⟩
end Go.Proofs.Ythfdejgckcoohaa
