/- The law SocksReplies, walked. -/
import Derived.Test.YthfdejgckcoohaaSoZ
namespace Go.Proofs.Ythfdejgckcoohaa
open Go Go.RowKit
set_option linter.unusedVariables false
set_option linter.unusedSimpArgs false
set_option maxRecDepth 100000 in
set_option maxHeartbeats 8000000 in
theorem socks_replies_law (u v : Value) (w : World) (hu : IsInt w u) (hv : IsBytes w v) :
    Calls Try.prog 8 #[u, v] w fun e w' => e = .returned (.bool true) ∧ Below w.heap.size w w' := by
  have hs := Sat.refl w
  obtain ⟨code, rfl, _⟩ := hu
  obtain ⟨p, hr⟩ := hv
  obtain ⟨a0, c0, rfl, -, -, -⟩ := hr.form
  by_cases hl : 500 < p.length
  · have z : (500 : Int) < (p.length : Int) := by omega
    clear hl
    go_enter Try.func8, Try.ntmps8
    go_wp2_with fail
    refine (so_awake hs).mono ?_
    rintro _ wz ⟨rfl, hz⟩
    go_wp2_with fail
    go_ret
    exact ⟨rfl, hz.below⟩
  have z : (p.length : Int) ≤ 500 := by omega
  by_cases hc : code < 0 ∨ 8 < code
  · by_cases hc0 : code < 0
    · skip
      go_enter Try.func8, Try.ntmps8
      go_wp2_with fail
      refine (so_New ⟨#[]⟩ ⟨#[]⟩ hs).mono ?_
      rintro _ w1 ⟨g, rfl, h1⟩
      go_wp2_with fail
      refine (so_reply_no (.inl (by decide)) h1).mono ?_
      rintro _ _ ⟨rfl, rfl⟩
      obtain ⟨bv, h2⟩ := SoB.of (h1.add (OwnB.ofNew (l := [5, 1, 0]) (n := 3) ((Sat.refl w1).alloc (.cells #[.int .u8 5, .int .u8 1, .int .u8 0] 5 (0, 0))) rfl rfl (by omega)))
      clear h1
      go_wp2_with fail
      refine (so_feed_on (s := aw1) (by decide) (by decide) (by decide) h2 (Vw.own (L := []) [])).mono ?_
      rintro _ w2 ⟨b2, rfl, h3⟩
      rw [aw12] at h3
      replace h3 := h3.drop.drop
      have hS := so_State h3.to
      rw [show aw2.state = 2 from rfl] at hS
      clear h2
      go_wp2_with fail
      refine (so_reply_no (.inl (by decide)) h3.to).mono ?_
      rintro _ _ ⟨rfl, rfl⟩
      go_wp2_with fail
      refine hS.mono ?_
      rintro _ _ ⟨rfl, rfl⟩
      have h4 := h3.add (OwnB.ofNew (l := [5, 1, 0, 1, 1, 2, 3, 4, 0, 80]) (n := 10) ((Sat.refl w2).alloc (.cells #[.int .u8 5, .int .u8 1, .int .u8 0, .int .u8 1, .int .u8 1, .int .u8 2, .int .u8 3, .int .u8 4, .int .u8 0, .int .u8 80] 5 (0, 0))) rfl rfl (by omega))
      clear h3 hS
      go_wp2_with fail
      refine (so_feed_on (s := aw2) (by decide) (by decide) (by decide) h4 (Vw.own (L := []) [])).mono ?_
      rintro _ w3 ⟨b3, rfl, h5⟩
      rw [aw23] at h5
      replace h5 := h5.drop.drop.to
      clear h4
      go_wp2_with fail
      refine (so_reply_no (.inr hc) h5).mono ?_
      rintro _ _ ⟨rfl, rfl⟩
      go_wp2_with fail
      refine (so_reply_no (.inr hc) h5).mono ?_
      rintro _ _ ⟨rfl, rfl⟩
      have hS := so_State h5
      rw [show aw3.state = 3 from rfl] at hS
      go_wp2_with fail
      refine hS.mono ?_
      rintro _ _ ⟨rfl, rfl⟩
      go_wp2_with fail
      refine (so_awake h5.rest).mono ?_
      rintro _ wz ⟨rfl, hz⟩
      go_wp2_with fail
      go_ret
      exact ⟨rfl, hz.below⟩
    · have hc8 : 8 < code := by omega
      go_enter Try.func8, Try.ntmps8
      go_wp2_with fail
      refine (so_New ⟨#[]⟩ ⟨#[]⟩ hs).mono ?_
      rintro _ w1 ⟨g, rfl, h1⟩
      go_wp2_with fail
      refine (so_reply_no (.inl (by decide)) h1).mono ?_
      rintro _ _ ⟨rfl, rfl⟩
      obtain ⟨bv, h2⟩ := SoB.of (h1.add (OwnB.ofNew (l := [5, 1, 0]) (n := 3) ((Sat.refl w1).alloc (.cells #[.int .u8 5, .int .u8 1, .int .u8 0] 5 (0, 0))) rfl rfl (by omega)))
      clear h1
      go_wp2_with fail
      refine (so_feed_on (s := aw1) (by decide) (by decide) (by decide) h2 (Vw.own (L := []) [])).mono ?_
      rintro _ w2 ⟨b2, rfl, h3⟩
      rw [aw12] at h3
      replace h3 := h3.drop.drop
      have hS := so_State h3.to
      rw [show aw2.state = 2 from rfl] at hS
      clear h2
      go_wp2_with fail
      refine (so_reply_no (.inl (by decide)) h3.to).mono ?_
      rintro _ _ ⟨rfl, rfl⟩
      go_wp2_with fail
      refine hS.mono ?_
      rintro _ _ ⟨rfl, rfl⟩
      have h4 := h3.add (OwnB.ofNew (l := [5, 1, 0, 1, 1, 2, 3, 4, 0, 80]) (n := 10) ((Sat.refl w2).alloc (.cells #[.int .u8 5, .int .u8 1, .int .u8 0, .int .u8 1, .int .u8 1, .int .u8 2, .int .u8 3, .int .u8 4, .int .u8 0, .int .u8 80] 5 (0, 0))) rfl rfl (by omega))
      clear h3 hS
      go_wp2_with fail
      refine (so_feed_on (s := aw2) (by decide) (by decide) (by decide) h4 (Vw.own (L := []) [])).mono ?_
      rintro _ w3 ⟨b3, rfl, h5⟩
      rw [aw23] at h5
      replace h5 := h5.drop.drop.to
      clear h4
      go_wp2_with fail
      refine (so_reply_no (.inr hc) h5).mono ?_
      rintro _ _ ⟨rfl, rfl⟩
      go_wp2_with fail
      refine (so_reply_no (.inr hc) h5).mono ?_
      rintro _ _ ⟨rfl, rfl⟩
      have hS := so_State h5
      rw [show aw3.state = 3 from rfl] at hS
      go_wp2_with fail
      refine hS.mono ?_
      rintro _ _ ⟨rfl, rfl⟩
      go_wp2_with fail
      refine (so_awake h5.rest).mono ?_
      rintro _ wz ⟨rfl, hz⟩
      go_wp2_with fail
      go_ret
      exact ⟨rfl, hz.below⟩
  by_cases hc0 : code = 0
  · subst hc0
    go_enter Try.func8, Try.ntmps8
    go_wp2_with fail
    refine (so_New ⟨#[]⟩ ⟨#[]⟩ hs).mono ?_
    rintro _ w1 ⟨g, rfl, h1⟩
    go_wp2_with fail
    refine (so_reply_no (.inl (by decide)) h1).mono ?_
    rintro _ _ ⟨rfl, rfl⟩
    obtain ⟨bv, h2⟩ := SoB.of (h1.add (OwnB.ofNew (l := [5, 1, 0]) (n := 3) ((Sat.refl w1).alloc (.cells #[.int .u8 5, .int .u8 1, .int .u8 0] 5 (0, 0))) rfl rfl (by omega)))
    clear h1
    go_wp2_with fail
    refine (so_feed_on (s := aw1) (by decide) (by decide) (by decide) h2 (Vw.own (L := []) [])).mono ?_
    rintro _ w2 ⟨b2, rfl, h3⟩
    rw [aw12] at h3
    replace h3 := h3.drop.drop
    have hS := so_State h3.to
    rw [show aw2.state = 2 from rfl] at hS
    clear h2
    go_wp2_with fail
    refine (so_reply_no (.inl (by decide)) h3.to).mono ?_
    rintro _ _ ⟨rfl, rfl⟩
    go_wp2_with fail
    refine hS.mono ?_
    rintro _ _ ⟨rfl, rfl⟩
    have h4 := h3.add (OwnB.ofNew (l := [5, 1, 0, 1, 1, 2, 3, 4, 0, 80]) (n := 10) ((Sat.refl w2).alloc (.cells #[.int .u8 5, .int .u8 1, .int .u8 0, .int .u8 1, .int .u8 1, .int .u8 2, .int .u8 3, .int .u8 4, .int .u8 0, .int .u8 80] 5 (0, 0))) rfl rfl (by omega))
    clear h3 hS
    go_wp2_with fail
    refine (so_feed_on (s := aw2) (by decide) (by decide) (by decide) h4 (Vw.own (L := []) [])).mono ?_
    rintro _ w3 ⟨b3, rfl, h5⟩
    rw [aw23] at h5
    replace h5 := h5.drop.drop.to
    clear h4
    go_wp2_with fail
    refine (so_reply_done rfl h5).mono ?_
    rintro _ w4 ⟨a4, d4, a5, d5, rfl, h6⟩
    go_wp2_with fail
    refine (so_reply_no (.inl (by decide)) h6).mono ?_
    rintro _ _ ⟨rfl, rfl⟩
    have hS := fun (W : World) (L' : List Assn) (h : SoS w W L' g { aw3 with state := 4, wait := [] }) => so_State h
    simp only at hS
    have hr2 := hr.mono h6.rest.below
    go_wp2_with fail
    refine (so_feed_open rfl (by omega) h6 hr2).mono ?_
    rintro _ w5 ⟨a6, c6, rfl, h7⟩
    have h8 := h6.add h7
    have k1 := str_conv (OwnB.rd h7)
    have k2 := str_conv (hr2.mono h7.below)
    go_wp2_with fail
    refine (hS _ _ h8).mono ?_
    rintro _ _ ⟨rfl, rfl⟩
    go_wp2_with fail
    refine (so_awake h8.rest).mono ?_
    rintro _ wz ⟨rfl, hz⟩
    go_wp2_with fail
    go_ret
    exact ⟨rfl, hz.below⟩
  have hc1 : 0 ≤ code := by omega
  have hc8 : code ≤ 8 := by omega
  have hz0 : (code == 0) = false := by rw [beq_eq_false_iff_ne]; exact hc0
  have hz1 : (code != 0) = true := by rw [bne_iff_ne]; exact hc0
  go_enter Try.func8, Try.ntmps8
  go_wp2_with fail
  refine (so_New ⟨#[]⟩ ⟨#[]⟩ hs).mono ?_
  rintro _ w1 ⟨g, rfl, h1⟩
  go_wp2_with fail
  refine (so_reply_no (.inl (by decide)) h1).mono ?_
  rintro _ _ ⟨rfl, rfl⟩
  obtain ⟨bv, h2⟩ := SoB.of (h1.add (OwnB.ofNew (l := [5, 1, 0]) (n := 3) ((Sat.refl w1).alloc (.cells #[.int .u8 5, .int .u8 1, .int .u8 0] 5 (0, 0))) rfl rfl (by omega)))
  clear h1
  go_wp2_with fail
  refine (so_feed_on (s := aw1) (by decide) (by decide) (by decide) h2 (Vw.own (L := []) [])).mono ?_
  rintro _ w2 ⟨b2, rfl, h3⟩
  rw [aw12] at h3
  replace h3 := h3.drop.drop
  have hS := so_State h3.to
  rw [show aw2.state = 2 from rfl] at hS
  clear h2
  go_wp2_with fail
  refine (so_reply_no (.inl (by decide)) h3.to).mono ?_
  rintro _ _ ⟨rfl, rfl⟩
  go_wp2_with fail
  refine hS.mono ?_
  rintro _ _ ⟨rfl, rfl⟩
  have h4 := h3.add (OwnB.ofNew (l := [5, 1, 0, 1, 1, 2, 3, 4, 0, 80]) (n := 10) ((Sat.refl w2).alloc (.cells #[.int .u8 5, .int .u8 1, .int .u8 0, .int .u8 1, .int .u8 1, .int .u8 2, .int .u8 3, .int .u8 4, .int .u8 0, .int .u8 80] 5 (0, 0))) rfl rfl (by omega))
  clear h3 hS
  go_wp2_with fail
  refine (so_feed_on (s := aw2) (by decide) (by decide) (by decide) h4 (Vw.own (L := []) [])).mono ?_
  rintro _ w3 ⟨b3, rfl, h5⟩
  rw [aw23] at h5
  replace h5 := h5.drop.drop.to
  clear h4
  go_wp2_with fail
  obtain ⟨k, hk⟩ := Int.eq_ofNat_of_zero_le hc1
  have HK := hid_ hk
  clear hk
  refine (so_reply_shut HK.out rfl hc0 hc1 hc8 (by decide) h5).mono ?_
  rintro _ w4 ⟨a4, d4, rfl, h6⟩
  go_wp2_with fail
  refine (so_reply_no (.inl (by decide)) h6).mono ?_
  rintro _ _ ⟨rfl, rfl⟩
  have hS := so_State h6
  rw [show (aw3.close []).state = 5 from rfl] at hS
  go_wp2_with fail
  refine (so_feed_shut rfl h6).mono ?_
  rintro _ _ ⟨rfl, rfl⟩
  go_wp2_with fail
  refine hS.mono ?_
  rintro _ _ ⟨rfl, rfl⟩
  go_wp2_with fail
  refine (so_awake h6.rest).mono ?_
  rintro _ wz ⟨rfl, hz⟩
  go_wp2_with fail
  go_ret
  exact ⟨rfl, hz.below⟩
end Go.Proofs.Ythfdejgckcoohaa
