/- What a frame means to a stream: Got of a frame of data, walked. -/
import Derived.Test.YtkejadhkebjdcaaStreamH
namespace Go.Proofs.Ytkejadhkebjdcaa
open Go Go.RowKit
set_option linter.unusedVariables false
set_option linter.unusedSimpArgs false
section
variable {w0 w : World} {L : List Assn}
theorem FramesA.one {b : Nat} {f : FrM} (hi : f.addr.ip = []) (hd : f.data = [])
    (h : Sat w0 w (Blk b (.cells #[.int .i64 f.kind, .int .i64 f.stream, .int .i64 f.code, .int .i64 f.n, .int .i64 f.addr.kind, .slice none 0 0, .string f.addr.name, .int .i64 f.addr.port, .slice none 0 0] 43 (0, 0)) :: L)) :
    Sat w0 w (FramesA (.slice (some ⟨b, 0, none⟩) 1 1) [f] :: L) := by
  refine OwnL.shut (css := [frC f (.slice none 0 0) (.slice none 0 0)]) rfl (by simp [frC]) ?_
  refine OwnS.ofBlk (cur := (frC f (.slice none 0 0) (.slice none 0 0)).toArray) ?_ (Nat.le_refl _) (by decide) (by simp [frC]) (by simp [frC])
  refine Sat.re [1, 0] [_, _] (FrE.shut (f := f) ?_)
  rw [hi, hd]
  exact OwnB.nilI (OwnB.nilI h)

set_option maxRecDepth 100000 in
set_option maxHeartbeats 2000000 in
theorem stream_Got_data (g : Nat) (s : StM) (f : FrM) (x z : Option Addr) (c k : Nat) (hr : RdV w f x z c k) (hh : s.hears f = true) (hk : f.kind = 3) (ho : s.over = false) (hl : decide (s.others < (f.data.length : Int)) = false) (hs : Sat w0 w (StA g s :: L)) :
    Calls Try.prog 36 #[.pointer (some ⟨g, 0, none⟩), frV f (.slice x f.addr.ip.length c) (.slice z f.data.length k)] w (GotR w0 L g f.data [FrM.winF s.id f.data.length] 0 s) := by
  have hA : ∀ o, Sat w0 (w.alloc o) (Blk w.heap.size o :: StA g s :: L) := fun o => hs.alloc o
  have hB : ∀ o, Below w.heap.size w (w.alloc o) := fun o => (Below.refl _ _).alloc (Nat.le_refl _) o
  unfold StM.hears at hh
  simp only [Bool.and_eq_true, Bool.not_eq_true', beq_iff_eq] at hh
  obtain ⟨⟨hd, hq⟩, hm⟩ := hh
  have HD := hid_ hd
  have HM := hid_ hm
  have hq' : (f.stream != s.id) = false := by unfold bne; rw [hq]; simp
  have hok := StA.ok hs
  have hlt : g < w.heap.size := by
    obtain ⟨gc, v, _, h1⟩ := StA.opn hs
    exact h1.lt
  have hne : w.heap.size ≠ g := by omega
  clear hd hm
  have HQ := hid_ hq
  clear hq
  have k3 : (f.kind == 3) = true := by simp [hk]
  clear hk
  unfold frV
  go_enter Try.func36, Try.ntmps36
  go_wp2_with fail
  have b0 := box9 (hs.alloc (.cells #[.int .i64 f.kind, .int .i64 f.stream, .int .i64 f.code, .int .i64 f.n, .int .i64 f.addr.kind, .slice x f.addr.ip.length c, .string f.addr.name, .int .i64 f.addr.port, .slice z f.data.length k] 43 (0, 0)))
  have b1 := Cell0.of (hA (.cells #[.int .i64 f.kind, .int .i64 f.stream, .int .i64 f.code, .int .i64 f.n, .int .i64 f.addr.kind, .slice x f.addr.ip.length c, .string f.addr.name, .int .i64 f.addr.port, .slice z f.data.length k] 43 (0, 0))).drop
  go_region_held3 (fun w' => Box9 w' w.heap.size f (.slice x f.addr.ip.length c) (.slice z f.data.length k) ∧ w'.cell? ⟨g, 0, none⟩ = some (.int .i64 s.id))
    (first | exact ⟨b0, b1⟩ | exact ⟨box9 h4, Cell0.of h4.drop⟩)
    (first | (go_at_call 44; refine (stream_DoneV HD ((hA _).drop.drew)).mono ?_; rintro _ w3 ⟨rfl, rfl⟩) | (go_at_call 39; refine (frame_MayV HM (hr.mono ((hB _).drew))).mono ?_; rintro _ w3 ⟨rfl, h3⟩; have h4 := (hA _).drew.under h3))
  obtain ⟨p0, p1, p2, p3, p4, p5, p6, p7, p8⟩ := box9 h4
  obtain ⟨gc, v, _, h1⟩ := StA.opn h4.drop
  have q6 : w3.cell? ⟨g, 6, none⟩ = some (.bool false) := by
    rw [← ho]
    exact h1.cell 6 rfl
  have q2 : w3.cell? ⟨g, 2, none⟩ = some (.int .i64 s.others) := h1.cell 2 rfl
  clear ho
  have hlen : f.data.length ≤ 1000000 := by
    simp only [decide_eq_false_iff_not] at hl
    have := hok.2.2.2.1
    omega
  have q0 : w3.cell? ⟨g, 0, none⟩ = some (.int .i64 s.id) := h1.cell 0 rfl
  go_wp2_with fail
  go_quiet (fail)
  go_wp2_with fail
  have hb3 := (((Sat.refl w).alloc _).drew.under h3).below
  have hcl : ∀ wx, Below w3.heap.size w3 wx → RdB wx (.slice z f.data.length k) f.data := fun wx hx => (hr.data.mono hb3).mono (hx.mono (by exact Nat.le_refl _))
  go_region_held3 (fun w' => w'.cell? ⟨w.heap.size, 8, none⟩ = some (.slice z f.data.length k) ∧ w'.cell? ⟨g, 0, none⟩ = some (.int .i64 s.id))
    (first | exact ⟨p8, q0⟩ | exact ⟨h5.drop.cell 8 rfl, Cell0.of h5.drop.drop⟩ | exact ⟨(h5.alloc_ _).drop.cell 8 rfl, Cell0.of (h5.alloc_ _).drop.drop⟩ | exact ⟨((h4.drewN _).drew.alloc_ _).cell 8 rfl, Cell0.of ((h4.drewN _).drew.alloc_ _).drop⟩ | exact ⟨h6.drop.drop.cell 8 rfl, Cell0.of h6.drop.drop.drop⟩)
    (first | (go_at_call 49; refine (clone_any _ f.data (hcl _ ?hbl) hlen).mono ?_; (case hbl => exact (((Sat.refl w3).drewN _).drew).below); rintro _ w5 ⟨a5, k5, rfl, h5⟩; replace h5 := (h4.drewN _).drew.trans h5) | (go_at_call 49; refine (clone_any _ f.data (hcl _ ?hbl2) hlen).mono ?_; (case hbl2 => exact (((Sat.refl w3).drewN _).drew.alloc_ _).below); rintro _ w5 ⟨a5, k5, rfl, h6⟩; replace h6 := ((h4.drewN _).drew.alloc _).trans h6))
  · go_wp2_with fail
    go_ret3
    exact ⟨_, _, rfl, (Sat.re [2, 1, 0] [_, _, _] (FramesA.one (f := FrM.winF s.id f.data.length) rfl rfl (h5.alloc _))).drop⟩
  · go_wp2_with fail
    go_ret3
    exact ⟨_, _, rfl, (Sat.re [2, 1, 0] [_, _, _] (FramesA.one (f := FrM.winF s.id f.data.length) rfl rfl h6.swap)).drop⟩
/-- Got of any frame. -/
theorem stream_Got (g : Nat) (s : StM) (f : FrM) (x z : Option Addr) (c k : Nat) (hr : RdV w f x z c k) (hs : Sat w0 w (StA g s :: L)) :
    Calls Try.prog 36 #[.pointer (some ⟨g, 0, none⟩), frV f (.slice x f.addr.ip.length c) (.slice z f.data.length k)] w (GotR w0 L g (s.gotD f) (s.gotL f) (s.gotK f) (s.got f)) := by
  unfold StM.gotD StM.gotL StM.gotK StM.got StM.heard
  cases hh : s.hears f
  · exact stream_Got_no g s f x z c k hr hh hs
  · by_cases h3 : f.kind = 3
    · cases ho : s.over
      · cases hl : decide (s.others < (f.data.length : Int))
        · have hw : s.wrong f = false := by unfold StM.wrong; rw [ho, hl]; simp [h3]
          rw [hw]
          simp only [h3]
          exact stream_Got_data g s f x z c k hr hh h3 ho hl hs
        · have hw : s.wrong f = true := by unfold StM.wrong; rw [ho, hl]; simp [h3]
          rw [hw]
          simp only [h3]
          exact stream_Got_data_long g s f x z c k hr hh h3 ho hl hs
      · have hw : s.wrong f = true := by unfold StM.wrong; rw [ho]; simp [h3]
        rw [hw]
        simp only [h3]
        exact stream_Got_data_over g s f x z c k hr hh h3 ho hs
    · by_cases h4 : f.kind = 4
      · cases ho : s.over
        · have hw : s.wrong f = false := by unfold StM.wrong; rw [ho]; simp [h4]
          rw [hw]
          simp only [h4]
          exact stream_Got_fin g s f x z c k hr hh h4 ho hs
        · have hw : s.wrong f = true := by unfold StM.wrong; rw [ho]; simp [h4]
          rw [hw]
          simp only [h4]
          exact stream_Got_fin_no g s f x z c k hr hh h4 ho hs
      · by_cases h6 : f.kind = 6
        · cases hg : giveB s.may f.n
          · have hw : s.wrong f = true := by unfold StM.wrong; rw [hg]; simp [h6]
            rw [hw]
            simp only [h6]
            exact stream_Got_give_no g s f x z c k hr hh h6 hg hs
          · have hw : s.wrong f = false := by unfold StM.wrong; rw [hg]; simp [h6]
            rw [hw]
            simp only [h6]
            exact stream_Got_give g s f x z c k hr hh h6 hg hs
        · have hw : s.wrong f = false := by unfold StM.wrong; simp [h3, h4, h6]
          by_cases h5 : f.kind = 5
          · rw [hw]
            simp only [h5]
            exact stream_Got_reset g s f x z c k hr hh h5 hs
          · rw [hw]
            simp only [h3, h4, h5, h6, if_false]
            have := stream_Got_other g s f x z c k hr hh h3 h4 h5 h6 hs
            simpa [h3] using this

set_option maxRecDepth 100000 in
theorem stream_Got_nil (f : FrM) (x z : Option Addr) (c k : Nat) : Calls Try.prog 36 #[.pointer none, frV f (.slice x f.addr.ip.length c) (.slice z f.data.length k)] w fun e w' => e = .returned (.tuple #[.slice none 0 0, .slice none 0 0, .int .i64 0]) ∧ Below w.heap.size w w' := by
  unfold frV
  go_enter Try.func36, Try.ntmps36
  go_wp2_with fail
  go_quiet (fail)
  go_wp2_with fail
  go_ret3
  exact ⟨rfl, (((Sat.refl w).alloc_ _).drewN _).below⟩
end
end Go.Proofs.Ytkejadhkebjdcaa
