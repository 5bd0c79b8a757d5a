/- The law FrameForms, walked. -/
import Derived.Test.YtlkkmnbglememaaFrS
import Derived.Test.YtlkkmnbglememaaRefFe
import Derived.Test.YtlkkmnbglememaaFrQ
namespace Go.Proofs.Ytlkkmnbglememaa
open Go Go.RowKit
set_option linter.unusedVariables false
set_option linter.unusedSimpArgs false

section
variable {w0 w : World} {L : List Assn}
/-- Two frames by one another in a block. -/
def twoO (f g : FrM) (i d j e : Value) : Obj := .cells #[.int .i64 f.kind, .int .i64 f.stream, .int .i64 f.code, .int .i64 f.n, .int .i64 f.addr.kind, i, .string f.addr.name, .int .i64 f.addr.port, d,
  .int .i64 g.kind, .int .i64 g.stream, .int .i64 g.code, .int .i64 g.n, .int .i64 g.addr.kind, j, .string g.addr.name, .int .i64 g.addr.port, e] 26 (0, 0)
abbrev Nine9 (w : World) (b : Nat) (f : FrM) (ip d : Value) : Prop :=
  w.cell? ⟨b, 0, none⟩ = some (.int .i64 f.kind) ∧ w.cell? ⟨b, 1, none⟩ = some (.int .i64 f.stream) ∧ w.cell? ⟨b, 2, none⟩ = some (.int .i64 f.code) ∧ w.cell? ⟨b, 3, none⟩ = some (.int .i64 f.n) ∧
    w.cell? ⟨b, 4, none⟩ = some (.int .i64 f.addr.kind) ∧ w.cell? ⟨b, 5, none⟩ = some ip ∧ w.cell? ⟨b, 6, none⟩ = some (.string f.addr.name) ∧ w.cell? ⟨b, 7, none⟩ = some (.int .i64 f.addr.port) ∧ w.cell? ⟨b, 8, none⟩ = some d
set_option maxRecDepth 100000 in
set_option maxHeartbeats 8000000 in
theorem frame_forms_law (v u : Value) (w : World) (hv : IsFrame w v) (hu : IsFrame w u) :
    Calls Try.prog 3 #[v, u] w fun e w' => e = .returned (.bool true) ∧ Below w.heap.size w w' := by
  obtain ⟨f, x, z, c, k, rfl, hr⟩ := hv
  obtain ⟨h, y, t, d, l, rfl, hq⟩ := hu
  have hs := Sat.refl w
  have h2 := hs.alloc2 (frO f (.slice x f.addr.ip.length c) (.slice z f.data.length k)) (frO h (.slice y h.addr.ip.length d) (.slice t h.data.length l))
  have h3 := h2.alloc (twoO f h (.slice x f.addr.ip.length c) (.slice z f.data.length k) (.slice y h.addr.ip.length d) (.slice t h.data.length l))
  have e2 : ((w.alloc (frO f (.slice x f.addr.ip.length c) (.slice z f.data.length k))).alloc (frO h (.slice y h.addr.ip.length d) (.slice t h.data.length l))).heap.size = w.heap.size + 1 + 1 := by simp
  rw [e2] at h3
  have hL := frame_Light (a := some ⟨w.heap.size + 1 + 1, 0, none⟩) (n := 2) (c := 2) (by unfold maxLen; omega) h3 (fun W L' hW i hi => by
    have h4 := Sat.front L' hW
    unfold twoO at h4
    have hi' : i = 0 ∨ i = 1 := by omega
    rcases hi' with rfl | rfl
    · refine ⟨_, 0, f, .slice x f.addr.ip.length c, .slice z f.data.length k, rfl, fun j u hj => ?_, (hr.mono hW.below).ip, (hr.mono hW.below).data⟩
      refine h4.cell (0 + 0 * 9 + j) ?_
      have hj9 : j < 9 := (List.getElem?_eq_some_iff.1 hj).1
      rw [show 0 + 0 * 9 + j = j by omega, List.getElem?_toArray, ← hj]
      unfold frC
      have : j = 0 ∨ j = 1 ∨ j = 2 ∨ j = 3 ∨ j = 4 ∨ j = 5 ∨ j = 6 ∨ j = 7 ∨ j = 8 := by omega
      rcases this with rfl | rfl | rfl | rfl | rfl | rfl | rfl | rfl | rfl <;> rfl
    · refine ⟨_, 0, h, .slice y h.addr.ip.length d, .slice t h.data.length l, rfl, fun j u hj => ?_, (hq.mono hW.below).ip, (hq.mono hW.below).data⟩
      refine h4.cell (0 + 1 * 9 + j) ?_
      have hj9 : j < 9 := (List.getElem?_eq_some_iff.1 hj).1
      rw [show 0 + 1 * 9 + j = 9 + j by omega, List.getElem?_toArray, ← hj]
      unfold frC
      have : j = 0 ∨ j = 1 ∨ j = 2 ∨ j = 3 ∨ j = 4 ∨ j = 5 ∨ j = 6 ∨ j = 7 ∨ j = 8 := by omega
      rcases this with rfl | rfl | rfl | rfl | rfl | rfl | rfl | rfl | rfl <;> rfl)
  have HL := hid_ hL
  clear hL
  unfold frO at h2 h3 HL
  unfold twoO at h3 HL
  unfold frV
  go_enter Try.func3, Try.ntmps3
  go_wp2_with fail
  refine HL.out.mono ?_
  rintro _ w1 ⟨n1, rfl, hn0, -, h4⟩
  clear HL h2 h3
  by_cases hn : 0 < n1
  · have q : decide (0 < n1) = true := by simpa using hn
    go_wp2_with fail
    refine (frame_awake h4).mono ?_
    rintro _ w2 ⟨rfl, h5⟩
    go_wp2_with fail
    go_ret
    exact ⟨rfl, h5.below⟩
  obtain rfl : n1 = 0 := by omega
  clear hn hn0
  have h5 := h4.drop
  clear h4
  generalize w.heap.size = g at *
  have h5' := h5.drop
  obtain ⟨m0, m1, m2, m3, m4, m5, m6, m7, m8⟩ := h5'.cells9
  obtain ⟨mb, hmb⟩ : ∃ mb, f.may = mb := ⟨_, rfl⟩
  cases mb
  · have HE := hid_ (frame_Encode_no f x z c k hmb (hr.mono h5.below) h5)
    unfold frV at HE
    go_wp2_with fail
    refine HE.out.mono ?_
    rintro _ w2 ⟨rfl, h6⟩
    have HR := hid_ (ref_EncodeFrame_no f x z c k hmb (hr.mono h6.below) h6)
    unfold frV at HR
    clear m0 m1 m2 m3 m4 m5 m6 m7 m8 HE
    have h6' := h6.drop
    obtain ⟨m0, m1, m2, m3, m4, m5, m6, m7, m8⟩ := h6'.cells9
    go_wp2_with fail
    refine HR.out.mono ?_
    rintro _ w3 ⟨rfl, h7⟩
    clear m0 m1 m2 m3 m4 m5 m6 m7 m8 HR h6 h6' h5 h5'
    obtain ⟨PS, hPS⟩ : ∃ PS : List Assn, PS = [Blk (g + 1) (frO h (.slice y h.addr.ip.length d) (.slice t h.data.length l)), Blk g (frO f (.slice x f.addr.ip.length c) (.slice z f.data.length k))] := ⟨_, rfl⟩
    replace h7 : Sat w w3 PS := by rw [hPS]; exact h7
    obtain ⟨sb, hsb⟩ : ∃ sb, sameFr f h = sb := ⟨_, rfl⟩
    obtain ⟨S, hS⟩ : ∃ S : World → Prop, S = fun w' => Nine9 w' g f (.slice x f.addr.ip.length c) (.slice z f.data.length k) ∧ Nine9 w' (g + 1) h (.slice y h.addr.ip.length d) (.slice t h.data.length l) ∧ (convert 22 9 (.slice none 0 0)).run Try.prog w' = .ok (.string (strOf [])) w' ∧ (convert 22 9 (.slice none 0 0)).run Try.prog w' = .ok (.string (strOf [])) w' := ⟨_, rfl⟩
    have HSS := hid_ (show ∀ W : World, Sat w W PS → S W from fun W hW => by
      rw [hPS] at hW
      rw [hS]
      exact ⟨((Sat.front [_] hW : Sat w W (Blk g (.cells #[.int .i64 f.kind, .int .i64 f.stream, .int .i64 f.code, .int .i64 f.n, .int .i64 f.addr.kind, .slice x f.addr.ip.length c, .string f.addr.name, .int .i64 f.addr.port, .slice z f.data.length k] 26 (0, 0)) :: _))).cells9, ((hW : Sat w W (Blk (g + 1) (.cells #[.int .i64 h.kind, .int .i64 h.stream, .int .i64 h.code, .int .i64 h.n, .int .i64 h.addr.kind, .slice y h.addr.ip.length d, .string h.addr.name, .int .i64 h.addr.port, .slice t h.data.length l] 26 (0, 0)) :: _))).cells9, conv_rd Try.underlying22 Try.underlying5 Try.underlying9 (RdB.nil _), conv_rd Try.underlying22 Try.underlying5 Try.underlying9 (RdB.nil _)⟩)
    have HM1 := hid_ (show ∀ W : World, Sat w W PS → Calls Try.prog 13 #[frV f (.slice x f.addr.ip.length c) (.slice z f.data.length k)] W fun e w' => e = .returned (.bool false) ∧ Sat w w' PS from fun W hW =>
      (frame_May (w := W) f x z c k (hr.mono hW.below)).mono fun e w' ⟨he, hb⟩ => ⟨by rw [he, hmb], hW.under hb⟩)
    have HM2 := hid_ (show ∀ W : World, Sat w W PS → Calls Try.prog 14 #[frV f (.slice x f.addr.ip.length c) (.slice z f.data.length k)] W fun e w' => e = .returned (.bool false) ∧ Sat w w' PS from fun W hW =>
      (ref_MayFrame (w := W) f x z c k (hr.mono hW.below)).mono fun e w' ⟨he, hb⟩ => ⟨by rw [he, hmb], hW.under hb⟩)
    have HS1 := hid_ (show ∀ W : World, Sat w W PS → Calls Try.prog 15 #[frV f (.slice x f.addr.ip.length c) (.slice z f.data.length k), frV h (.slice y h.addr.ip.length d) (.slice t h.data.length l)] W fun e w' => e = .returned (.bool sb) ∧ Sat w w' PS from fun W hW =>
      (frame_Same (w := W) f h x y z t c d k l (hr.mono hW.below).ip (hq.mono hW.below).ip (hr.mono hW.below).data (hq.mono hW.below).data).mono fun e w' ⟨he, hb⟩ => ⟨by rw [he, hsb], hW.under hb⟩)
    have HS2 := hid_ (show ∀ W : World, Sat w W PS → Calls Try.prog 16 #[frV f (.slice x f.addr.ip.length c) (.slice z f.data.length k), frV h (.slice y h.addr.ip.length d) (.slice t h.data.length l)] W fun e w' => e = .returned (.bool sb) ∧ Sat w w' PS from fun W hW =>
      (ref_SameFrame (w := W) f h x y z t c d k l (hr.mono hW.below).ip (hq.mono hW.below).ip (hr.mono hW.below).data (hq.mono hW.below).data).mono fun e w' ⟨he, hb⟩ => ⟨by rw [he, hsb], hW.under hb⟩)
    unfold frV at HM1 HM2 HS1 HS2
    subst hS
    clear hmb hsb hPS
    have hX := h7.drew
    clear h7
    go_wp2_with fail
    go_region_held3 (fun w' => Nine9 w' g f (.slice x f.addr.ip.length c) (.slice z f.data.length k) ∧ Nine9 w' (g + 1) h (.slice y h.addr.ip.length d) (.slice t h.data.length l) ∧ (convert 22 9 (.slice none 0 0)).run Try.prog w' = .ok (.string (strOf [])) w' ∧ (convert 22 9 (.slice none 0 0)).run Try.prog w' = .ok (.string (strOf [])) w')
      (exact HSS.out _ hX)
      (first | (go_at_call 13; refine (HM1.out _ hX).mono ?_; clear hX; rintro _ W ⟨rfl, hX⟩)
             | (go_at_call 14; refine (HM2.out _ hX).mono ?_; clear hX; rintro _ W ⟨rfl, hX⟩)
             | (go_at_call 15; refine (HS1.out _ hX).mono ?_; clear hX; rintro _ W ⟨rfl, hX⟩)
             | (go_at_call 16; refine (HS2.out _ hX).mono ?_; clear hX; rintro _ W ⟨rfl, hX⟩)
             | (go_at_call 10; refine (frame_awake hX).mono ?_; clear hX; rintro _ W ⟨rfl, hX⟩))
    all_goals
      go_wp2_with fail
      go_ret
      exact ⟨rfl, hX.below⟩
  · have HE := hid_ (frame_Encode_yes f x z c k hmb h5 (fun W L' hW => hr.mono hW.below))
    unfold frV at HE
    go_wp2_with fail
    refine HE.out.mono ?_
    rintro _ w2 ⟨a2, k2, rfl, h6⟩
    have HR := hid_ (ref_EncodeFrame_yes f x z c k hmb h6 (fun W L' hW => hr.mono hW.below))
    unfold frV at HR
    clear m0 m1 m2 m3 m4 m5 m6 m7 m8 HE
    have h6' := h6.drop.drop
    obtain ⟨m0, m1, m2, m3, m4, m5, m6, m7, m8⟩ := h6'.cells9
    go_wp2_with fail
    refine HR.out.mono ?_
    rintro _ w3 ⟨a3, k3, rfl, h7⟩
    clear m0 m1 m2 m3 m4 m5 m6 m7 m8 HR h6 h6' h5 h5'
    obtain ⟨PS, hPS⟩ : ∃ PS : List Assn, PS = [OwnB 5 (.slice a3 f.enc.length k3) f.enc, OwnB 5 (.slice a2 f.enc.length k2) f.enc, Blk (g + 1) (frO h (.slice y h.addr.ip.length d) (.slice t h.data.length l)), Blk g (frO f (.slice x f.addr.ip.length c) (.slice z f.data.length k))] := ⟨_, rfl⟩
    replace h7 : Sat w w3 PS := by rw [hPS]; exact h7
    obtain ⟨sb, hsb⟩ : ∃ sb, sameFr f h = sb := ⟨_, rfl⟩
    obtain ⟨S, hS⟩ : ∃ S : World → Prop, S = fun w' => Nine9 w' g f (.slice x f.addr.ip.length c) (.slice z f.data.length k) ∧ Nine9 w' (g + 1) h (.slice y h.addr.ip.length d) (.slice t h.data.length l) ∧ (convert 22 9 (.slice a2 f.enc.length k2)).run Try.prog w' = .ok (.string (strOf f.enc)) w' ∧ (convert 22 9 (.slice a3 f.enc.length k3)).run Try.prog w' = .ok (.string (strOf f.enc)) w' := ⟨_, rfl⟩
    have HSS := hid_ (show ∀ W : World, Sat w W PS → S W from fun W hW => by
      rw [hPS] at hW
      rw [hS]
      exact ⟨((Sat.front [_, _, _] hW : Sat w W (Blk g (.cells #[.int .i64 f.kind, .int .i64 f.stream, .int .i64 f.code, .int .i64 f.n, .int .i64 f.addr.kind, .slice x f.addr.ip.length c, .string f.addr.name, .int .i64 f.addr.port, .slice z f.data.length k] 26 (0, 0)) :: _))).cells9, ((Sat.front [_, _] hW : Sat w W (Blk (g + 1) (.cells #[.int .i64 h.kind, .int .i64 h.stream, .int .i64 h.code, .int .i64 h.n, .int .i64 h.addr.kind, .slice y h.addr.ip.length d, .string h.addr.name, .int .i64 h.addr.port, .slice t h.data.length l] 26 (0, 0)) :: _))).cells9, conv_rd Try.underlying22 Try.underlying5 Try.underlying9 (OwnB.rd hW.drop), conv_rd Try.underlying22 Try.underlying5 Try.underlying9 (OwnB.rd hW)⟩)
    have HM1 := hid_ (show ∀ W : World, Sat w W PS → Calls Try.prog 13 #[frV f (.slice x f.addr.ip.length c) (.slice z f.data.length k)] W fun e w' => e = .returned (.bool true) ∧ Sat w w' PS from fun W hW =>
      (frame_May (w := W) f x z c k (hr.mono hW.below)).mono fun e w' ⟨he, hb⟩ => ⟨by rw [he, hmb], hW.under hb⟩)
    have HM2 := hid_ (show ∀ W : World, Sat w W PS → Calls Try.prog 14 #[frV f (.slice x f.addr.ip.length c) (.slice z f.data.length k)] W fun e w' => e = .returned (.bool true) ∧ Sat w w' PS from fun W hW =>
      (ref_MayFrame (w := W) f x z c k (hr.mono hW.below)).mono fun e w' ⟨he, hb⟩ => ⟨by rw [he, hmb], hW.under hb⟩)
    have HS1 := hid_ (show ∀ W : World, Sat w W PS → Calls Try.prog 15 #[frV f (.slice x f.addr.ip.length c) (.slice z f.data.length k), frV h (.slice y h.addr.ip.length d) (.slice t h.data.length l)] W fun e w' => e = .returned (.bool sb) ∧ Sat w w' PS from fun W hW =>
      (frame_Same (w := W) f h x y z t c d k l (hr.mono hW.below).ip (hq.mono hW.below).ip (hr.mono hW.below).data (hq.mono hW.below).data).mono fun e w' ⟨he, hb⟩ => ⟨by rw [he, hsb], hW.under hb⟩)
    have HS2 := hid_ (show ∀ W : World, Sat w W PS → Calls Try.prog 16 #[frV f (.slice x f.addr.ip.length c) (.slice z f.data.length k), frV h (.slice y h.addr.ip.length d) (.slice t h.data.length l)] W fun e w' => e = .returned (.bool sb) ∧ Sat w w' PS from fun W hW =>
      (ref_SameFrame (w := W) f h x y z t c d k l (hr.mono hW.below).ip (hq.mono hW.below).ip (hr.mono hW.below).data (hq.mono hW.below).data).mono fun e w' ⟨he, hb⟩ => ⟨by rw [he, hsb], hW.under hb⟩)
    unfold frV at HM1 HM2 HS1 HS2
    subst hS
    clear hmb hsb hPS
    have hX := h7.drew
    clear h7
    go_wp2_with fail
    go_region_held3 (fun w' => Nine9 w' g f (.slice x f.addr.ip.length c) (.slice z f.data.length k) ∧ Nine9 w' (g + 1) h (.slice y h.addr.ip.length d) (.slice t h.data.length l) ∧ (convert 22 9 (.slice a2 f.enc.length k2)).run Try.prog w' = .ok (.string (strOf f.enc)) w' ∧ (convert 22 9 (.slice a3 f.enc.length k3)).run Try.prog w' = .ok (.string (strOf f.enc)) w')
      (exact HSS.out _ hX)
      (first | (go_at_call 13; refine (HM1.out _ hX).mono ?_; clear hX; rintro _ W ⟨rfl, hX⟩)
             | (go_at_call 14; refine (HM2.out _ hX).mono ?_; clear hX; rintro _ W ⟨rfl, hX⟩)
             | (go_at_call 15; refine (HS1.out _ hX).mono ?_; clear hX; rintro _ W ⟨rfl, hX⟩)
             | (go_at_call 16; refine (HS2.out _ hX).mono ?_; clear hX; rintro _ W ⟨rfl, hX⟩)
             | (go_at_call 10; refine (frame_awake hX).mono ?_; clear hX; rintro _ W ⟨rfl, hX⟩))
    all_goals
      go_wp2_with fail
      go_ret
      exact ⟨rfl, hX.below⟩
end
end Go.Proofs.Ytlkkmnbglememaa
