/- The law FrameFields, walked. -/
import Derived.Test.YtlkkmnbglememaaFrS
import Derived.Test.YtlkkmnbglememaaRefMf
import Derived.Test.YtlkkmnbglememaaFrQ
namespace Go.Proofs.Ytlkkmnbglememaa
open Go Go.RowKit
set_option linter.unusedVariables false
set_option linter.unusedSimpArgs false

/-- What a kind has not, turned: it may not be. -/
def FrM.turn (f : FrM) (n : Int) : FrM := if f.kind = 2 ∨ f.kind = 5 then { f with n := n } else { f with code := n }
theorem turn_no {f : FrM} {n : Int} (h0 : n ≠ 0) : (f.turn n).may = false := by
  rw [Bool.eq_false_iff]
  intro h
  have h1 := may_plain h
  unfold FrM.turn at h1
  by_cases hk : f.kind = 2 ∨ f.kind = 5
  · rw [if_pos hk] at h1
    have h2 := congrArg FrM.n h1
    unfold FrM.plain at h2
    dsimp only at h2
    rw [if_neg (by omega), if_pos hk] at h2
    exact h0 h2
  · rw [if_neg hk] at h1
    have h2 := congrArg FrM.code h1
    unfold FrM.plain at h2
    dsimp only at h2
    by_cases k1 : f.kind = 1
    · rw [if_pos k1] at h2; exact h0 h2
    rw [if_neg k1, if_neg hk] at h2
    by_cases k3 : f.kind = 3
    · rw [if_pos k3] at h2; exact h0 h2
    rw [if_neg k3] at h2
    by_cases k6 : f.kind = 6 ∨ f.kind = 7 ∨ f.kind = 8
    · rw [if_pos k6] at h2; exact h0 h2
    · rw [if_neg k6] at h2; exact h0 h2
theorem turn_ne {f : FrM} {n : Int} (hf : f.may = true) (h0 : n ≠ 0) : sameFr f (f.turn n) = false := by
  rw [Bool.eq_false_iff]
  intro h
  have h1 := sameFr_eq h
  rw [h1, turn_no h0] at hf
  cases hf
theorem nine_no (f : FrM) : ({ f with kind := 9 } : FrM).may = false := by
  unfold FrM.may FrM.okB
  simp

section
variable {w0 w : World} {L : List Assn}
set_option maxRecDepth 100000 in
set_option maxHeartbeats 4000000 in
theorem frame_fields_law (v u : Value) (w : World) (hv : IsFrame w v) (hu : IsInt w u) :
    Calls Try.prog 6 #[v, u] w fun e w' => e = .returned (.bool true) ∧ Below w.heap.size w w' := by
  obtain ⟨f, x, z, c, k, rfl, hr⟩ := hv
  obtain ⟨n, rfl, -⟩ := hu
  have hs := Sat.refl w
  have h2 := hs.alloc2 (frO f (.slice x f.addr.ip.length c) (.slice z f.data.length k)) (frO f (.slice x f.addr.ip.length c) (.slice z f.data.length k))
  have hL := frame_Light (a := some ⟨w.heap.size + 1, 0, none⟩) (n := 1) (c := 1) (by unfold maxLen; omega) h2 (fun W L' h i hi => by
    obtain rfl : i = 0 := by omega
    exact ⟨w.heap.size + 1, 0, f, _, _, rfl, RdFr.ofBlk hr h⟩)
  have HL := hid_ hL
  clear hL
  unfold frO at h2 HL
  unfold frV
  go_enter Try.func6, Try.ntmps6
  go_wp2_with fail
  refine HL.out.mono ?_
  rintro _ w1 ⟨n1, rfl, hn0, -, h3⟩
  clear HL h2
  have hB := h3.drop
  generalize w.heap.size = g at *
  obtain ⟨m0, m1, m2, m3, m4, m5, m6, m7, m8⟩ := hB.cells9
  by_cases hn : 0 < n1
  · have q : decide (0 < n1) = true := by simpa using hn
    go_wp2_with fail
    refine (frame_awake h3).mono ?_
    rintro _ w2 ⟨rfl, h4⟩
    go_wp2_with fail
    go_ret
    exact ⟨rfl, h4.below⟩
  obtain rfl : n1 = 0 := by omega
  clear hn hn0
  obtain ⟨mb, hmb⟩ : ∃ mb, f.may = mb := ⟨_, rfl⟩
  have hM := frame_May (w := w1) f x z c k (hr.mono h3.below)
  rw [hmb] at hM
  unfold frV at hM
  have HM := hid_ hM
  have HMB := hid_ hmb
  clear hM hmb
  go_wp2_with fail
  refine HM.out.mono ?_
  rintro _ w2 ⟨rfl, hb2⟩
  have h4 := h3.under hb2
  clear HM m0 m1 m2 m3 m4 m5 m6 m7 m8
  cases mb
  · go_wp2_with fail
    refine (frame_awake h4).mono ?_
    rintro _ w3 ⟨rfl, h5⟩
    go_wp2_with fail
    go_ret
    exact ⟨rfl, h5.below⟩
  by_cases hn : n = 0
  · have q : (n == 0) = true := by simp [hn]
    clear hn
    go_wp2_with fail
    refine (frame_awake h4).mono ?_
    rintro _ w3 ⟨rfl, h5⟩
    go_wp2_with fail
    go_ret
    exact ⟨rfl, h5.below⟩
  have q : (n == 0) = false := by simp [hn]
  have HT1 := hid_ (turn_no (f := f) hn)
  have HT2 := hid_ (turn_ne HMB.out hn)
  clear hn
  have cc := h4.drop.cells9
  obtain ⟨m0, m1, m2, m3, m4, m5, m6, m7, m8⟩ := cc
  have cc := h4.drop.cells9
  have hlt : g < w2.heap.size := h4.drop.lt
  have hne : w2.heap.size ≠ g := by omega
  go_wp2_with fail
  go_cut [5, 6] (fun v5 v6 wx => ∃ bg bh, v5 = .pointer (some ⟨bg, 0, none⟩) ∧ v6 = .pointer (some ⟨bh, 0, none⟩) ∧ Sat w wx [Blk bg (frO f (.slice x f.addr.ip.length c) (.slice z f.data.length k)), Blk bh (frO f (.slice x f.addr.ip.length c) (.slice z f.data.length k)), Blk g (frO f (.slice x f.addr.ip.length c) (.slice z f.data.length k))])
  case first =>
    go_region_held3 (fun w' => w'.cell? ⟨g, 0, none⟩ = some (.int .i64 f.kind) ∧ w'.cell? ⟨g, 1, none⟩ = some (.int .i64 f.stream) ∧ w'.cell? ⟨g, 2, none⟩ = some (.int .i64 f.code) ∧ w'.cell? ⟨g, 3, none⟩ = some (.int .i64 f.n) ∧ w'.cell? ⟨g, 4, none⟩ = some (.int .i64 f.addr.kind) ∧ w'.cell? ⟨g, 5, none⟩ = some (.slice x f.addr.ip.length c) ∧ w'.cell? ⟨g, 6, none⟩ = some (.string f.addr.name) ∧ w'.cell? ⟨g, 7, none⟩ = some (.int .i64 f.addr.port) ∧ w'.cell? ⟨g, 8, none⟩ = some (.slice z f.data.length k))
      (first | exact cc | go_keep)
      (fail)
    · have s5 := (h4.drop.alloc2 (frO f (.slice x f.addr.ip.length c) (.slice z f.data.length k)) (frO f (.slice x f.addr.ip.length c) (.slice z f.data.length k))).swap.drew
      unfold frO at s5
      go_wp2_with fail
      go_meet
      exact ⟨_, _, rfl, rfl, s5⟩
    · have s5 := (h4.drop.alloc2 (frO f (.slice x f.addr.ip.length c) (.slice z f.data.length k)) (frO f (.slice x f.addr.ip.length c) (.slice z f.data.length k))).drew
      unfold frO at s5
      go_wp2_with fail
      go_meet
      exact ⟨_, _, rfl, rfl, s5⟩
  obtain ⟨bg, bh, rfl, rfl, h5⟩ := hcut
  clear cc m0 m1 m2 m3 m4 m5 m6 m7 m8 hlt hne h4 h3 hB hb2
  have hFg := Sat.front [_, _] h5
  have hFh := Sat.front [_] h5
  have k0 : wc.cell? ⟨g, 0, none⟩ = some (.int .i64 f.kind) := by unfold frO at hFg; exact hFg.cell 0 rfl
  have c3 : wc.cell? ⟨bg, 3, none⟩ = some (.int .i64 f.n) := by unfold frO at h5; exact h5.cell 3 rfl
  have c2 : wc.cell? ⟨bg, 2, none⟩ = some (.int .i64 f.code) := by unfold frO at h5; exact h5.cell 2 rfl
  have y3 : wc.frozen? ⟨bg, 3, none⟩ = false := by unfold frO at h5; exact h5.frozen 3
  have y2 : wc.frozen? ⟨bg, 2, none⟩ = false := by unfold frO at h5; exact h5.frozen 2
  have z0 : wc.cell? ⟨bh, 0, none⟩ = some (.int .i64 f.kind) := by unfold frO at hFh; exact hFh.cell 0 rfl
  have y0 : wc.frozen? ⟨bh, 0, none⟩ = false := by unfold frO at hFh; exact hFh.frozen 0
  have hne : bg ≠ bh := h5.ne
  have hne' : bh ≠ bg := fun h => hne h.symm
  have hset : ∀ off v, (off = 3 ∧ v = n ∧ (f.kind = 2 ∨ f.kind = 5) ∨ off = 2 ∧ v = n ∧ ¬ (f.kind = 2 ∨ f.kind = 5)) → Sat w ((wc.setCell ⟨bg, off, none⟩ (.int .i64 v)).setCell ⟨bh, 0, none⟩ (.int .i64 9)) [Blk bg (frO (f.turn n) (.slice x f.addr.ip.length c) (.slice z f.data.length k)), Blk bh (frO { f with kind := 9 } (.slice x f.addr.ip.length c) (.slice z f.data.length k)), Blk g (frO f (.slice x f.addr.ip.length c) (.slice z f.data.length k))] := by
    intro off v h
    rcases h with ⟨rfl, rfl, h⟩ | ⟨rfl, rfl, h⟩
    · have HT : f.turn v = { f with n := v } := by unfold FrM.turn; rw [if_pos h]
      rw [HT]
      unfold frO at h5 ⊢
      exact Sat.swap ((Sat.swap (h5.set 3 (.int .i64 v))).set 0 (.int .i64 9))
    · have HT : f.turn v = { f with code := v } := by unfold FrM.turn; rw [if_neg h]
      rw [HT]
      unfold frO at h5 ⊢
      exact Sat.swap ((Sat.swap (h5.set 2 (.int .i64 v))).set 0 (.int .i64 9))
  have HSET := hid_ hset
  have hkk : f.kind = 2 ∨ (¬ f.kind = 2 ∧ f.kind = 5) ∨ (¬ f.kind = 2 ∧ ¬ f.kind = 5) := by omega
  have HKK := hid_ hkk
  clear hset hkk
  rcases HKK.out with h2 | ⟨h2, h5'⟩ | ⟨h2, h5'⟩
  · have q2 : (f.kind == 2) = true := by simp [h2]
    have hcut := HSET.out 3 n (.inl ⟨rfl, rfl, .inl h2⟩)
    clear h2
    go_upto_region 8 with fail
    generalize (wc.setCell ⟨bg, 3, none⟩ (.int .i64 n)).setCell ⟨bh, 0, none⟩ (.int .i64 9) = W at *
    clear z0 y0 HSET HKK c3 c2 y3 y2 k0 hFg hFh h5
    have hGa : (f.turn n).addr = f.addr := by unfold FrM.turn; split <;> rfl
    have hGd : (f.turn n).data = f.data := by unfold FrM.turn; split <;> rfl
    obtain ⟨G, hG⟩ : ∃ G, f.turn n = G := ⟨_, rfl⟩
    rw [hG] at hGa hGd hcut HT1 HT2
    obtain ⟨gk, gs, gc, gn, ga, gd⟩ := G
    dsimp only at hGa hGd
    subst hGa hGd
    have HG9 := hid_ (nine_no f)
    have hrG : ∀ W : World, Below w.heap.size w W → RdV W ⟨gk, gs, gc, gn, f.addr, f.data⟩ x z c k := fun W h => ⟨(hr.mono h).ip, (hr.mono h).data, hr.name⟩
    have hr9 : ∀ W : World, Below w.heap.size w W → RdV W { f with kind := 9 } x z c k := fun W h => ⟨(hr.mono h).ip, (hr.mono h).data, hr.name⟩
    have HE := hid_ (frame_Encode_no ⟨gk, gs, gc, gn, f.addr, f.data⟩ x z c k HT1.out (hrG _ hcut.below) hcut)
    unfold frV at HE
    clear hG
    have d0 := (by unfold frO at hcut; exact hcut.cells9 : _)
    obtain ⟨m0, m1, m2, m3, m4, m5, m6, m7, m8⟩ := d0
    go_wp2_with fail
    refine HE.out.mono ?_
    rintro _ w5 ⟨rfl, s5⟩
    clear m0 m1 m2 m3 m4 m5 m6 m7 m8 HE
    have d0 := (by unfold frO at s5; exact s5.cells9 : _)
    obtain ⟨m0, m1, m2, m3, m4, m5, m6, m7, m8⟩ := d0
    have hM5 := frame_May (w := w5) ⟨gk, gs, gc, gn, f.addr, f.data⟩ x z c k (hrG _ s5.below)
    rw [HT1.out] at hM5
    unfold frV at hM5
    have HM5 := hid_ hM5
    clear hM5
    go_wp2_with fail
    refine HM5.out.mono ?_
    rintro _ w6 ⟨rfl, b6⟩
    have s6 := s5.under b6
    clear m0 m1 m2 m3 m4 m5 m6 m7 m8 HM5 b6
    have d0 := (by have h := s6.drop; unfold frO at h; exact h.cells9 : _)
    obtain ⟨m0, m1, m2, m3, m4, m5, m6, m7, m8⟩ := d0
    have hM6 := frame_May (w := w6) { f with kind := 9 } x z c k (hr9 _ s6.below)
    rw [HG9.out] at hM6
    unfold frV at hM6
    have HM6 := hid_ hM6
    clear hM6
    go_wp2_with fail
    refine HM6.out.mono ?_
    rintro _ w7 ⟨rfl, b7⟩
    have s7 := s6.under b7
    clear m0 m1 m2 m3 m4 m5 m6 m7 m8 HM6 b7
    have d0 := (by have h := s7.drop.drop; unfold frO at h; exact h.cells9 : _)
    obtain ⟨m0, m1, m2, m3, m4, m5, m6, m7, m8⟩ := d0
    have hS7 := frame_Same (w := w7) f f x x z z c c k k (hr.mono s7.below).ip (hr.mono s7.below).ip (hr.mono s7.below).data (hr.mono s7.below).data
    rw [sameFr_self] at hS7
    unfold frV at hS7
    have HS7 := hid_ hS7
    clear hS7
    go_wp2_with fail
    refine HS7.out.mono ?_
    rintro _ w8 ⟨rfl, b8⟩
    have s8 := s7.under b8
    clear m0 m1 m2 m3 m4 m5 m6 m7 m8 HS7 b8
    have d0 := (by have h := s8.drop.drop; unfold frO at h; exact h.cells9 : _)
    obtain ⟨m0, m1, m2, m3, m4, m5, m6, m7, m8⟩ := d0
    have d1 := (by have h := s8; unfold frO at h; exact h.cells9 : _)
    obtain ⟨n0, n1, n2, n3, n4, n5, n6, n7, n8⟩ := d1
    have hS8 := frame_Same (w := w8) f ⟨gk, gs, gc, gn, f.addr, f.data⟩ x x z z c c k k (hr.mono s8.below).ip (hrG _ s8.below).ip (hr.mono s8.below).data (hrG _ s8.below).data
    rw [HT2.out] at hS8
    unfold frV at hS8
    have HS8 := hid_ hS8
    clear hS8
    go_wp2_with fail
    refine HS8.out.mono ?_
    rintro _ w9 ⟨rfl, b9⟩
    have s9 := s8.under b9
    clear m0 m1 m2 m3 m4 m5 m6 m7 m8 n0 n1 n2 n3 n4 n5 n6 n7 n8 HS8 b9
    have d0 := (by have h := s9.drop.drop; unfold frO at h; exact h.cells9 : _)
    obtain ⟨m0, m1, m2, m3, m4, m5, m6, m7, m8⟩ := d0
    have hR := ref_MayFrame (w := w9) f x z c k (hr.mono s9.below)
    rw [HMB.out] at hR
    unfold frV at hR
    have HR := hid_ hR
    clear hR
    go_wp2_with fail
    refine HR.out.mono ?_
    rintro _ w10 ⟨rfl, b10⟩
    have s10 := s9.under b10
    go_wp2_with fail
    refine (frame_awake s10).mono ?_
    rintro _ w11 ⟨rfl, s11⟩
    go_wp2_with fail
    go_ret
    exact ⟨rfl, s11.below⟩
  · have q2 : (f.kind == 2) = false := by simp [h2]
    have q5 : (f.kind == 5) = true := by simp [h5']
    have hcut := HSET.out 3 n (.inl ⟨rfl, rfl, .inr h5'⟩)
    clear h2 h5'
    go_upto_region 8 with fail
    generalize (wc.setCell ⟨bg, 3, none⟩ (.int .i64 n)).setCell ⟨bh, 0, none⟩ (.int .i64 9) = W at *
    clear z0 y0 HSET HKK c3 c2 y3 y2 k0 hFg hFh h5
    have hGa : (f.turn n).addr = f.addr := by unfold FrM.turn; split <;> rfl
    have hGd : (f.turn n).data = f.data := by unfold FrM.turn; split <;> rfl
    obtain ⟨G, hG⟩ : ∃ G, f.turn n = G := ⟨_, rfl⟩
    rw [hG] at hGa hGd hcut HT1 HT2
    obtain ⟨gk, gs, gc, gn, ga, gd⟩ := G
    dsimp only at hGa hGd
    subst hGa hGd
    have HG9 := hid_ (nine_no f)
    have hrG : ∀ W : World, Below w.heap.size w W → RdV W ⟨gk, gs, gc, gn, f.addr, f.data⟩ x z c k := fun W h => ⟨(hr.mono h).ip, (hr.mono h).data, hr.name⟩
    have hr9 : ∀ W : World, Below w.heap.size w W → RdV W { f with kind := 9 } x z c k := fun W h => ⟨(hr.mono h).ip, (hr.mono h).data, hr.name⟩
    have HE := hid_ (frame_Encode_no ⟨gk, gs, gc, gn, f.addr, f.data⟩ x z c k HT1.out (hrG _ hcut.below) hcut)
    unfold frV at HE
    clear hG
    have d0 := (by unfold frO at hcut; exact hcut.cells9 : _)
    obtain ⟨m0, m1, m2, m3, m4, m5, m6, m7, m8⟩ := d0
    go_wp2_with fail
    refine HE.out.mono ?_
    rintro _ w5 ⟨rfl, s5⟩
    clear m0 m1 m2 m3 m4 m5 m6 m7 m8 HE
    have d0 := (by unfold frO at s5; exact s5.cells9 : _)
    obtain ⟨m0, m1, m2, m3, m4, m5, m6, m7, m8⟩ := d0
    have hM5 := frame_May (w := w5) ⟨gk, gs, gc, gn, f.addr, f.data⟩ x z c k (hrG _ s5.below)
    rw [HT1.out] at hM5
    unfold frV at hM5
    have HM5 := hid_ hM5
    clear hM5
    go_wp2_with fail
    refine HM5.out.mono ?_
    rintro _ w6 ⟨rfl, b6⟩
    have s6 := s5.under b6
    clear m0 m1 m2 m3 m4 m5 m6 m7 m8 HM5 b6
    have d0 := (by have h := s6.drop; unfold frO at h; exact h.cells9 : _)
    obtain ⟨m0, m1, m2, m3, m4, m5, m6, m7, m8⟩ := d0
    have hM6 := frame_May (w := w6) { f with kind := 9 } x z c k (hr9 _ s6.below)
    rw [HG9.out] at hM6
    unfold frV at hM6
    have HM6 := hid_ hM6
    clear hM6
    go_wp2_with fail
    refine HM6.out.mono ?_
    rintro _ w7 ⟨rfl, b7⟩
    have s7 := s6.under b7
    clear m0 m1 m2 m3 m4 m5 m6 m7 m8 HM6 b7
    have d0 := (by have h := s7.drop.drop; unfold frO at h; exact h.cells9 : _)
    obtain ⟨m0, m1, m2, m3, m4, m5, m6, m7, m8⟩ := d0
    have hS7 := frame_Same (w := w7) f f x x z z c c k k (hr.mono s7.below).ip (hr.mono s7.below).ip (hr.mono s7.below).data (hr.mono s7.below).data
    rw [sameFr_self] at hS7
    unfold frV at hS7
    have HS7 := hid_ hS7
    clear hS7
    go_wp2_with fail
    refine HS7.out.mono ?_
    rintro _ w8 ⟨rfl, b8⟩
    have s8 := s7.under b8
    clear m0 m1 m2 m3 m4 m5 m6 m7 m8 HS7 b8
    have d0 := (by have h := s8.drop.drop; unfold frO at h; exact h.cells9 : _)
    obtain ⟨m0, m1, m2, m3, m4, m5, m6, m7, m8⟩ := d0
    have d1 := (by have h := s8; unfold frO at h; exact h.cells9 : _)
    obtain ⟨n0, n1, n2, n3, n4, n5, n6, n7, n8⟩ := d1
    have hS8 := frame_Same (w := w8) f ⟨gk, gs, gc, gn, f.addr, f.data⟩ x x z z c c k k (hr.mono s8.below).ip (hrG _ s8.below).ip (hr.mono s8.below).data (hrG _ s8.below).data
    rw [HT2.out] at hS8
    unfold frV at hS8
    have HS8 := hid_ hS8
    clear hS8
    go_wp2_with fail
    refine HS8.out.mono ?_
    rintro _ w9 ⟨rfl, b9⟩
    have s9 := s8.under b9
    clear m0 m1 m2 m3 m4 m5 m6 m7 m8 n0 n1 n2 n3 n4 n5 n6 n7 n8 HS8 b9
    have d0 := (by have h := s9.drop.drop; unfold frO at h; exact h.cells9 : _)
    obtain ⟨m0, m1, m2, m3, m4, m5, m6, m7, m8⟩ := d0
    have hR := ref_MayFrame (w := w9) f x z c k (hr.mono s9.below)
    rw [HMB.out] at hR
    unfold frV at hR
    have HR := hid_ hR
    clear hR
    go_wp2_with fail
    refine HR.out.mono ?_
    rintro _ w10 ⟨rfl, b10⟩
    have s10 := s9.under b10
    go_wp2_with fail
    refine (frame_awake s10).mono ?_
    rintro _ w11 ⟨rfl, s11⟩
    go_wp2_with fail
    go_ret
    exact ⟨rfl, s11.below⟩
  · have q2 : (f.kind == 2) = false := by simp [h2]
    have q5 : (f.kind == 5) = false := by simp [h5']
    have hcut := HSET.out 2 n (.inr ⟨rfl, rfl, by omega⟩)
    clear h2 h5'
    go_upto_region 8 with fail
    generalize (wc.setCell ⟨bg, 2, none⟩ (.int .i64 n)).setCell ⟨bh, 0, none⟩ (.int .i64 9) = W at *
    clear z0 y0 HSET HKK c3 c2 y3 y2 k0 hFg hFh h5
    have hGa : (f.turn n).addr = f.addr := by unfold FrM.turn; split <;> rfl
    have hGd : (f.turn n).data = f.data := by unfold FrM.turn; split <;> rfl
    obtain ⟨G, hG⟩ : ∃ G, f.turn n = G := ⟨_, rfl⟩
    rw [hG] at hGa hGd hcut HT1 HT2
    obtain ⟨gk, gs, gc, gn, ga, gd⟩ := G
    dsimp only at hGa hGd
    subst hGa hGd
    have HG9 := hid_ (nine_no f)
    have hrG : ∀ W : World, Below w.heap.size w W → RdV W ⟨gk, gs, gc, gn, f.addr, f.data⟩ x z c k := fun W h => ⟨(hr.mono h).ip, (hr.mono h).data, hr.name⟩
    have hr9 : ∀ W : World, Below w.heap.size w W → RdV W { f with kind := 9 } x z c k := fun W h => ⟨(hr.mono h).ip, (hr.mono h).data, hr.name⟩
    have HE := hid_ (frame_Encode_no ⟨gk, gs, gc, gn, f.addr, f.data⟩ x z c k HT1.out (hrG _ hcut.below) hcut)
    unfold frV at HE
    clear hG
    have d0 := (by unfold frO at hcut; exact hcut.cells9 : _)
    obtain ⟨m0, m1, m2, m3, m4, m5, m6, m7, m8⟩ := d0
    go_wp2_with fail
    refine HE.out.mono ?_
    rintro _ w5 ⟨rfl, s5⟩
    clear m0 m1 m2 m3 m4 m5 m6 m7 m8 HE
    have d0 := (by unfold frO at s5; exact s5.cells9 : _)
    obtain ⟨m0, m1, m2, m3, m4, m5, m6, m7, m8⟩ := d0
    have hM5 := frame_May (w := w5) ⟨gk, gs, gc, gn, f.addr, f.data⟩ x z c k (hrG _ s5.below)
    rw [HT1.out] at hM5
    unfold frV at hM5
    have HM5 := hid_ hM5
    clear hM5
    go_wp2_with fail
    refine HM5.out.mono ?_
    rintro _ w6 ⟨rfl, b6⟩
    have s6 := s5.under b6
    clear m0 m1 m2 m3 m4 m5 m6 m7 m8 HM5 b6
    have d0 := (by have h := s6.drop; unfold frO at h; exact h.cells9 : _)
    obtain ⟨m0, m1, m2, m3, m4, m5, m6, m7, m8⟩ := d0
    have hM6 := frame_May (w := w6) { f with kind := 9 } x z c k (hr9 _ s6.below)
    rw [HG9.out] at hM6
    unfold frV at hM6
    have HM6 := hid_ hM6
    clear hM6
    go_wp2_with fail
    refine HM6.out.mono ?_
    rintro _ w7 ⟨rfl, b7⟩
    have s7 := s6.under b7
    clear m0 m1 m2 m3 m4 m5 m6 m7 m8 HM6 b7
    have d0 := (by have h := s7.drop.drop; unfold frO at h; exact h.cells9 : _)
    obtain ⟨m0, m1, m2, m3, m4, m5, m6, m7, m8⟩ := d0
    have hS7 := frame_Same (w := w7) f f x x z z c c k k (hr.mono s7.below).ip (hr.mono s7.below).ip (hr.mono s7.below).data (hr.mono s7.below).data
    rw [sameFr_self] at hS7
    unfold frV at hS7
    have HS7 := hid_ hS7
    clear hS7
    go_wp2_with fail
    refine HS7.out.mono ?_
    rintro _ w8 ⟨rfl, b8⟩
    have s8 := s7.under b8
    clear m0 m1 m2 m3 m4 m5 m6 m7 m8 HS7 b8
    have d0 := (by have h := s8.drop.drop; unfold frO at h; exact h.cells9 : _)
    obtain ⟨m0, m1, m2, m3, m4, m5, m6, m7, m8⟩ := d0
    have d1 := (by have h := s8; unfold frO at h; exact h.cells9 : _)
    obtain ⟨n0, n1, n2, n3, n4, n5, n6, n7, n8⟩ := d1
    have hS8 := frame_Same (w := w8) f ⟨gk, gs, gc, gn, f.addr, f.data⟩ x x z z c c k k (hr.mono s8.below).ip (hrG _ s8.below).ip (hr.mono s8.below).data (hrG _ s8.below).data
    rw [HT2.out] at hS8
    unfold frV at hS8
    have HS8 := hid_ hS8
    clear hS8
    go_wp2_with fail
    refine HS8.out.mono ?_
    rintro _ w9 ⟨rfl, b9⟩
    have s9 := s8.under b9
    clear m0 m1 m2 m3 m4 m5 m6 m7 m8 n0 n1 n2 n3 n4 n5 n6 n7 n8 HS8 b9
    have d0 := (by have h := s9.drop.drop; unfold frO at h; exact h.cells9 : _)
    obtain ⟨m0, m1, m2, m3, m4, m5, m6, m7, m8⟩ := d0
    have hR := ref_MayFrame (w := w9) f x z c k (hr.mono s9.below)
    rw [HMB.out] at hR
    unfold frV at hR
    have HR := hid_ hR
    clear hR
    go_wp2_with fail
    refine HR.out.mono ?_
    rintro _ w10 ⟨rfl, b10⟩
    have s10 := s9.under b10
    go_wp2_with fail
    refine (frame_awake s10).mono ?_
    rintro _ w11 ⟨rfl, s11⟩
    go_wp2_with fail
    go_ret
    exact ⟨rfl, s11.below⟩
end
end Go.Proofs.Ytlkkmnbglememaa
