/- addr.Decode, walked. -/
import Derived.Test.YtkejadhkebjdcaaAdG
namespace Go.Proofs.Ytkejadhkebjdcaa
open Go Go.RowKit
set_option linter.unusedVariables false
set_option linter.unusedSimpArgs false

/-- What Decode answers: the address has bytes of its own. -/
def DecOk (w0 : World) (L : List Assn) (d : Int × AdM × Nat) (e : Ending) (w' : World) : Prop :=
  ∃ x c, e = .returned (.tuple #[.agg #[.int .i64 d.2.1.kind, .slice x d.2.1.ip.length c, .string d.2.1.name, .int .i64 d.2.1.port], .int .i64 d.2.2, .int .i64 d.1]) ∧ Sat w0 w' (OwnB 5 (.slice x d.2.1.ip.length c) d.2.1.ip :: L)
theorem DecOk.no {w0 w : World} {L : List Assn} {n : Int} (h : Sat w0 w L) : DecOk w0 L (n, AdM.zero, 0) (.returned (.tuple #[.agg #[.int .i64 0, .slice none 0 0, .string ByteArray.empty, .int .i64 0], .int .i64 0, .int .i64 n])) w :=
  ⟨none, 0, rfl, OwnB.nilI h⟩

theorem wraps_i64 (n : Int) (h₀ : 0 ≤ n) (h₁ : n < 2 ^ 62) : IntKind.i64.wrap n = n := by rw [IntKind.wrap_i64]; omega
theorem i64_or8 (x y : Nat) (hx : x < 65536 * 65536) (hy : y < 256) : bits .or .i64 ((x : Int) * 256) (y : Int) = (x : Int) * 256 + y :=
  bits_join .i64 62 (by decide) wraps_i64 8 _ _ (by omega) (by omega) (by omega) (by omega) (by omega) (by omega)
theorem i64_in {n : Int} (h0 : 0 ≤ n) (h1 : n < 4611686018427387904) : IntKind.i64.wrap n = n := wraps_i64 n h0 (by omega)
section
variable {w0 w : World} {L : List Assn}
/-- Four cells written over four. -/
theorem Sat.set4 {b : Nat} {x0 x1 x2 x3 y0 y1 y2 y3 : Value} {t : TypeId} (h : Sat w0 w (Blk b (.cells #[x0, x1, x2, x3] t (0, 0)) :: L)) :
    Sat w0 ((((w.setCell ⟨b, 0, none⟩ y0).setCell ⟨b, 1, none⟩ y1).setCell ⟨b, 2, none⟩ y2).setCell ⟨b, 3, none⟩ y3) (Blk b (.cells #[y0, y1, y2, y3] t (0, 0)) :: L) :=
  (((h.set 0 y0).set 1 y1).set 2 y2).set 3 y3
set_option maxRecDepth 100000 in
set_option maxHeartbeats 1000000 in
theorem addr_Decode {v : Value} {b : List UInt8} (hs : Sat w0 w L) (hr0 : ∀ (W : World) (L' : List Assn), Sat w0 W (L' ++ L) → RdB W v b) :
    Calls Try.prog 82 #[v] w (DecOk w0 L (decA b)) := by
  have hr := hr0 w [] hs
  obtain ⟨a0, c0, rfl, hc0, hcm, hnil⟩ := hr.form
  have hmx := hr.len
  have hD := hid_ (show decA b = _ from rfl)
  unfold maxLen at hmx
  by_cases h0 : b.length = 0
  · have q0 : ((b.length : Int) == 0) = true := by simp [h0]
    have E := hid_ (show decA b = (2, AdM.zero, 0) by unfold decA; rw [if_pos h0])
    clear h0 hD
    go_enter Try.func82, Try.ntmps82
    go_wp2
    refine bodyPost_ret (v := .tuple #[.agg #[.int .i64 0, .slice none 0 0, .string ByteArray.empty, .int .i64 0], .int .i64 0, .int .i64 2]) (by simp [results, Try.results82, go_sem]; rfl) rfl ?_
    rw [E.out]
    exact DecOk.no (hs.alloc_ _)
  have q0 : ((b.length : Int) == 0) = false := by rw [beq_eq_false_iff_ne]; omega
  obtain ⟨⟨er, n, ah⟩, hl⟩ : ∃ x, lensB b = x := ⟨_, rfl⟩
  have HL := hid_ hl
  have hpos : 0 < b.length := by omega
  have hD2 : decA b = if er ≠ 0 then (er, AdM.zero, 0)
      else if b.length < 1 + ah + n then (2, AdM.zero, 0)
      else if (cutAd b n ah).may = false then (3, AdM.zero, 0)
      else if b.length < 1 + ah + n + 2 then (2, AdM.zero, 0)
      else (0, { cutAd b n ah with port := (b.getD (1 + ah + n) 0).toNat * 256 + (b.getD (1 + ah + n + 1) 0).toNat }, 1 + ah + n + 2) := by
    unfold decA
    rw [if_neg h0, hl]
  clear hD h0
  by_cases he : er = 0
  case neg =>
    obtain ⟨_, rfl, rfl⟩ := lens_no hl he
    have E := hid_ (hD2.trans (if_pos he))
    have qe : (er != 0) = true := by simp [he]
    clear hD2 hl he
    go_enter Try.func82, Try.ntmps82
    go_wp2_with fail
    refine (addr_lengths (hr0 _ [_] (hs.alloc _)) hpos).mono ?_
    rintro _ _ ⟨rfl, rfl⟩
    rw [HL.out]
    go_wp2
    refine bodyPost_ret (v := .tuple #[.agg #[.int .i64 0, .slice none 0 0, .string ByteArray.empty, .int .i64 0], .int .i64 0, .int .i64 er]) (by simp [results, Try.results82, go_sem]; rfl) rfl ?_
    rw [E.out]
    exact DecOk.no (hs.alloc_ _)
  subst he
  rw [if_neg (by simp)] at hD2
  by_cases h1 : b.length < 1 + ah + n
  · have E := hid_ (hD2.trans (if_pos h1))
    have hb : 0 ≤ (n : Int) ∧ (n : Int) ≤ 64 ∧ (ah : Int) ≤ 1 := by have := lens_ok hl; omega
    have q1 : decide ((b.length : Int) < 1 + (ah : Int) + (n : Int)) = true := by simp; omega
    clear hD2 hl h1
    go_enter Try.func82, Try.ntmps82
    go_wp2_with fail
    refine (addr_lengths (hr0 _ [_] (hs.alloc _)) hpos).mono ?_
    rintro _ _ ⟨rfl, rfl⟩
    rw [HL.out]
    go_wp2
    refine bodyPost_ret (v := .tuple #[.agg #[.int .i64 0, .slice none 0 0, .string ByteArray.empty, .int .i64 0], .int .i64 0, .int .i64 2]) (by simp [results, Try.results82, go_sem]; rfl) rfl ?_
    rw [E.out]
    exact DecOk.no (hs.alloc_ _)
  rw [if_neg h1] at hD2
  obtain ⟨b0, o0, c0', he, hlt0, _, _, hcell⟩ := hr.at hpos
  injection he with he1 _ he2
  subst he1 he2
  rcases lens_ok hl with hk | hk
  · obtain ⟨k, hk0⟩ : ∃ k, (b.getD 0 0).toNat = k := ⟨_, rfl⟩
    rw [hk0] at hk
    have hah : ah = 0 := by omega
    subst hah
    have g0 : ∀ W L', Sat w0 W (L' ++ L) → W.cell? ⟨b0, o0, none⟩ = some (.int .u8 (k : Int)) := fun W L' h => by
      obtain ⟨b1, o1, c1, e1, _, _, _, h1⟩ := (hr0 W L' h).at hpos
      injection e1 with e1 _ _
      injection e1 with e1
      injection e1 with e1 e2 _
      subst e1 e2
      rw [← hk0]
      exact h1 0 hpos
    have hk3 : ((k : Int) == 3) = false := by rw [beq_eq_false_iff_ne]; omega
    have hkb : (k : Int) ≤ 4 ∧ (n : Int) ≤ 16 ∧ 4 ≤ (n : Int) ∧ 1 + (n : Int) ≤ (b.length : Int) ∧ (b.length : Int) ≤ (c0 : Int) := by omega
    have hz0 : (0 : Int) < (b.length : Int) := by omega
    have t1 : (1 + (n : Int)).toNat = 1 + n := by omega
    have q1 : decide ((b.length : Int) < 1 + (n : Int)) = false := by simp; omega
    obtain ⟨x, hx⟩ : ∃ x, (b.drop 1).take n = x := ⟨_, rfl⟩
    have hxl : x.length = n := by rw [← hx, List.length_take, List.length_drop]; omega
    have hcA : cutAd b n 0 = ⟨k, x, ByteArray.empty, 0⟩ := by
      unfold cutAd
      rw [if_neg (by omega), hk0, ← hx]
    have hmay : (⟨k, x, ByteArray.empty, 0⟩ : AdM).may = true := by
      rw [may_iff]
      refine ⟨Int.le_refl _, by simp, ?_⟩
      simp only [hxl]
      rcases hk with ⟨rfl, rfl, _⟩ | ⟨rfl, rfl, _⟩
      · left; exact ⟨rfl, rfl, rfl⟩
      · right; left; exact ⟨rfl, rfl, rfl⟩
    rw [hcA, if_neg (by rw [hmay]; simp)] at hD2
    have hrx : ∀ (W : World) (L' : List Assn), Sat w0 W (L' ++ L) → RdB W (.slice (some ⟨b0, o0 + 1, none⟩) n (c0 - 1)) x := fun W L' h => by
      have h2 := RdB.cut (hr0 W L' h) (lo := 1) (hi := 1 + n) (by omega) (by omega)
      rw [show 1 + n - 1 = n by omega, hx] at h2
      exact h2
    have HD := hid_ hD2
    have HM := hid_ hmay
    have HX := hid_ hxl
    have G0 := hid_ g0
    clear hl hD2 hmay hcA hx g0 hcell hk hxl
    have hA := hs.alloc (.cells #[.int .i64 0, .slice none 0 0, .string ⟨#[]⟩, .int .i64 0] 41 (0, 0))
    have gA := G0.out _ [_] hA
    have hB := hs.alloc2 (.cells #[.int .i64 0, .slice none 0 0, .string ⟨#[]⟩, .int .i64 0] 41 (0, 0)) (.cells #[.int .i64 k, .slice none 0 0, .string ⟨#[]⟩, .int .i64 0] 41 (0, 0))
    have hcl := clone_any _ x (hrx _ [_, _] hB) (by rw [HX.out]; omega)
    rw [HX.out] at hcl
    have Hcl := hid_ hcl
    have hM := fun (W : World) (a3 : Option Addr) (c3 : Nat) => addr_May (w := W) ⟨k, x, ByteArray.empty, 0⟩ a3 c3 (Nat.zero_le _) (by rw [show (⟨k, x, ByteArray.empty, 0⟩ : AdM).ip = x from rfl, HX.out]; unfold maxLen; omega)
    rw [HM.out, HX.out] at hM
    have HMM := hid_ hM
    clear hcl hM
    by_cases h2 : b.length < 1 + 0 + n + 2
    · have E := hid_ (HD.out.trans (if_pos h2))
      have q2 : decide ((b.length : Int) < 1 + (n : Int) + 2) = true := by simp; omega
      clear h2 HD
      go_enter Try.func82, Try.ntmps82
      go_wp2_with fail
      refine (addr_lengths (hr0 _ [_] (hs.alloc _)) hpos).mono ?_
      rintro _ _ ⟨rfl, rfl⟩
      rw [HL.out]
      go_wp2_with fail
      refine Hcl.out.mono ?_
      rintro _ w3 ⟨a3, c3, rfl, h3⟩
      replace h3 := hB.trans h3
      clear hA gA hB Hcl
      generalize w.heap.size = g at *
      have h3' := Sat.front [_] h3
      have d0 : w3.cell? ⟨g + 1, 0, none⟩ = some (.int .i64 k) := h3'.cell 0 rfl
      have d1 : w3.cell? ⟨g + 1, 1, none⟩ = some (.slice none 0 0) := h3'.cell 1 rfl
      have d2 : w3.cell? ⟨g + 1, 2, none⟩ = some (.string ⟨#[]⟩) := h3'.cell 2 rfl
      have d3 : w3.cell? ⟨g + 1, 3, none⟩ = some (.int .i64 0) := h3'.cell 3 rfl
      have f1 : w3.frozen? ⟨g + 1, 1, none⟩ = false := h3'.frozen 1
      have h4 : Sat w0 _ (Blk (g + 1) (.cells #[.int .i64 k, .slice a3 n c3, .string ⟨#[]⟩, .int .i64 0] 41 (0, 0)) :: _) := h3'.set 1 (.slice a3 n c3)
      clear h3 h3'
      go_wp2_with fail
      refine (HMM.out _ _ _).mono ?_
      rintro _ w5 ⟨rfl, hb5⟩
      have h5 := h4.under hb5
      clear h4 hb5 d0 d1 d2 d3 f1
      have h5' := Sat.front [_, _] h5
      have r0 : w5.cell? ⟨g, 0, none⟩ = some (.int .i64 0) := h5'.cell 0 rfl
      have r1 : w5.cell? ⟨g, 1, none⟩ = some (.slice none 0 0) := h5'.cell 1 rfl
      have r2 : w5.cell? ⟨g, 2, none⟩ = some (.string ⟨#[]⟩) := h5'.cell 2 rfl
      have r3 : w5.cell? ⟨g, 3, none⟩ = some (.int .i64 0) := h5'.cell 3 rfl
      have f0 : w5.frozen? ⟨g, 0, none⟩ = false := h5'.frozen 0
      have f1 : w5.frozen? ⟨g, 1, none⟩ = false := h5'.frozen 1
      have f2 : w5.frozen? ⟨g, 2, none⟩ = false := h5'.frozen 2
      have f3 : w5.frozen? ⟨g, 3, none⟩ = false := h5'.frozen 3
      go_wp2
      refine bodyPost_ret (v := .tuple #[.agg #[.int .i64 0, .slice none 0 0, .string ByteArray.empty, .int .i64 0], .int .i64 0, .int .i64 2]) (by simp [results, Try.results82, go_sem, r0, r1, r2, r3, f0, f1, f2, f3] <;> rfl) rfl ?_
      rw [E.out]
      exact DecOk.no h5'.set4.drop.drop.drop
    · have E := hid_ (HD.out.trans (if_neg h2))
      have q2 : decide ((b.length : Int) < 1 + (n : Int) + 2) = false := by simp; omega
      have hlen := hid_ h2
      clear HD
      go_enter Try.func82, Try.ntmps82
      go_wp2_with fail
      refine (addr_lengths (hr0 _ [_] (hs.alloc _)) hpos).mono ?_
      rintro _ _ ⟨rfl, rfl⟩
      rw [HL.out]
      go_wp2_with fail
      refine Hcl.out.mono ?_
      rintro _ w3 ⟨a3, c3, rfl, h3⟩
      replace h3 := hB.trans h3
      clear hA gA hB Hcl
      generalize w.heap.size = g at *
      have h3' := Sat.front [_] h3
      have d0 : w3.cell? ⟨g + 1, 0, none⟩ = some (.int .i64 k) := h3'.cell 0 rfl
      have d1 : w3.cell? ⟨g + 1, 1, none⟩ = some (.slice none 0 0) := h3'.cell 1 rfl
      have d2 : w3.cell? ⟨g + 1, 2, none⟩ = some (.string ⟨#[]⟩) := h3'.cell 2 rfl
      have d3 : w3.cell? ⟨g + 1, 3, none⟩ = some (.int .i64 0) := h3'.cell 3 rfl
      have f1 : w3.frozen? ⟨g + 1, 1, none⟩ = false := h3'.frozen 1
      have h4 : Sat w0 _ (Blk (g + 1) (.cells #[.int .i64 k, .slice a3 n c3, .string ⟨#[]⟩, .int .i64 0] 41 (0, 0)) :: _) := h3'.set 1 (.slice a3 n c3)
      clear h3 h3'
      go_wp2_with fail
      refine (HMM.out _ _ _).mono ?_
      rintro _ w5 ⟨rfl, hb5⟩
      have h5 := h4.under hb5
      clear h4 hb5 d0 d1 d2 d3 f1
      have e0 : w5.cell? ⟨g + 1, 0, none⟩ = some (.int .i64 k) := h5.cell 0 rfl
      have e1 : w5.cell? ⟨g + 1, 1, none⟩ = some (.slice a3 n c3) := h5.cell 1 rfl
      have e2 : w5.cell? ⟨g + 1, 2, none⟩ = some (.string ⟨#[]⟩) := h5.cell 2 rfl
      have e3 : w5.cell? ⟨g + 1, 3, none⟩ = some (.int .i64 0) := h5.cell 3 rfl
      obtain ⟨hi, hhi⟩ : ∃ hi : Nat, (b.getD (1 + 0 + n) 0).toNat = hi := ⟨_, rfl⟩
      obtain ⟨lo, hlo⟩ : ∃ lo : Nat, (b.getD (1 + 0 + n + 1) 0).toNat = lo := ⟨_, rfl⟩
      rw [hhi, hlo] at E
      have hhib : hi < 256 := by rw [← hhi]; exact UInt8.toNat_lt _
      have hlob : lo < 256 := by rw [← hlo]; exact UInt8.toNat_lt _
      have gg : ∀ (W : World) (L' : List Assn), Sat w0 W (L' ++ L) → W.cell? ⟨b0, o0 + (1 + n), none⟩ = some (.int .u8 hi) ∧ W.cell? ⟨b0, o0 + (1 + n + 1), none⟩ = some (.int .u8 lo) := fun W L' h => by
        obtain ⟨b1, o1, c1, e1, _, _, _, h1⟩ := (hr0 W L' h).at hpos
        injection e1 with e1 _ _
        injection e1 with e1
        injection e1 with e1 e2 _
        subst e1 e2
        have g1 := h1 (1 + 0 + n) (by omega)
        have g2 := h1 (1 + 0 + n + 1) (by omega)
        rw [hhi] at g1
        rw [hlo] at g2
        rw [show 1 + 0 + n = 1 + n by omega] at g1 g2
        exact ⟨g1, g2⟩
      have GG := hid_ gg
      have hor := i64_or8 hi lo (by omega) hlob
      have s1 : IntKind.i64.wrap (1 + (n : Int)) = 1 + (n : Int) := i64_in (by omega) (by omega)
      have s2 : IntKind.i64.wrap (1 + (n : Int) + 1) = 1 + (n : Int) + 1 := i64_in (by omega) (by omega)
      have s3 : IntKind.i64.wrap ((hi : Int) * 256) = (hi : Int) * 256 := i64_in (by omega) (by omega)
      have s4 : IntKind.i64.wrap (hi : Int) = (hi : Int) := i64_in (by omega) (by omega)
      have s5 : IntKind.i64.wrap (lo : Int) = (lo : Int) := i64_in (by omega) (by omega)
      have t2 : (1 + (n : Int) + 1).toNat = 1 + n + 1 := by omega
      have b1 : 0 ≤ 1 + (n : Int) ∧ 1 + (n : Int) < (b.length : Int) ∧ 0 ≤ 1 + (n : Int) + 1 ∧ 1 + (n : Int) + 1 < (b.length : Int) := by omega
      clear gg hhi hlo h2 h1
      go_wp2_with fail
      go_cut [] (fun wx => Sat w0 wx (Blk (g + 1) (.cells #[.int .i64 k, .slice a3 n c3, .string ⟨#[]⟩, .int .i64 (hi * 256 + lo)] 41 (0, 0)) :: OwnB 5 (.slice a3 n c3) x :: Blk g (.cells #[.int .i64 0, .slice none 0 0, .string ⟨#[]⟩, .int .i64 0] 41 (0, 0)) :: L))
      case first =>
        have hA := h5.drew
        have f3 : w5.drew.frozen? ⟨g + 1, 3, none⟩ = false := hA.frozen 3
        have c3d : w5.drew.cell? ⟨g + 1, 3, none⟩ = some (.int .i64 0) := hA.cell 3 rfl
        go_region_held3 (fun w' => w'.cell? ⟨b0, o0 + (1 + n), none⟩ = some (.int .u8 hi) ∧ w'.cell? ⟨b0, o0 + (1 + n + 1), none⟩ = some (.int .u8 lo)) (first | exact GG.out _ [_, _, _] hA | exact GG.out _ [_, _, _] (hA.set 3 _)) (first | fail)
        go_wp2_with fail
        go_meet
        exact (h5.set 3 _).drew
      have h6' := Sat.front [_, _] hcut
      have x0 : wc.cell? ⟨g + 1, 0, none⟩ = some (.int .i64 k) := hcut.cell 0 rfl
      have x1 : wc.cell? ⟨g + 1, 1, none⟩ = some (.slice a3 n c3) := hcut.cell 1 rfl
      have x2 : wc.cell? ⟨g + 1, 2, none⟩ = some (.string ⟨#[]⟩) := hcut.cell 2 rfl
      have x3 : wc.cell? ⟨g + 1, 3, none⟩ = some (.int .i64 (hi * 256 + lo)) := hcut.cell 3 rfl
      have r0 : wc.cell? ⟨g, 0, none⟩ = some (.int .i64 0) := h6'.cell 0 rfl
      have r1 : wc.cell? ⟨g, 1, none⟩ = some (.slice none 0 0) := h6'.cell 1 rfl
      have r2 : wc.cell? ⟨g, 2, none⟩ = some (.string ⟨#[]⟩) := h6'.cell 2 rfl
      have r3 : wc.cell? ⟨g, 3, none⟩ = some (.int .i64 0) := h6'.cell 3 rfl
      have f0 : wc.frozen? ⟨g, 0, none⟩ = false := h6'.frozen 0
      have f1 : wc.frozen? ⟨g, 1, none⟩ = false := h6'.frozen 1
      have f2 : wc.frozen? ⟨g, 2, none⟩ = false := h6'.frozen 2
      have f3 : wc.frozen? ⟨g, 3, none⟩ = false := h6'.frozen 3
      go_wp2
      refine bodyPost_ret (v := .tuple #[.agg #[.int .i64 k, .slice a3 n c3, .string ByteArray.empty, .int .i64 (hi * 256 + lo)], .int .i64 (1 + n + 2), .int .i64 0]) (by simp [results, Try.results82, go_sem, r0, r1, r2, r3, f0, f1, f2, f3] <;> rfl) rfl ?_
      rw [E.out]
      have h7 := Sat.front [_] (Sat.set4 (y0 := .int .i64 k) (y1 := .slice a3 n c3) (y2 := .string ⟨#[]⟩) (y3 := .int .i64 (hi * 256 + lo)) h6')
      refine ⟨a3, c3, ?_, ?_⟩
      · show _ = Ending.returned (.tuple #[.agg #[.int .i64 k, .slice a3 x.length c3, .string ByteArray.empty, .int .i64 (hi * 256 + lo)], .int .i64 ((1 + 0 + n + 2 : Nat) : Int), .int .i64 0])
        rw [HX.out, show ((1 + 0 + n + 2 : Nat) : Int) = 1 + n + 2 by omega]
      · show Sat w0 _ (OwnB 5 (.slice a3 x.length c3) x :: L)
        rw [HX.out]
        exact (Sat.front [_, _] h7).d2.d2
  · obtain ⟨hk3, hb2, hn, hn1, hn2, rfl⟩ := hk
    have g0 : ∀ W L', Sat w0 W (L' ++ L) → W.cell? ⟨b0, o0, none⟩ = some (.int .u8 (3 : Int)) := fun W L' h => by
      obtain ⟨b1, o1, c1, e1, _, _, _, h1⟩ := (hr0 W L' h).at hpos
      injection e1 with e1 _ _
      injection e1 with e1
      injection e1 with e1 e2 _
      subst e1 e2
      have h2 := h1 0 hpos
      rw [hk3] at h2
      exact h2
    have hkb : (n : Int) ≤ 64 ∧ 1 ≤ (n : Int) ∧ 2 + (n : Int) ≤ (b.length : Int) ∧ (b.length : Int) ≤ (c0 : Int) := by omega
    have hz0 : (0 : Int) < (b.length : Int) := by omega
    have t1 : (2 + (n : Int)).toNat = 2 + n := by omega
    have q1 : decide ((b.length : Int) < 2 + (n : Int)) = false := by simp; omega
    obtain ⟨x, hx⟩ : ∃ x, (b.drop 2).take n = x := ⟨_, rfl⟩
    have hxl : x.length = n := by rw [← hx, List.length_take, List.length_drop]; omega
    have hcA : cutAd b n 1 = ⟨3, [], strOf x, 0⟩ := by
      unfold cutAd
      rw [if_pos hk3, ← hx]
    rw [hcA] at hD2
    have hrx : ∀ (W : World) (L' : List Assn), Sat w0 W (L' ++ L) → RdB W (.slice (some ⟨b0, o0 + 2, none⟩) n (c0 - 2)) x := fun W L' h => by
      have h2 := RdB.cut (hr0 W L' h) (lo := 2) (hi := 2 + n) (by omega) (by omega)
      rw [show 2 + n - 2 = n by omega, hx] at h2
      exact h2
    have hsz : (strOf x).size ≤ maxLen := by rw [← size_data, strOf_toList]; unfold maxLen; omega
    obtain ⟨mb, hmay⟩ : ∃ mb, (⟨3, [], strOf x, 0⟩ : AdM).may = mb := ⟨_, rfl⟩
    have hM := fun (W : World) => addr_May (w := W) ⟨3, [], strOf x, 0⟩ none 0 hsz (Nat.zero_le _)
    rw [hmay] at hM hD2
    have HMM := hid_ hM
    have HD := hid_ hD2
    have HX := hid_ hxl
    have G0 := hid_ g0
    clear hl hD2 hmay hcA hx g0 hcell hxl hM hk3 hn
    have hA := hs.alloc (.cells #[.int .i64 0, .slice none 0 0, .string ⟨#[]⟩, .int .i64 0] 41 (0, 0))
    have gA := G0.out _ [_] hA
    have hB := hs.alloc2 (.cells #[.int .i64 0, .slice none 0 0, .string ⟨#[]⟩, .int .i64 0] 41 (0, 0)) (.cells #[.int .i64 3, .slice none 0 0, .string ⟨#[]⟩, .int .i64 0] 41 (0, 0))
    have hB2 : Sat w0 _ (Blk (w.heap.size + 1) (.cells #[.int .i64 3, .slice none 0 0, .string (strOf x), .int .i64 0] 41 (0, 0)) :: _) := hs.alloc2 (.cells #[.int .i64 0, .slice none 0 0, .string ⟨#[]⟩, .int .i64 0] 41 (0, 0)) (.cells #[.int .i64 3, .slice none 0 0, .string (strOf x), .int .i64 0] 41 (0, 0))
    cases mb
    · have E := hid_ (HD.out.trans (if_pos rfl))
      clear HD
      go_enter Try.func82, Try.ntmps82
      go_wp2_with fail
      refine (addr_lengths (hr0 _ [_] (hs.alloc _)) hpos).mono ?_
      rintro _ _ ⟨rfl, rfl⟩
      rw [HL.out]
      have hcv := conv_rd Try.underlying37 Try.underlying5 Try.underlying9 (hrx _ [_, _] hB)
      go_wp2_with fail
      refine (HMM.out _).mono ?_
      rintro _ w5 ⟨rfl, hb5⟩
      have h5 : Sat w0 w5 (Blk (w.heap.size + 1) (.cells #[.int .i64 3, .slice none 0 0, .string (strOf x), .int .i64 0] 41 (0, 0)) :: _) := Sat.under hB2 hb5
      clear hA gA hB hb5 hcv hB2
      generalize w.heap.size = g at *
      have h5' := Sat.front [_] h5
      have r0 : w5.cell? ⟨g, 0, none⟩ = some (.int .i64 0) := h5'.cell 0 rfl
      have r1 : w5.cell? ⟨g, 1, none⟩ = some (.slice none 0 0) := h5'.cell 1 rfl
      have r2 : w5.cell? ⟨g, 2, none⟩ = some (.string ⟨#[]⟩) := h5'.cell 2 rfl
      have r3 : w5.cell? ⟨g, 3, none⟩ = some (.int .i64 0) := h5'.cell 3 rfl
      have f0 : w5.frozen? ⟨g, 0, none⟩ = false := h5'.frozen 0
      have f1 : w5.frozen? ⟨g, 1, none⟩ = false := h5'.frozen 1
      have f2 : w5.frozen? ⟨g, 2, none⟩ = false := h5'.frozen 2
      have f3 : w5.frozen? ⟨g, 3, none⟩ = false := h5'.frozen 3
      go_wp2
      refine bodyPost_ret (v := .tuple #[.agg #[.int .i64 0, .slice none 0 0, .string ByteArray.empty, .int .i64 0], .int .i64 0, .int .i64 3]) (by simp [results, Try.results82, go_sem, r0, r1, r2, r3, f0, f1, f2, f3] <;> rfl) rfl ?_
      rw [E.out]
      exact DecOk.no h5'.set4.drop.drop
    replace HD := hid_ (HD.out.trans (if_neg (by simp)))
    by_cases h2 : b.length < 1 + 1 + n + 2
    · have E := hid_ (HD.out.trans (if_pos h2))
      have q2 : decide ((b.length : Int) < 2 + (n : Int) + 2) = true := by simp; omega
      clear h2 HD
      go_enter Try.func82, Try.ntmps82
      go_wp2_with fail
      refine (addr_lengths (hr0 _ [_] (hs.alloc _)) hpos).mono ?_
      rintro _ _ ⟨rfl, rfl⟩
      rw [HL.out]
      have hcv := conv_rd Try.underlying37 Try.underlying5 Try.underlying9 (hrx _ [_, _] hB)
      go_wp2_with fail
      refine (HMM.out _).mono ?_
      rintro _ w5 ⟨rfl, hb5⟩
      have h5 : Sat w0 w5 (Blk (w.heap.size + 1) (.cells #[.int .i64 3, .slice none 0 0, .string (strOf x), .int .i64 0] 41 (0, 0)) :: _) := Sat.under hB2 hb5
      clear hA gA hB hb5 hcv hB2
      generalize w.heap.size = g at *
      have h5' := Sat.front [_] h5
      have r0 : w5.cell? ⟨g, 0, none⟩ = some (.int .i64 0) := h5'.cell 0 rfl
      have r1 : w5.cell? ⟨g, 1, none⟩ = some (.slice none 0 0) := h5'.cell 1 rfl
      have r2 : w5.cell? ⟨g, 2, none⟩ = some (.string ⟨#[]⟩) := h5'.cell 2 rfl
      have r3 : w5.cell? ⟨g, 3, none⟩ = some (.int .i64 0) := h5'.cell 3 rfl
      have f0 : w5.frozen? ⟨g, 0, none⟩ = false := h5'.frozen 0
      have f1 : w5.frozen? ⟨g, 1, none⟩ = false := h5'.frozen 1
      have f2 : w5.frozen? ⟨g, 2, none⟩ = false := h5'.frozen 2
      have f3 : w5.frozen? ⟨g, 3, none⟩ = false := h5'.frozen 3
      go_wp2
      refine bodyPost_ret (v := .tuple #[.agg #[.int .i64 0, .slice none 0 0, .string ByteArray.empty, .int .i64 0], .int .i64 0, .int .i64 2]) (by simp [results, Try.results82, go_sem, r0, r1, r2, r3, f0, f1, f2, f3] <;> rfl) rfl ?_
      rw [E.out]
      exact DecOk.no h5'.set4.drop.drop
    · have E := hid_ (HD.out.trans (if_neg h2))
      have q2 : decide ((b.length : Int) < 2 + (n : Int) + 2) = false := by simp; omega
      have hlen := hid_ h2
      clear HD
      go_enter Try.func82, Try.ntmps82
      go_wp2_with fail
      refine (addr_lengths (hr0 _ [_] (hs.alloc _)) hpos).mono ?_
      rintro _ _ ⟨rfl, rfl⟩
      rw [HL.out]
      have hcv := conv_rd Try.underlying37 Try.underlying5 Try.underlying9 (hrx _ [_, _] hB)
      go_wp2_with fail
      refine (HMM.out _).mono ?_
      rintro _ w5 ⟨rfl, hb5⟩
      have h5 : Sat w0 w5 (Blk (w.heap.size + 1) (.cells #[.int .i64 3, .slice none 0 0, .string (strOf x), .int .i64 0] 41 (0, 0)) :: _) := Sat.under hB2 hb5
      clear hA gA hB hb5 hcv hB2
      generalize w.heap.size = g at *
      have h5' := Sat.front [_] h5
      have e0 : w5.cell? ⟨g + 1, 0, none⟩ = some (.int .i64 3) := h5.cell 0 rfl
      have e1 : w5.cell? ⟨g + 1, 1, none⟩ = some (.slice none 0 0) := h5.cell 1 rfl
      have e2 : w5.cell? ⟨g + 1, 2, none⟩ = some (.string (strOf x)) := h5.cell 2 rfl
      have e3 : w5.cell? ⟨g + 1, 3, none⟩ = some (.int .i64 0) := h5.cell 3 rfl
      obtain ⟨hi, hhi⟩ : ∃ hi : Nat, (b.getD (1 + 1 + n) 0).toNat = hi := ⟨_, rfl⟩
      obtain ⟨lo, hlo⟩ : ∃ lo : Nat, (b.getD (1 + 1 + n + 1) 0).toNat = lo := ⟨_, rfl⟩
      rw [hhi, hlo] at E
      have hhib : hi < 256 := by rw [← hhi]; exact UInt8.toNat_lt _
      have hlob : lo < 256 := by rw [← hlo]; exact UInt8.toNat_lt _
      have gg : ∀ (W : World) (L' : List Assn), Sat w0 W (L' ++ L) → W.cell? ⟨b0, o0 + (2 + n), none⟩ = some (.int .u8 hi) ∧ W.cell? ⟨b0, o0 + (2 + n + 1), none⟩ = some (.int .u8 lo) := fun W L' h => by
        obtain ⟨b1, o1, c1, e1, _, _, _, h1⟩ := (hr0 W L' h).at hpos
        injection e1 with e1 _ _
        injection e1 with e1
        injection e1 with e1 e2 _
        subst e1 e2
        have g1 := h1 (1 + 1 + n) (by omega)
        have g2 := h1 (1 + 1 + n + 1) (by omega)
        rw [hhi] at g1
        rw [hlo] at g2
        rw [show 1 + 1 + n = 2 + n by omega] at g1 g2
        exact ⟨g1, g2⟩
      have GG := hid_ gg
      have hor := i64_or8 hi lo (by omega) hlob
      have s1 : IntKind.i64.wrap (2 + (n : Int)) = 2 + (n : Int) := i64_in (by omega) (by omega)
      have s2 : IntKind.i64.wrap (2 + (n : Int) + 1) = 2 + (n : Int) + 1 := i64_in (by omega) (by omega)
      have s3 : IntKind.i64.wrap ((hi : Int) * 256) = (hi : Int) * 256 := i64_in (by omega) (by omega)
      have s4 : IntKind.i64.wrap (hi : Int) = (hi : Int) := i64_in (by omega) (by omega)
      have s5 : IntKind.i64.wrap (lo : Int) = (lo : Int) := i64_in (by omega) (by omega)
      have t2 : (2 + (n : Int) + 1).toNat = 2 + n + 1 := by omega
      have b1 : 0 ≤ 2 + (n : Int) ∧ 2 + (n : Int) < (b.length : Int) ∧ 0 ≤ 2 + (n : Int) + 1 ∧ 2 + (n : Int) + 1 < (b.length : Int) := by omega
      clear gg hhi hlo h2 h1
      go_wp2_with fail
      go_cut [] (fun wx => Sat w0 wx (Blk (g + 1) (.cells #[.int .i64 3, .slice none 0 0, .string (strOf x), .int .i64 (hi * 256 + lo)] 41 (0, 0)) :: Blk g (.cells #[.int .i64 0, .slice none 0 0, .string ⟨#[]⟩, .int .i64 0] 41 (0, 0)) :: L))
      case first =>
        have hA := h5.drew
        have f3 : w5.drew.frozen? ⟨g + 1, 3, none⟩ = false := hA.frozen 3
        have c3d : w5.drew.cell? ⟨g + 1, 3, none⟩ = some (.int .i64 0) := hA.cell 3 rfl
        go_region_held3 (fun w' => w'.cell? ⟨b0, o0 + (2 + n), none⟩ = some (.int .u8 hi) ∧ w'.cell? ⟨b0, o0 + (2 + n + 1), none⟩ = some (.int .u8 lo)) (first | exact GG.out _ [_, _] hA | exact GG.out _ [_, _] (hA.set 3 _)) (first | fail)
        go_wp2_with fail
        go_meet
        exact (h5.set 3 _).drew
      have h6' := Sat.front [_] hcut
      have x0 : wc.cell? ⟨g + 1, 0, none⟩ = some (.int .i64 3) := hcut.cell 0 rfl
      have x1 : wc.cell? ⟨g + 1, 1, none⟩ = some (.slice none 0 0) := hcut.cell 1 rfl
      have x2 : wc.cell? ⟨g + 1, 2, none⟩ = some (.string (strOf x)) := hcut.cell 2 rfl
      have x3 : wc.cell? ⟨g + 1, 3, none⟩ = some (.int .i64 (hi * 256 + lo)) := hcut.cell 3 rfl
      have r0 : wc.cell? ⟨g, 0, none⟩ = some (.int .i64 0) := h6'.cell 0 rfl
      have r1 : wc.cell? ⟨g, 1, none⟩ = some (.slice none 0 0) := h6'.cell 1 rfl
      have r2 : wc.cell? ⟨g, 2, none⟩ = some (.string ⟨#[]⟩) := h6'.cell 2 rfl
      have r3 : wc.cell? ⟨g, 3, none⟩ = some (.int .i64 0) := h6'.cell 3 rfl
      have f0 : wc.frozen? ⟨g, 0, none⟩ = false := h6'.frozen 0
      have f1 : wc.frozen? ⟨g, 1, none⟩ = false := h6'.frozen 1
      have f2 : wc.frozen? ⟨g, 2, none⟩ = false := h6'.frozen 2
      have f3 : wc.frozen? ⟨g, 3, none⟩ = false := h6'.frozen 3
      go_wp2
      refine bodyPost_ret (v := .tuple #[.agg #[.int .i64 3, .slice none 0 0, .string (strOf x), .int .i64 (hi * 256 + lo)], .int .i64 (2 + n + 2), .int .i64 0]) (by simp [results, Try.results82, go_sem, r0, r1, r2, r3, f0, f1, f2, f3] <;> rfl) rfl ?_
      rw [E.out]
      have h7 := (Sat.set4 (y0 := .int .i64 3) (y1 := .slice none 0 0) (y2 := .string (strOf x)) (y3 := .int .i64 (hi * 256 + lo)) h6')
      refine ⟨none, 0, ?_, ?_⟩
      · show _ = Ending.returned (.tuple #[.agg #[.int .i64 3, .slice none 0 0, .string (strOf x), .int .i64 (hi * 256 + lo)], .int .i64 ((1 + 1 + n + 2 : Nat) : Int), .int .i64 0])
        rw [show ((1 + 1 + n + 2 : Nat) : Int) = 2 + n + 2 by omega]
      · exact OwnB.nilI h7.drop.drop
end
end Go.Proofs.Ytkejadhkebjdcaa
