/- The document's EncodeFrame, walked kind by kind (printed by gen_rfe.py). -/
import Derived.Test.YtkejadhkebjdcaaRefEn
import Derived.Test.YtkejadhkebjdcaaRefMf
import Derived.Test.YtkejadhkebjdcaaFrE
namespace Go.Proofs.Ytkejadhkebjdcaa
open Go Go.RowKit
set_option linter.unusedVariables false
set_option linter.unusedSimpArgs false

section
variable {w0 w : World} {L : List Assn}
set_option maxRecDepth 100000 in
set_option maxHeartbeats 1000000 in
theorem ref_EncodeFrame_no (f : FrM) (x z : Option Addr) (c k : Nat) (hm : f.may = false) (hr : RdV w f x z c k) (hs : Sat w0 w L) :
    Calls Try.prog 51 #[frV f (.slice x f.addr.ip.length c) (.slice z f.data.length k)] w fun e w' => e = .returned (.tuple #[.slice none 0 0, .int .i64 1]) ∧ Sat w0 w' L := by
  have hM := ref_MayFrame (w := w.alloc (frO f (.slice x f.addr.ip.length c) (.slice z f.data.length k))) f x z c k (hr.mono ((Below.refl _ _).alloc (Nat.le_refl _) _))
  rw [hm] at hM
  have HM := hid_ hM
  clear hm hM
  unfold frV frO at *
  go_enter Try.func51, Try.ntmps51
  go_wp2_with fail
  refine HM.out.mono ?_
  rintro _ w2 ⟨rfl, hb⟩
  go_wp2
  go_ret2
  exact ⟨rfl, (hs.alloc_ _).under hb⟩
set_option maxRecDepth 100000 in
set_option maxHeartbeats 2000000 in
theorem ref_EncodeFrame_1 (stream code n : Int) (addr : AdM) (data : List UInt8) (x z : Option Addr) (c k : Nat) (hm : (⟨1, stream, code, n, addr, data⟩ : FrM).may = true) (hs : Sat w0 w L) (hr0 : ∀ (W : World) (L' : List Assn), Sat w0 W (L' ++ L) → RdV W ⟨1, stream, code, n, addr, data⟩ x z c k) :
    Calls Try.prog 51 #[frV ⟨1, stream, code, n, addr, data⟩ (.slice x addr.ip.length c) (.slice z data.length k)] w (EncOk w0 L (⟨1, stream, code, n, addr, data⟩ : FrM).enc) := by
  have hM := ref_MayFrame (w := w.alloc (frO ⟨1, stream, code, n, addr, data⟩ (.slice x addr.ip.length c) (.slice z data.length k))) _ x z c k (hr0 _ [_] (hs.alloc _))
  rw [hm] at hM
  have HM := hid_ hM
  obtain ⟨_, _, b1, b2, b3, b4, b5, b6, b7, b8, _⟩ := fmay_facts hm
  have hc := b3 rfl
  have HC := hid_ hc
  clear hc
  clear hm hM b3 b4 b5 b6 b7 b8
  have hs1 := hs.alloc (frO ⟨1, stream, code, n, addr, data⟩ (.slice x addr.ip.length c) (.slice z data.length k))
  unfold frV frO at *
  go_enter Try.func51, Try.ntmps51
  go_wp2_with fail
  refine HM.out.mono ?_
  rintro _ w2 ⟨rfl, hb⟩
  have h2 := hs1.under hb
  obtain ⟨g, hg⟩ : ∃ g, w.heap.size = g := ⟨_, rfl⟩
  simp only [hg] at h2
  rw [hg]
  clear hb hg HM hs1
  have c0 : w2.cell? ⟨g, 0, none⟩ = some (.int .i64 1) := h2.cell 0 rfl
  have c1 : w2.cell? ⟨g, 1, none⟩ = some (.int .i64 stream) := h2.cell 1 rfl
  have hlt : g < w2.heap.size := h2.lt
  have hne : ¬ g = w2.heap.size := by omega
  have b1' := b1
  have b2' := b2
  have wst := u64_in b1' (by omega)
  have wk : IntKind.u8.wrap 1 = 1 := by decide
  obtain ⟨pre, hpre⟩ : ∃ pre, UInt8.ofNat 1 :: beB stream.toNat 2 = pre := ⟨_, rfl⟩
  have hpl : pre.length = 3 := by rw [← hpre]; simp [beB_length]
  have HPR := hid_ (show [UInt8.ofNat 1] ++ beB stream.toNat 2 = pre from hpre)
  have HP := hid_ hpl
  clear hpl
  go_wp2_with fail
  go_cut [4] (fun v4 wx => ∃ a5 k5, v4 = .slice a5 3 k5 ∧ Sat w0 wx (OwnB 5 (.slice a5 3 k5) pre :: Blk g (.cells #[.int .i64 1, .int .i64 stream, .int .i64 code, .int .i64 n, .int .i64 addr.kind, .slice x addr.ip.length c, .string addr.name, .int .i64 addr.port, .slice z data.length k] 43 (0, 0)) :: L))
  case first =>
    have hD := h2.drew
    have hA := (h2.alloc (.cells #[.int .u8 1] 5 (0, 0))).drew
    have fD : w2.drew.cell? ⟨g, 0, none⟩ = some (.int .i64 1) ∧ w2.drew.cell? ⟨g, 1, none⟩ = some (.int .i64 stream) := ⟨hD.cell 0 rfl, hD.cell 1 rfl⟩
    have fA : (w2.alloc (.cells #[.int .u8 1] 5 (0, 0))).drew.cell? ⟨g, 0, none⟩ = some (.int .i64 1) ∧ (w2.alloc (.cells #[.int .u8 1] 5 (0, 0))).drew.cell? ⟨g, 1, none⟩ = some (.int .i64 stream) := ⟨(Sat.front [_] hA).cell 0 rfl, (Sat.front [_] hA).cell 1 rfl⟩
    have oA := OwnB.ofNew (l := [UInt8.ofNat 1]) (n := 1) hA (by simp [bytesC]) rfl (by omega)
    go_region_held3 (fun w' => w'.cell? ⟨g, 0, none⟩ = some (.int .i64 1) ∧ w'.cell? ⟨g, 1, none⟩ = some (.int .i64 stream)) (first | with_reducible exact fD | with_reducible exact fA | with_reducible exact f7 | with_reducible exact f8 | with_reducible exact f9 | with_reducible exact fB)
      (first | (go_at_call 72; refine (ref_PutHigh (N := stream.toNat) (W := 2) (by omega) rfl (by omega) oA).mono ?_; rintro _ w7 ⟨a7, k7, rfl, h7⟩; have f7 : w7.cell? ⟨g, 0, none⟩ = some (.int .i64 1) ∧ w7.cell? ⟨g, 1, none⟩ = some (.int .i64 stream) := ⟨(Sat.front [_, _] h7).cell 0 rfl, (Sat.front [_, _] h7).cell 1 rfl⟩; have r7 := OwnB.rd h7)
             | (go_at_call 72; refine (ref_PutHigh (N := stream.toNat) (W := 2) (by omega) rfl (by omega) hD).mono ?_; rintro _ w8 ⟨a8, k8, rfl, h8⟩; have f8 : w8.cell? ⟨g, 0, none⟩ = some (.int .i64 1) ∧ w8.cell? ⟨g, 1, none⟩ = some (.int .i64 stream) := ⟨(Sat.front [_] h8).cell 0 rfl, (Sat.front [_] h8).cell 1 rfl⟩; have hB := h8.alloc (.cells #[.int .u8 1] 5 (0, 0)); have fB : (w8.alloc (.cells #[.int .u8 1] 5 (0, 0))).cell? ⟨g, 0, none⟩ = some (.int .i64 1) ∧ (w8.alloc (.cells #[.int .u8 1] 5 (0, 0))).cell? ⟨g, 1, none⟩ = some (.int .i64 stream) := ⟨(Sat.front [_, _] hB).cell 0 rfl, (Sat.front [_, _] hB).cell 1 rfl⟩; have oB := OwnB.ofNew (l := [UInt8.ofNat 1]) (n := 1) hB (by simp [bytesC]) rfl (by omega); have r8 := OwnB.rd oB.swap)
             | (refine step_append_b (w0 := w0) rfl _ _ 37 rfl rfl h7.swap rfl (slSrc r7) pre 3 HPR.out HP.out (by omega) ?_; intro a9 k9 w9 h9; have f9 : w9.cell? ⟨g, 0, none⟩ = some (.int .i64 1) ∧ w9.cell? ⟨g, 1, none⟩ = some (.int .i64 stream) := ⟨(Sat.front [_, _] h9).cell 0 rfl, (Sat.front [_, _] h9).cell 1 rfl⟩)
             | (refine step_append_b (w0 := w0) rfl _ _ 37 rfl rfl oB rfl (slSrc r8) pre 3 HPR.out HP.out (by omega) ?_; intro a9 k9 w9 h9; have f9 : w9.cell? ⟨g, 0, none⟩ = some (.int .i64 1) ∧ w9.cell? ⟨g, 1, none⟩ = some (.int .i64 stream) := ⟨(Sat.front [_, _] h9).cell 0 rfl, (Sat.front [_, _] h9).cell 1 rfl⟩))
    all_goals
      go_wp2_with fail
      go_meet
      exact ⟨_, _, rfl, h9.d2⟩
  obtain ⟨a5, k5, rfl, h5⟩ := hcut
  obtain ⟨w5, hw5⟩ : ∃ w5, w5 = wc := ⟨_, rfl⟩
  subst hw5
  clear hne hlt c0 c1 h2
  have hB := Sat.front [_] h5
  have c0 : w5.cell? ⟨g, 0, none⟩ = some (.int .i64 1) := hB.cell 0 rfl
  have c2 : w5.cell? ⟨g, 2, none⟩ = some (.int .i64 code) := hB.cell 2 rfl
  have c3 : w5.cell? ⟨g, 3, none⟩ = some (.int .i64 n) := hB.cell 3 rfl
  have c4 : w5.cell? ⟨g, 4, none⟩ = some (.int .i64 addr.kind) := hB.cell 4 rfl
  have c5 : w5.cell? ⟨g, 5, none⟩ = some (.slice x addr.ip.length c) := hB.cell 5 rfl
  have c6 : w5.cell? ⟨g, 6, none⟩ = some (.string addr.name) := hB.cell 6 rfl
  have c7 : w5.cell? ⟨g, 7, none⟩ = some (.int .i64 addr.port) := hB.cell 7 rfl
  have c8 : w5.cell? ⟨g, 8, none⟩ = some (.slice z data.length k) := hB.cell 8 rfl
  have HE := hid_ (show (⟨1, stream, code, n, addr, data⟩ : FrM).enc = pre ++ addr.enc by rw [← hpre]; rfl)
  have hal := enc_four addr HC.out
  have HL := hid_ (show (pre ++ addr.enc).length = 3 + addr.enc.length by rw [List.length_append, HP.out])
  clear hpre
  go_wp2_with fail
  refine (ref_EncodeAddr_yes addr x c HC.out h5 (fun W L' h => (hr0 W (L' ++ [_, _]) (by rw [List.append_assoc]; exact h)).ip)).mono ?_
  rintro _ w6 ⟨a6, k6, rfl, h6⟩
  go_wp2_with (at_builtin; refine wpList_append_b (w0 := w0) rfl _ _ 37 rfl rfl (Sat.front [_] h6) rfl (slSrc (OwnB.rd h6)) _ (3 + addr.enc.length) rfl HL.out (by omega) ?_)
  intro a7 k7 w7 h7
  go_wp2_with fail
  go_ret2
  exact EncOk.mk h7.d2.d2 HE.out HL.out rfl
set_option maxRecDepth 100000 in
set_option maxHeartbeats 2000000 in
theorem ref_EncodeFrame_2 (stream code n : Int) (addr : AdM) (data : List UInt8) (x z : Option Addr) (c k : Nat) (hm : (⟨2, stream, code, n, addr, data⟩ : FrM).may = true) (hs : Sat w0 w L) (hr0 : ∀ (W : World) (L' : List Assn), Sat w0 W (L' ++ L) → RdV W ⟨2, stream, code, n, addr, data⟩ x z c k) :
    Calls Try.prog 51 #[frV ⟨2, stream, code, n, addr, data⟩ (.slice x addr.ip.length c) (.slice z data.length k)] w (EncOk w0 L (⟨2, stream, code, n, addr, data⟩ : FrM).enc) := by
  have hM := ref_MayFrame (w := w.alloc (frO ⟨2, stream, code, n, addr, data⟩ (.slice x addr.ip.length c) (.slice z data.length k))) _ x z c k (hr0 _ [_] (hs.alloc _))
  rw [hm] at hM
  have HM := hid_ hM
  obtain ⟨_, _, b1, b2, b3, b4, b5, b6, b7, b8, _⟩ := fmay_facts hm
  have hc := b4 rfl
  have HC := hid_ hc
  clear hc
  clear hm hM b3 b4 b5 b6 b7 b8
  have hs1 := hs.alloc (frO ⟨2, stream, code, n, addr, data⟩ (.slice x addr.ip.length c) (.slice z data.length k))
  unfold frV frO at *
  go_enter Try.func51, Try.ntmps51
  go_wp2_with fail
  refine HM.out.mono ?_
  rintro _ w2 ⟨rfl, hb⟩
  have h2 := hs1.under hb
  obtain ⟨g, hg⟩ : ∃ g, w.heap.size = g := ⟨_, rfl⟩
  simp only [hg] at h2
  rw [hg]
  clear hb hg HM hs1
  have c0 : w2.cell? ⟨g, 0, none⟩ = some (.int .i64 2) := h2.cell 0 rfl
  have c1 : w2.cell? ⟨g, 1, none⟩ = some (.int .i64 stream) := h2.cell 1 rfl
  have hlt : g < w2.heap.size := h2.lt
  have hne : ¬ g = w2.heap.size := by omega
  have b1' := b1
  have b2' := b2
  have wst := u64_in b1' (by omega)
  have wk : IntKind.u8.wrap 2 = 2 := by decide
  obtain ⟨pre, hpre⟩ : ∃ pre, UInt8.ofNat 2 :: beB stream.toNat 2 = pre := ⟨_, rfl⟩
  have hpl : pre.length = 3 := by rw [← hpre]; simp [beB_length]
  have HPR := hid_ (show [UInt8.ofNat 2] ++ beB stream.toNat 2 = pre from hpre)
  have HP := hid_ hpl
  clear hpl
  go_wp2_with fail
  go_cut [4] (fun v4 wx => ∃ a5 k5, v4 = .slice a5 3 k5 ∧ Sat w0 wx (OwnB 5 (.slice a5 3 k5) pre :: Blk g (.cells #[.int .i64 2, .int .i64 stream, .int .i64 code, .int .i64 n, .int .i64 addr.kind, .slice x addr.ip.length c, .string addr.name, .int .i64 addr.port, .slice z data.length k] 43 (0, 0)) :: L))
  case first =>
    have hD := h2.drew
    have hA := (h2.alloc (.cells #[.int .u8 2] 5 (0, 0))).drew
    have fD : w2.drew.cell? ⟨g, 0, none⟩ = some (.int .i64 2) ∧ w2.drew.cell? ⟨g, 1, none⟩ = some (.int .i64 stream) := ⟨hD.cell 0 rfl, hD.cell 1 rfl⟩
    have fA : (w2.alloc (.cells #[.int .u8 2] 5 (0, 0))).drew.cell? ⟨g, 0, none⟩ = some (.int .i64 2) ∧ (w2.alloc (.cells #[.int .u8 2] 5 (0, 0))).drew.cell? ⟨g, 1, none⟩ = some (.int .i64 stream) := ⟨(Sat.front [_] hA).cell 0 rfl, (Sat.front [_] hA).cell 1 rfl⟩
    have oA := OwnB.ofNew (l := [UInt8.ofNat 2]) (n := 1) hA (by simp [bytesC]) rfl (by omega)
    go_region_held3 (fun w' => w'.cell? ⟨g, 0, none⟩ = some (.int .i64 2) ∧ w'.cell? ⟨g, 1, none⟩ = some (.int .i64 stream)) (first | with_reducible exact fD | with_reducible exact fA | with_reducible exact f7 | with_reducible exact f8 | with_reducible exact f9 | with_reducible exact fB)
      (first | (go_at_call 72; refine (ref_PutHigh (N := stream.toNat) (W := 2) (by omega) rfl (by omega) oA).mono ?_; rintro _ w7 ⟨a7, k7, rfl, h7⟩; have f7 : w7.cell? ⟨g, 0, none⟩ = some (.int .i64 2) ∧ w7.cell? ⟨g, 1, none⟩ = some (.int .i64 stream) := ⟨(Sat.front [_, _] h7).cell 0 rfl, (Sat.front [_, _] h7).cell 1 rfl⟩; have r7 := OwnB.rd h7)
             | (go_at_call 72; refine (ref_PutHigh (N := stream.toNat) (W := 2) (by omega) rfl (by omega) hD).mono ?_; rintro _ w8 ⟨a8, k8, rfl, h8⟩; have f8 : w8.cell? ⟨g, 0, none⟩ = some (.int .i64 2) ∧ w8.cell? ⟨g, 1, none⟩ = some (.int .i64 stream) := ⟨(Sat.front [_] h8).cell 0 rfl, (Sat.front [_] h8).cell 1 rfl⟩; have hB := h8.alloc (.cells #[.int .u8 2] 5 (0, 0)); have fB : (w8.alloc (.cells #[.int .u8 2] 5 (0, 0))).cell? ⟨g, 0, none⟩ = some (.int .i64 2) ∧ (w8.alloc (.cells #[.int .u8 2] 5 (0, 0))).cell? ⟨g, 1, none⟩ = some (.int .i64 stream) := ⟨(Sat.front [_, _] hB).cell 0 rfl, (Sat.front [_, _] hB).cell 1 rfl⟩; have oB := OwnB.ofNew (l := [UInt8.ofNat 2]) (n := 1) hB (by simp [bytesC]) rfl (by omega); have r8 := OwnB.rd oB.swap)
             | (refine step_append_b (w0 := w0) rfl _ _ 37 rfl rfl h7.swap rfl (slSrc r7) pre 3 HPR.out HP.out (by omega) ?_; intro a9 k9 w9 h9; have f9 : w9.cell? ⟨g, 0, none⟩ = some (.int .i64 2) ∧ w9.cell? ⟨g, 1, none⟩ = some (.int .i64 stream) := ⟨(Sat.front [_, _] h9).cell 0 rfl, (Sat.front [_, _] h9).cell 1 rfl⟩)
             | (refine step_append_b (w0 := w0) rfl _ _ 37 rfl rfl oB rfl (slSrc r8) pre 3 HPR.out HP.out (by omega) ?_; intro a9 k9 w9 h9; have f9 : w9.cell? ⟨g, 0, none⟩ = some (.int .i64 2) ∧ w9.cell? ⟨g, 1, none⟩ = some (.int .i64 stream) := ⟨(Sat.front [_, _] h9).cell 0 rfl, (Sat.front [_, _] h9).cell 1 rfl⟩))
    all_goals
      go_wp2_with fail
      go_meet
      exact ⟨_, _, rfl, h9.d2⟩
  obtain ⟨a5, k5, rfl, h5⟩ := hcut
  obtain ⟨w5, hw5⟩ : ∃ w5, w5 = wc := ⟨_, rfl⟩
  subst hw5
  clear hne hlt c0 c1 h2
  have hB := Sat.front [_] h5
  have c0 : w5.cell? ⟨g, 0, none⟩ = some (.int .i64 2) := hB.cell 0 rfl
  have c2 : w5.cell? ⟨g, 2, none⟩ = some (.int .i64 code) := hB.cell 2 rfl
  have c3 : w5.cell? ⟨g, 3, none⟩ = some (.int .i64 n) := hB.cell 3 rfl
  have c4 : w5.cell? ⟨g, 4, none⟩ = some (.int .i64 addr.kind) := hB.cell 4 rfl
  have c5 : w5.cell? ⟨g, 5, none⟩ = some (.slice x addr.ip.length c) := hB.cell 5 rfl
  have c6 : w5.cell? ⟨g, 6, none⟩ = some (.string addr.name) := hB.cell 6 rfl
  have c7 : w5.cell? ⟨g, 7, none⟩ = some (.int .i64 addr.port) := hB.cell 7 rfl
  have c8 : w5.cell? ⟨g, 8, none⟩ = some (.slice z data.length k) := hB.cell 8 rfl
  obtain ⟨cd, hcd⟩ := Int.eq_ofNat_of_zero_le HC.out.1
  have HE := hid_ (show (⟨2, stream, code, n, addr, data⟩ : FrM).enc = pre ++ [UInt8.ofNat code.toNat] by rw [← hpre]; simp [FrM.enc, FrM.tail, beB])
  have HL := hid_ (show (pre ++ [UInt8.ofNat code.toNat]).length = 4 by rw [List.length_append, HP.out]; rfl)
  have hcb : 0 ≤ code ∧ code ≤ 255 := by have := HC.out; omega
  have h6 := h5.alloc (.cells #[.int .u8 code] 5 (0, 0))
  have r6 := OwnB.rd (OwnB.ofNew (l := [UInt8.ofNat code.toNat]) (n := 1) h6 (by simp only [bytesC, List.map_cons, List.map_nil, u8_nat]; congr 3; omega) rfl (by omega))
  clear hpre hcd
  go_wp2_with (at_builtin; refine wpList_append_b (w0 := w0) rfl _ _ 37 rfl rfl h6.swap rfl (slSrc r6) _ 4 rfl HL.out (by omega) ?_)
  intro a7 k7 w7 h7
  go_wp2_with fail
  go_ret2
  exact EncOk.mk h7.d2.d2 HE.out HL.out rfl
set_option maxRecDepth 100000 in
set_option maxHeartbeats 2000000 in
theorem ref_EncodeFrame_3 (stream code n : Int) (addr : AdM) (data : List UInt8) (x z : Option Addr) (c k : Nat) (hm : (⟨3, stream, code, n, addr, data⟩ : FrM).may = true) (hs : Sat w0 w L) (hr0 : ∀ (W : World) (L' : List Assn), Sat w0 W (L' ++ L) → RdV W ⟨3, stream, code, n, addr, data⟩ x z c k) :
    Calls Try.prog 51 #[frV ⟨3, stream, code, n, addr, data⟩ (.slice x addr.ip.length c) (.slice z data.length k)] w (EncOk w0 L (⟨3, stream, code, n, addr, data⟩ : FrM).enc) := by
  have hM := ref_MayFrame (w := w.alloc (frO ⟨3, stream, code, n, addr, data⟩ (.slice x addr.ip.length c) (.slice z data.length k))) _ x z c k (hr0 _ [_] (hs.alloc _))
  rw [hm] at hM
  have HM := hid_ hM
  obtain ⟨_, _, b1, b2, b3, b4, b5, b6, b7, b8, _⟩ := fmay_facts hm
  have hc := b6 rfl
  clear hm hM b3 b4 b5 b6 b7 b8
  have hs1 := hs.alloc (frO ⟨3, stream, code, n, addr, data⟩ (.slice x addr.ip.length c) (.slice z data.length k))
  unfold frV frO at *
  go_enter Try.func51, Try.ntmps51
  go_wp2_with fail
  refine HM.out.mono ?_
  rintro _ w2 ⟨rfl, hb⟩
  have h2 := hs1.under hb
  obtain ⟨g, hg⟩ : ∃ g, w.heap.size = g := ⟨_, rfl⟩
  simp only [hg] at h2
  rw [hg]
  clear hb hg HM hs1
  have c0 : w2.cell? ⟨g, 0, none⟩ = some (.int .i64 3) := h2.cell 0 rfl
  have c1 : w2.cell? ⟨g, 1, none⟩ = some (.int .i64 stream) := h2.cell 1 rfl
  have hlt : g < w2.heap.size := h2.lt
  have hne : ¬ g = w2.heap.size := by omega
  have b1' := b1
  have b2' := b2
  have wst := u64_in b1' (by omega)
  have wk : IntKind.u8.wrap 3 = 3 := by decide
  obtain ⟨pre, hpre⟩ : ∃ pre, UInt8.ofNat 3 :: beB stream.toNat 2 = pre := ⟨_, rfl⟩
  have hpl : pre.length = 3 := by rw [← hpre]; simp [beB_length]
  have HPR := hid_ (show [UInt8.ofNat 3] ++ beB stream.toNat 2 = pre from hpre)
  have HP := hid_ hpl
  clear hpl
  go_wp2_with fail
  go_cut [4] (fun v4 wx => ∃ a5 k5, v4 = .slice a5 3 k5 ∧ Sat w0 wx (OwnB 5 (.slice a5 3 k5) pre :: Blk g (.cells #[.int .i64 3, .int .i64 stream, .int .i64 code, .int .i64 n, .int .i64 addr.kind, .slice x addr.ip.length c, .string addr.name, .int .i64 addr.port, .slice z data.length k] 43 (0, 0)) :: L))
  case first =>
    have hD := h2.drew
    have hA := (h2.alloc (.cells #[.int .u8 3] 5 (0, 0))).drew
    have fD : w2.drew.cell? ⟨g, 0, none⟩ = some (.int .i64 3) ∧ w2.drew.cell? ⟨g, 1, none⟩ = some (.int .i64 stream) := ⟨hD.cell 0 rfl, hD.cell 1 rfl⟩
    have fA : (w2.alloc (.cells #[.int .u8 3] 5 (0, 0))).drew.cell? ⟨g, 0, none⟩ = some (.int .i64 3) ∧ (w2.alloc (.cells #[.int .u8 3] 5 (0, 0))).drew.cell? ⟨g, 1, none⟩ = some (.int .i64 stream) := ⟨(Sat.front [_] hA).cell 0 rfl, (Sat.front [_] hA).cell 1 rfl⟩
    have oA := OwnB.ofNew (l := [UInt8.ofNat 3]) (n := 1) hA (by simp [bytesC]) rfl (by omega)
    go_region_held3 (fun w' => w'.cell? ⟨g, 0, none⟩ = some (.int .i64 3) ∧ w'.cell? ⟨g, 1, none⟩ = some (.int .i64 stream)) (first | with_reducible exact fD | with_reducible exact fA | with_reducible exact f7 | with_reducible exact f8 | with_reducible exact f9 | with_reducible exact fB)
      (first | (go_at_call 72; refine (ref_PutHigh (N := stream.toNat) (W := 2) (by omega) rfl (by omega) oA).mono ?_; rintro _ w7 ⟨a7, k7, rfl, h7⟩; have f7 : w7.cell? ⟨g, 0, none⟩ = some (.int .i64 3) ∧ w7.cell? ⟨g, 1, none⟩ = some (.int .i64 stream) := ⟨(Sat.front [_, _] h7).cell 0 rfl, (Sat.front [_, _] h7).cell 1 rfl⟩; have r7 := OwnB.rd h7)
             | (go_at_call 72; refine (ref_PutHigh (N := stream.toNat) (W := 2) (by omega) rfl (by omega) hD).mono ?_; rintro _ w8 ⟨a8, k8, rfl, h8⟩; have f8 : w8.cell? ⟨g, 0, none⟩ = some (.int .i64 3) ∧ w8.cell? ⟨g, 1, none⟩ = some (.int .i64 stream) := ⟨(Sat.front [_] h8).cell 0 rfl, (Sat.front [_] h8).cell 1 rfl⟩; have hB := h8.alloc (.cells #[.int .u8 3] 5 (0, 0)); have fB : (w8.alloc (.cells #[.int .u8 3] 5 (0, 0))).cell? ⟨g, 0, none⟩ = some (.int .i64 3) ∧ (w8.alloc (.cells #[.int .u8 3] 5 (0, 0))).cell? ⟨g, 1, none⟩ = some (.int .i64 stream) := ⟨(Sat.front [_, _] hB).cell 0 rfl, (Sat.front [_, _] hB).cell 1 rfl⟩; have oB := OwnB.ofNew (l := [UInt8.ofNat 3]) (n := 1) hB (by simp [bytesC]) rfl (by omega); have r8 := OwnB.rd oB.swap)
             | (refine step_append_b (w0 := w0) rfl _ _ 37 rfl rfl h7.swap rfl (slSrc r7) pre 3 HPR.out HP.out (by omega) ?_; intro a9 k9 w9 h9; have f9 : w9.cell? ⟨g, 0, none⟩ = some (.int .i64 3) ∧ w9.cell? ⟨g, 1, none⟩ = some (.int .i64 stream) := ⟨(Sat.front [_, _] h9).cell 0 rfl, (Sat.front [_, _] h9).cell 1 rfl⟩)
             | (refine step_append_b (w0 := w0) rfl _ _ 37 rfl rfl oB rfl (slSrc r8) pre 3 HPR.out HP.out (by omega) ?_; intro a9 k9 w9 h9; have f9 : w9.cell? ⟨g, 0, none⟩ = some (.int .i64 3) ∧ w9.cell? ⟨g, 1, none⟩ = some (.int .i64 stream) := ⟨(Sat.front [_, _] h9).cell 0 rfl, (Sat.front [_, _] h9).cell 1 rfl⟩))
    all_goals
      go_wp2_with fail
      go_meet
      exact ⟨_, _, rfl, h9.d2⟩
  obtain ⟨a5, k5, rfl, h5⟩ := hcut
  obtain ⟨w5, hw5⟩ : ∃ w5, w5 = wc := ⟨_, rfl⟩
  subst hw5
  clear hne hlt c0 c1 h2
  have hB := Sat.front [_] h5
  have c0 : w5.cell? ⟨g, 0, none⟩ = some (.int .i64 3) := hB.cell 0 rfl
  have c2 : w5.cell? ⟨g, 2, none⟩ = some (.int .i64 code) := hB.cell 2 rfl
  have c3 : w5.cell? ⟨g, 3, none⟩ = some (.int .i64 n) := hB.cell 3 rfl
  have c4 : w5.cell? ⟨g, 4, none⟩ = some (.int .i64 addr.kind) := hB.cell 4 rfl
  have c5 : w5.cell? ⟨g, 5, none⟩ = some (.slice x addr.ip.length c) := hB.cell 5 rfl
  have c6 : w5.cell? ⟨g, 6, none⟩ = some (.string addr.name) := hB.cell 6 rfl
  have c7 : w5.cell? ⟨g, 7, none⟩ = some (.int .i64 addr.port) := hB.cell 7 rfl
  have c8 : w5.cell? ⟨g, 8, none⟩ = some (.slice z data.length k) := hB.cell 8 rfl
  have HE := hid_ (show (⟨3, stream, code, n, addr, data⟩ : FrM).enc = (pre ++ beB data.length 2) ++ data by rw [← hpre]; simp [FrM.enc, FrM.tail])
  have HL5 := hid_ (show (pre ++ beB data.length 2).length = 5 by rw [List.length_append, HP.out, beB_length])
  have HL := hid_ (show ((pre ++ beB data.length 2) ++ data).length = 5 + data.length by rw [List.length_append, HL5.out])
  have wdl := u64_in (n := (data.length : Int)) (by omega) (by omega)
  clear hpre
  go_wp2_with fail
  have hd := h5.drew
  have fD : w5.drew.cell? ⟨g, 8, none⟩ = some (.slice z data.length k) := (Sat.front [_] hd).cell 8 rfl
  go_region_held3 (fun w' => w'.cell? ⟨g, 8, none⟩ = some (.slice z data.length k)) (first | with_reducible exact fD | with_reducible exact f6 | with_reducible exact f7 | with_reducible exact f8)
    (first | (refine step_append_b (w0 := w0) rfl _ _ 37 rfl rfl h7 rfl (slSrc (hr0 _ [_, _, _] h7).data) _ (5 + data.length) rfl HL.out (by omega) ?_; intro a8 k8 w8 h8; have f8 : w8.cell? ⟨g, 8, none⟩ = some (.slice z data.length k) := (Sat.front [_, _] h8).cell 8 rfl)
           | (refine step_append_b (w0 := w0) rfl _ _ 37 rfl rfl h6.swap rfl (slSrc r6) (pre ++ beB data.length 2) 5 rfl HL5.out (by omega) ?_; intro a7 k7 w7 h7; have f7 : w7.cell? ⟨g, 8, none⟩ = some (.slice z data.length k) := (Sat.front [_, _] h7).cell 8 rfl)
           | (go_at_call 72; refine (ref_PutHigh (N := data.length) (W := 2) rfl rfl (by omega) hd).mono ?_; rintro _ w6 ⟨a6, k6, rfl, h6⟩; have f6 : w6.cell? ⟨g, 8, none⟩ = some (.slice z data.length k) := (Sat.front [_, _] h6).cell 8 rfl; have r6 := OwnB.rd h6))
  go_wp2_with fail
  go_ret2
  exact EncOk.mk h8.d2.d2 HE.out HL.out rfl
set_option maxRecDepth 100000 in
set_option maxHeartbeats 2000000 in
theorem ref_EncodeFrame_4 (stream code n : Int) (addr : AdM) (data : List UInt8) (x z : Option Addr) (c k : Nat) (hm : (⟨4, stream, code, n, addr, data⟩ : FrM).may = true) (hs : Sat w0 w L) (hr0 : ∀ (W : World) (L' : List Assn), Sat w0 W (L' ++ L) → RdV W ⟨4, stream, code, n, addr, data⟩ x z c k) :
    Calls Try.prog 51 #[frV ⟨4, stream, code, n, addr, data⟩ (.slice x addr.ip.length c) (.slice z data.length k)] w (EncOk w0 L (⟨4, stream, code, n, addr, data⟩ : FrM).enc) := by
  have hM := ref_MayFrame (w := w.alloc (frO ⟨4, stream, code, n, addr, data⟩ (.slice x addr.ip.length c) (.slice z data.length k))) _ x z c k (hr0 _ [_] (hs.alloc _))
  rw [hm] at hM
  have HM := hid_ hM
  obtain ⟨_, _, b1, b2, b3, b4, b5, b6, b7, b8, _⟩ := fmay_facts hm
  
  clear hm hM b3 b4 b5 b6 b7 b8
  have hs1 := hs.alloc (frO ⟨4, stream, code, n, addr, data⟩ (.slice x addr.ip.length c) (.slice z data.length k))
  unfold frV frO at *
  go_enter Try.func51, Try.ntmps51
  go_wp2_with fail
  refine HM.out.mono ?_
  rintro _ w2 ⟨rfl, hb⟩
  have h2 := hs1.under hb
  obtain ⟨g, hg⟩ : ∃ g, w.heap.size = g := ⟨_, rfl⟩
  simp only [hg] at h2
  rw [hg]
  clear hb hg HM hs1
  have c0 : w2.cell? ⟨g, 0, none⟩ = some (.int .i64 4) := h2.cell 0 rfl
  have c1 : w2.cell? ⟨g, 1, none⟩ = some (.int .i64 stream) := h2.cell 1 rfl
  have hlt : g < w2.heap.size := h2.lt
  have hne : ¬ g = w2.heap.size := by omega
  have b1' := b1
  have b2' := b2
  have wst := u64_in b1' (by omega)
  have wk : IntKind.u8.wrap 4 = 4 := by decide
  obtain ⟨pre, hpre⟩ : ∃ pre, UInt8.ofNat 4 :: beB stream.toNat 2 = pre := ⟨_, rfl⟩
  have hpl : pre.length = 3 := by rw [← hpre]; simp [beB_length]
  have HPR := hid_ (show [UInt8.ofNat 4] ++ beB stream.toNat 2 = pre from hpre)
  have HP := hid_ hpl
  clear hpl
  go_wp2_with fail
  go_cut [4] (fun v4 wx => ∃ a5 k5, v4 = .slice a5 3 k5 ∧ Sat w0 wx (OwnB 5 (.slice a5 3 k5) pre :: Blk g (.cells #[.int .i64 4, .int .i64 stream, .int .i64 code, .int .i64 n, .int .i64 addr.kind, .slice x addr.ip.length c, .string addr.name, .int .i64 addr.port, .slice z data.length k] 43 (0, 0)) :: L))
  case first =>
    have hD := h2.drew
    have hA := (h2.alloc (.cells #[.int .u8 4] 5 (0, 0))).drew
    have fD : w2.drew.cell? ⟨g, 0, none⟩ = some (.int .i64 4) ∧ w2.drew.cell? ⟨g, 1, none⟩ = some (.int .i64 stream) := ⟨hD.cell 0 rfl, hD.cell 1 rfl⟩
    have fA : (w2.alloc (.cells #[.int .u8 4] 5 (0, 0))).drew.cell? ⟨g, 0, none⟩ = some (.int .i64 4) ∧ (w2.alloc (.cells #[.int .u8 4] 5 (0, 0))).drew.cell? ⟨g, 1, none⟩ = some (.int .i64 stream) := ⟨(Sat.front [_] hA).cell 0 rfl, (Sat.front [_] hA).cell 1 rfl⟩
    have oA := OwnB.ofNew (l := [UInt8.ofNat 4]) (n := 1) hA (by simp [bytesC]) rfl (by omega)
    go_region_held3 (fun w' => w'.cell? ⟨g, 0, none⟩ = some (.int .i64 4) ∧ w'.cell? ⟨g, 1, none⟩ = some (.int .i64 stream)) (first | with_reducible exact fD | with_reducible exact fA | with_reducible exact f7 | with_reducible exact f8 | with_reducible exact f9 | with_reducible exact fB)
      (first | (go_at_call 72; refine (ref_PutHigh (N := stream.toNat) (W := 2) (by omega) rfl (by omega) oA).mono ?_; rintro _ w7 ⟨a7, k7, rfl, h7⟩; have f7 : w7.cell? ⟨g, 0, none⟩ = some (.int .i64 4) ∧ w7.cell? ⟨g, 1, none⟩ = some (.int .i64 stream) := ⟨(Sat.front [_, _] h7).cell 0 rfl, (Sat.front [_, _] h7).cell 1 rfl⟩; have r7 := OwnB.rd h7)
             | (go_at_call 72; refine (ref_PutHigh (N := stream.toNat) (W := 2) (by omega) rfl (by omega) hD).mono ?_; rintro _ w8 ⟨a8, k8, rfl, h8⟩; have f8 : w8.cell? ⟨g, 0, none⟩ = some (.int .i64 4) ∧ w8.cell? ⟨g, 1, none⟩ = some (.int .i64 stream) := ⟨(Sat.front [_] h8).cell 0 rfl, (Sat.front [_] h8).cell 1 rfl⟩; have hB := h8.alloc (.cells #[.int .u8 4] 5 (0, 0)); have fB : (w8.alloc (.cells #[.int .u8 4] 5 (0, 0))).cell? ⟨g, 0, none⟩ = some (.int .i64 4) ∧ (w8.alloc (.cells #[.int .u8 4] 5 (0, 0))).cell? ⟨g, 1, none⟩ = some (.int .i64 stream) := ⟨(Sat.front [_, _] hB).cell 0 rfl, (Sat.front [_, _] hB).cell 1 rfl⟩; have oB := OwnB.ofNew (l := [UInt8.ofNat 4]) (n := 1) hB (by simp [bytesC]) rfl (by omega); have r8 := OwnB.rd oB.swap)
             | (refine step_append_b (w0 := w0) rfl _ _ 37 rfl rfl h7.swap rfl (slSrc r7) pre 3 HPR.out HP.out (by omega) ?_; intro a9 k9 w9 h9; have f9 : w9.cell? ⟨g, 0, none⟩ = some (.int .i64 4) ∧ w9.cell? ⟨g, 1, none⟩ = some (.int .i64 stream) := ⟨(Sat.front [_, _] h9).cell 0 rfl, (Sat.front [_, _] h9).cell 1 rfl⟩)
             | (refine step_append_b (w0 := w0) rfl _ _ 37 rfl rfl oB rfl (slSrc r8) pre 3 HPR.out HP.out (by omega) ?_; intro a9 k9 w9 h9; have f9 : w9.cell? ⟨g, 0, none⟩ = some (.int .i64 4) ∧ w9.cell? ⟨g, 1, none⟩ = some (.int .i64 stream) := ⟨(Sat.front [_, _] h9).cell 0 rfl, (Sat.front [_, _] h9).cell 1 rfl⟩))
    all_goals
      go_wp2_with fail
      go_meet
      exact ⟨_, _, rfl, h9.d2⟩
  obtain ⟨a5, k5, rfl, h5⟩ := hcut
  obtain ⟨w5, hw5⟩ : ∃ w5, w5 = wc := ⟨_, rfl⟩
  subst hw5
  clear hne hlt c0 c1 h2
  have hB := Sat.front [_] h5
  have c0 : w5.cell? ⟨g, 0, none⟩ = some (.int .i64 4) := hB.cell 0 rfl
  have c2 : w5.cell? ⟨g, 2, none⟩ = some (.int .i64 code) := hB.cell 2 rfl
  have c3 : w5.cell? ⟨g, 3, none⟩ = some (.int .i64 n) := hB.cell 3 rfl
  have c4 : w5.cell? ⟨g, 4, none⟩ = some (.int .i64 addr.kind) := hB.cell 4 rfl
  have c5 : w5.cell? ⟨g, 5, none⟩ = some (.slice x addr.ip.length c) := hB.cell 5 rfl
  have c6 : w5.cell? ⟨g, 6, none⟩ = some (.string addr.name) := hB.cell 6 rfl
  have c7 : w5.cell? ⟨g, 7, none⟩ = some (.int .i64 addr.port) := hB.cell 7 rfl
  have c8 : w5.cell? ⟨g, 8, none⟩ = some (.slice z data.length k) := hB.cell 8 rfl
  have HE := hid_ (show (⟨4, stream, code, n, addr, data⟩ : FrM).enc = pre by rw [← hpre]; simp [FrM.enc, FrM.tail])
  clear hpre
  go_wp2_with fail
  go_ret2
  exact EncOk.mk h5.d2 HE.out HP.out rfl
set_option maxRecDepth 100000 in
set_option maxHeartbeats 2000000 in
theorem ref_EncodeFrame_5 (stream code n : Int) (addr : AdM) (data : List UInt8) (x z : Option Addr) (c k : Nat) (hm : (⟨5, stream, code, n, addr, data⟩ : FrM).may = true) (hs : Sat w0 w L) (hr0 : ∀ (W : World) (L' : List Assn), Sat w0 W (L' ++ L) → RdV W ⟨5, stream, code, n, addr, data⟩ x z c k) :
    Calls Try.prog 51 #[frV ⟨5, stream, code, n, addr, data⟩ (.slice x addr.ip.length c) (.slice z data.length k)] w (EncOk w0 L (⟨5, stream, code, n, addr, data⟩ : FrM).enc) := by
  have hM := ref_MayFrame (w := w.alloc (frO ⟨5, stream, code, n, addr, data⟩ (.slice x addr.ip.length c) (.slice z data.length k))) _ x z c k (hr0 _ [_] (hs.alloc _))
  rw [hm] at hM
  have HM := hid_ hM
  obtain ⟨_, _, b1, b2, b3, b4, b5, b6, b7, b8, _⟩ := fmay_facts hm
  have hc := b5 rfl
  have HC := hid_ hc
  clear hc
  clear hm hM b3 b4 b5 b6 b7 b8
  have hs1 := hs.alloc (frO ⟨5, stream, code, n, addr, data⟩ (.slice x addr.ip.length c) (.slice z data.length k))
  unfold frV frO at *
  go_enter Try.func51, Try.ntmps51
  go_wp2_with fail
  refine HM.out.mono ?_
  rintro _ w2 ⟨rfl, hb⟩
  have h2 := hs1.under hb
  obtain ⟨g, hg⟩ : ∃ g, w.heap.size = g := ⟨_, rfl⟩
  simp only [hg] at h2
  rw [hg]
  clear hb hg HM hs1
  have c0 : w2.cell? ⟨g, 0, none⟩ = some (.int .i64 5) := h2.cell 0 rfl
  have c1 : w2.cell? ⟨g, 1, none⟩ = some (.int .i64 stream) := h2.cell 1 rfl
  have hlt : g < w2.heap.size := h2.lt
  have hne : ¬ g = w2.heap.size := by omega
  have b1' := b1
  have b2' := b2
  have wst := u64_in b1' (by omega)
  have wk : IntKind.u8.wrap 5 = 5 := by decide
  obtain ⟨pre, hpre⟩ : ∃ pre, UInt8.ofNat 5 :: beB stream.toNat 2 = pre := ⟨_, rfl⟩
  have hpl : pre.length = 3 := by rw [← hpre]; simp [beB_length]
  have HPR := hid_ (show [UInt8.ofNat 5] ++ beB stream.toNat 2 = pre from hpre)
  have HP := hid_ hpl
  clear hpl
  go_wp2_with fail
  go_cut [4] (fun v4 wx => ∃ a5 k5, v4 = .slice a5 3 k5 ∧ Sat w0 wx (OwnB 5 (.slice a5 3 k5) pre :: Blk g (.cells #[.int .i64 5, .int .i64 stream, .int .i64 code, .int .i64 n, .int .i64 addr.kind, .slice x addr.ip.length c, .string addr.name, .int .i64 addr.port, .slice z data.length k] 43 (0, 0)) :: L))
  case first =>
    have hD := h2.drew
    have hA := (h2.alloc (.cells #[.int .u8 5] 5 (0, 0))).drew
    have fD : w2.drew.cell? ⟨g, 0, none⟩ = some (.int .i64 5) ∧ w2.drew.cell? ⟨g, 1, none⟩ = some (.int .i64 stream) := ⟨hD.cell 0 rfl, hD.cell 1 rfl⟩
    have fA : (w2.alloc (.cells #[.int .u8 5] 5 (0, 0))).drew.cell? ⟨g, 0, none⟩ = some (.int .i64 5) ∧ (w2.alloc (.cells #[.int .u8 5] 5 (0, 0))).drew.cell? ⟨g, 1, none⟩ = some (.int .i64 stream) := ⟨(Sat.front [_] hA).cell 0 rfl, (Sat.front [_] hA).cell 1 rfl⟩
    have oA := OwnB.ofNew (l := [UInt8.ofNat 5]) (n := 1) hA (by simp [bytesC]) rfl (by omega)
    go_region_held3 (fun w' => w'.cell? ⟨g, 0, none⟩ = some (.int .i64 5) ∧ w'.cell? ⟨g, 1, none⟩ = some (.int .i64 stream)) (first | with_reducible exact fD | with_reducible exact fA | with_reducible exact f7 | with_reducible exact f8 | with_reducible exact f9 | with_reducible exact fB)
      (first | (go_at_call 72; refine (ref_PutHigh (N := stream.toNat) (W := 2) (by omega) rfl (by omega) oA).mono ?_; rintro _ w7 ⟨a7, k7, rfl, h7⟩; have f7 : w7.cell? ⟨g, 0, none⟩ = some (.int .i64 5) ∧ w7.cell? ⟨g, 1, none⟩ = some (.int .i64 stream) := ⟨(Sat.front [_, _] h7).cell 0 rfl, (Sat.front [_, _] h7).cell 1 rfl⟩; have r7 := OwnB.rd h7)
             | (go_at_call 72; refine (ref_PutHigh (N := stream.toNat) (W := 2) (by omega) rfl (by omega) hD).mono ?_; rintro _ w8 ⟨a8, k8, rfl, h8⟩; have f8 : w8.cell? ⟨g, 0, none⟩ = some (.int .i64 5) ∧ w8.cell? ⟨g, 1, none⟩ = some (.int .i64 stream) := ⟨(Sat.front [_] h8).cell 0 rfl, (Sat.front [_] h8).cell 1 rfl⟩; have hB := h8.alloc (.cells #[.int .u8 5] 5 (0, 0)); have fB : (w8.alloc (.cells #[.int .u8 5] 5 (0, 0))).cell? ⟨g, 0, none⟩ = some (.int .i64 5) ∧ (w8.alloc (.cells #[.int .u8 5] 5 (0, 0))).cell? ⟨g, 1, none⟩ = some (.int .i64 stream) := ⟨(Sat.front [_, _] hB).cell 0 rfl, (Sat.front [_, _] hB).cell 1 rfl⟩; have oB := OwnB.ofNew (l := [UInt8.ofNat 5]) (n := 1) hB (by simp [bytesC]) rfl (by omega); have r8 := OwnB.rd oB.swap)
             | (refine step_append_b (w0 := w0) rfl _ _ 37 rfl rfl h7.swap rfl (slSrc r7) pre 3 HPR.out HP.out (by omega) ?_; intro a9 k9 w9 h9; have f9 : w9.cell? ⟨g, 0, none⟩ = some (.int .i64 5) ∧ w9.cell? ⟨g, 1, none⟩ = some (.int .i64 stream) := ⟨(Sat.front [_, _] h9).cell 0 rfl, (Sat.front [_, _] h9).cell 1 rfl⟩)
             | (refine step_append_b (w0 := w0) rfl _ _ 37 rfl rfl oB rfl (slSrc r8) pre 3 HPR.out HP.out (by omega) ?_; intro a9 k9 w9 h9; have f9 : w9.cell? ⟨g, 0, none⟩ = some (.int .i64 5) ∧ w9.cell? ⟨g, 1, none⟩ = some (.int .i64 stream) := ⟨(Sat.front [_, _] h9).cell 0 rfl, (Sat.front [_, _] h9).cell 1 rfl⟩))
    all_goals
      go_wp2_with fail
      go_meet
      exact ⟨_, _, rfl, h9.d2⟩
  obtain ⟨a5, k5, rfl, h5⟩ := hcut
  obtain ⟨w5, hw5⟩ : ∃ w5, w5 = wc := ⟨_, rfl⟩
  subst hw5
  clear hne hlt c0 c1 h2
  have hB := Sat.front [_] h5
  have c0 : w5.cell? ⟨g, 0, none⟩ = some (.int .i64 5) := hB.cell 0 rfl
  have c2 : w5.cell? ⟨g, 2, none⟩ = some (.int .i64 code) := hB.cell 2 rfl
  have c3 : w5.cell? ⟨g, 3, none⟩ = some (.int .i64 n) := hB.cell 3 rfl
  have c4 : w5.cell? ⟨g, 4, none⟩ = some (.int .i64 addr.kind) := hB.cell 4 rfl
  have c5 : w5.cell? ⟨g, 5, none⟩ = some (.slice x addr.ip.length c) := hB.cell 5 rfl
  have c6 : w5.cell? ⟨g, 6, none⟩ = some (.string addr.name) := hB.cell 6 rfl
  have c7 : w5.cell? ⟨g, 7, none⟩ = some (.int .i64 addr.port) := hB.cell 7 rfl
  have c8 : w5.cell? ⟨g, 8, none⟩ = some (.slice z data.length k) := hB.cell 8 rfl
  obtain ⟨cd, hcd⟩ := Int.eq_ofNat_of_zero_le HC.out.1
  have HE := hid_ (show (⟨5, stream, code, n, addr, data⟩ : FrM).enc = pre ++ [UInt8.ofNat code.toNat] by rw [← hpre]; simp [FrM.enc, FrM.tail, beB])
  have HL := hid_ (show (pre ++ [UInt8.ofNat code.toNat]).length = 4 by rw [List.length_append, HP.out]; rfl)
  have hcb : 0 ≤ code ∧ code ≤ 255 := by have := HC.out; omega
  have h6 := h5.alloc (.cells #[.int .u8 code] 5 (0, 0))
  have r6 := OwnB.rd (OwnB.ofNew (l := [UInt8.ofNat code.toNat]) (n := 1) h6 (by simp only [bytesC, List.map_cons, List.map_nil, u8_nat]; congr 3; omega) rfl (by omega))
  clear hpre hcd
  go_wp2_with (at_builtin; refine wpList_append_b (w0 := w0) rfl _ _ 37 rfl rfl h6.swap rfl (slSrc r6) _ 4 rfl HL.out (by omega) ?_)
  intro a7 k7 w7 h7
  go_wp2_with fail
  go_ret2
  exact EncOk.mk h7.d2.d2 HE.out HL.out rfl
set_option maxRecDepth 100000 in
set_option maxHeartbeats 2000000 in
theorem ref_EncodeFrame_6 (stream code n : Int) (addr : AdM) (data : List UInt8) (x z : Option Addr) (c k : Nat) (hm : (⟨6, stream, code, n, addr, data⟩ : FrM).may = true) (hs : Sat w0 w L) (hr0 : ∀ (W : World) (L' : List Assn), Sat w0 W (L' ++ L) → RdV W ⟨6, stream, code, n, addr, data⟩ x z c k) :
    Calls Try.prog 51 #[frV ⟨6, stream, code, n, addr, data⟩ (.slice x addr.ip.length c) (.slice z data.length k)] w (EncOk w0 L (⟨6, stream, code, n, addr, data⟩ : FrM).enc) := by
  have hM := ref_MayFrame (w := w.alloc (frO ⟨6, stream, code, n, addr, data⟩ (.slice x addr.ip.length c) (.slice z data.length k))) _ x z c k (hr0 _ [_] (hs.alloc _))
  rw [hm] at hM
  have HM := hid_ hM
  obtain ⟨_, _, b1, b2, b3, b4, b5, b6, b7, b8, _⟩ := fmay_facts hm
  have hc : 0 ≤ n ∧ n < 4294967296 := by have := b7 rfl; dsimp only at this; omega
  have HC := hid_ hc
  clear hc
  clear hm hM b3 b4 b5 b6 b7 b8
  have hs1 := hs.alloc (frO ⟨6, stream, code, n, addr, data⟩ (.slice x addr.ip.length c) (.slice z data.length k))
  unfold frV frO at *
  go_enter Try.func51, Try.ntmps51
  go_wp2_with fail
  refine HM.out.mono ?_
  rintro _ w2 ⟨rfl, hb⟩
  have h2 := hs1.under hb
  obtain ⟨g, hg⟩ : ∃ g, w.heap.size = g := ⟨_, rfl⟩
  simp only [hg] at h2
  rw [hg]
  clear hb hg HM hs1
  have c0 : w2.cell? ⟨g, 0, none⟩ = some (.int .i64 6) := h2.cell 0 rfl
  have c1 : w2.cell? ⟨g, 1, none⟩ = some (.int .i64 stream) := h2.cell 1 rfl
  have hlt : g < w2.heap.size := h2.lt
  have hne : ¬ g = w2.heap.size := by omega
  have b1' := b1
  have b2' := b2
  have wst := u64_in b1' (by omega)
  have wk : IntKind.u8.wrap 6 = 6 := by decide
  obtain ⟨pre, hpre⟩ : ∃ pre, UInt8.ofNat 6 :: beB stream.toNat 2 = pre := ⟨_, rfl⟩
  have hpl : pre.length = 3 := by rw [← hpre]; simp [beB_length]
  have HPR := hid_ (show [UInt8.ofNat 6] ++ beB stream.toNat 2 = pre from hpre)
  have HP := hid_ hpl
  clear hpl
  go_wp2_with fail
  go_cut [4] (fun v4 wx => ∃ a5 k5, v4 = .slice a5 3 k5 ∧ Sat w0 wx (OwnB 5 (.slice a5 3 k5) pre :: Blk g (.cells #[.int .i64 6, .int .i64 stream, .int .i64 code, .int .i64 n, .int .i64 addr.kind, .slice x addr.ip.length c, .string addr.name, .int .i64 addr.port, .slice z data.length k] 43 (0, 0)) :: L))
  case first =>
    have hD := h2.drew
    have hA := (h2.alloc (.cells #[.int .u8 6] 5 (0, 0))).drew
    have fD : w2.drew.cell? ⟨g, 0, none⟩ = some (.int .i64 6) ∧ w2.drew.cell? ⟨g, 1, none⟩ = some (.int .i64 stream) := ⟨hD.cell 0 rfl, hD.cell 1 rfl⟩
    have fA : (w2.alloc (.cells #[.int .u8 6] 5 (0, 0))).drew.cell? ⟨g, 0, none⟩ = some (.int .i64 6) ∧ (w2.alloc (.cells #[.int .u8 6] 5 (0, 0))).drew.cell? ⟨g, 1, none⟩ = some (.int .i64 stream) := ⟨(Sat.front [_] hA).cell 0 rfl, (Sat.front [_] hA).cell 1 rfl⟩
    have oA := OwnB.ofNew (l := [UInt8.ofNat 6]) (n := 1) hA (by simp [bytesC]) rfl (by omega)
    go_region_held3 (fun w' => w'.cell? ⟨g, 0, none⟩ = some (.int .i64 6) ∧ w'.cell? ⟨g, 1, none⟩ = some (.int .i64 stream)) (first | with_reducible exact fD | with_reducible exact fA | with_reducible exact f7 | with_reducible exact f8 | with_reducible exact f9 | with_reducible exact fB)
      (first | (go_at_call 72; refine (ref_PutHigh (N := stream.toNat) (W := 2) (by omega) rfl (by omega) oA).mono ?_; rintro _ w7 ⟨a7, k7, rfl, h7⟩; have f7 : w7.cell? ⟨g, 0, none⟩ = some (.int .i64 6) ∧ w7.cell? ⟨g, 1, none⟩ = some (.int .i64 stream) := ⟨(Sat.front [_, _] h7).cell 0 rfl, (Sat.front [_, _] h7).cell 1 rfl⟩; have r7 := OwnB.rd h7)
             | (go_at_call 72; refine (ref_PutHigh (N := stream.toNat) (W := 2) (by omega) rfl (by omega) hD).mono ?_; rintro _ w8 ⟨a8, k8, rfl, h8⟩; have f8 : w8.cell? ⟨g, 0, none⟩ = some (.int .i64 6) ∧ w8.cell? ⟨g, 1, none⟩ = some (.int .i64 stream) := ⟨(Sat.front [_] h8).cell 0 rfl, (Sat.front [_] h8).cell 1 rfl⟩; have hB := h8.alloc (.cells #[.int .u8 6] 5 (0, 0)); have fB : (w8.alloc (.cells #[.int .u8 6] 5 (0, 0))).cell? ⟨g, 0, none⟩ = some (.int .i64 6) ∧ (w8.alloc (.cells #[.int .u8 6] 5 (0, 0))).cell? ⟨g, 1, none⟩ = some (.int .i64 stream) := ⟨(Sat.front [_, _] hB).cell 0 rfl, (Sat.front [_, _] hB).cell 1 rfl⟩; have oB := OwnB.ofNew (l := [UInt8.ofNat 6]) (n := 1) hB (by simp [bytesC]) rfl (by omega); have r8 := OwnB.rd oB.swap)
             | (refine step_append_b (w0 := w0) rfl _ _ 37 rfl rfl h7.swap rfl (slSrc r7) pre 3 HPR.out HP.out (by omega) ?_; intro a9 k9 w9 h9; have f9 : w9.cell? ⟨g, 0, none⟩ = some (.int .i64 6) ∧ w9.cell? ⟨g, 1, none⟩ = some (.int .i64 stream) := ⟨(Sat.front [_, _] h9).cell 0 rfl, (Sat.front [_, _] h9).cell 1 rfl⟩)
             | (refine step_append_b (w0 := w0) rfl _ _ 37 rfl rfl oB rfl (slSrc r8) pre 3 HPR.out HP.out (by omega) ?_; intro a9 k9 w9 h9; have f9 : w9.cell? ⟨g, 0, none⟩ = some (.int .i64 6) ∧ w9.cell? ⟨g, 1, none⟩ = some (.int .i64 stream) := ⟨(Sat.front [_, _] h9).cell 0 rfl, (Sat.front [_, _] h9).cell 1 rfl⟩))
    all_goals
      go_wp2_with fail
      go_meet
      exact ⟨_, _, rfl, h9.d2⟩
  obtain ⟨a5, k5, rfl, h5⟩ := hcut
  obtain ⟨w5, hw5⟩ : ∃ w5, w5 = wc := ⟨_, rfl⟩
  subst hw5
  clear hne hlt c0 c1 h2
  have hB := Sat.front [_] h5
  have c0 : w5.cell? ⟨g, 0, none⟩ = some (.int .i64 6) := hB.cell 0 rfl
  have c2 : w5.cell? ⟨g, 2, none⟩ = some (.int .i64 code) := hB.cell 2 rfl
  have c3 : w5.cell? ⟨g, 3, none⟩ = some (.int .i64 n) := hB.cell 3 rfl
  have c4 : w5.cell? ⟨g, 4, none⟩ = some (.int .i64 addr.kind) := hB.cell 4 rfl
  have c5 : w5.cell? ⟨g, 5, none⟩ = some (.slice x addr.ip.length c) := hB.cell 5 rfl
  have c6 : w5.cell? ⟨g, 6, none⟩ = some (.string addr.name) := hB.cell 6 rfl
  have c7 : w5.cell? ⟨g, 7, none⟩ = some (.int .i64 addr.port) := hB.cell 7 rfl
  have c8 : w5.cell? ⟨g, 8, none⟩ = some (.slice z data.length k) := hB.cell 8 rfl
  have HE := hid_ (show (⟨6, stream, code, n, addr, data⟩ : FrM).enc = pre ++ beB n.toNat 4 by rw [← hpre]; simp [FrM.enc, FrM.tail])
  have HL := hid_ (show (pre ++ beB n.toNat 4).length = 7 by rw [List.length_append, HP.out, beB_length])
  have wn := u64_in (n := n) HC.out.1 (by have := HC.out; omega)
  clear hpre
  go_wp2_with fail
  refine (ref_PutHigh (N := n.toNat) (W := 4) (by have := HC.out; omega) rfl (by omega) h5).mono ?_
  rintro _ w6 ⟨a6, k6, rfl, h6⟩
  have r6 := OwnB.rd h6
  go_wp2_with (at_builtin; refine wpList_append_b (w0 := w0) rfl _ _ 37 rfl rfl h6.swap rfl (slSrc r6) _ 7 rfl HL.out (by omega) ?_)
  intro a7 k7 w7 h7
  go_wp2_with fail
  go_ret2
  exact EncOk.mk h7.d2.d2 HE.out HL.out rfl
set_option maxRecDepth 100000 in
set_option maxHeartbeats 2000000 in
theorem ref_EncodeFrame_7 (stream code n : Int) (addr : AdM) (data : List UInt8) (x z : Option Addr) (c k : Nat) (hm : (⟨7, stream, code, n, addr, data⟩ : FrM).may = true) (hs : Sat w0 w L) (hr0 : ∀ (W : World) (L' : List Assn), Sat w0 W (L' ++ L) → RdV W ⟨7, stream, code, n, addr, data⟩ x z c k) :
    Calls Try.prog 51 #[frV ⟨7, stream, code, n, addr, data⟩ (.slice x addr.ip.length c) (.slice z data.length k)] w (EncOk w0 L (⟨7, stream, code, n, addr, data⟩ : FrM).enc) := by
  have hM := ref_MayFrame (w := w.alloc (frO ⟨7, stream, code, n, addr, data⟩ (.slice x addr.ip.length c) (.slice z data.length k))) _ x z c k (hr0 _ [_] (hs.alloc _))
  rw [hm] at hM
  have HM := hid_ hM
  obtain ⟨_, _, b1, b2, b3, b4, b5, b6, b7, b8, _⟩ := fmay_facts hm
  have hc : 0 ≤ n ∧ n < 4294967296 := by have := b8 (.inl rfl); dsimp only at this; omega
  have HC := hid_ hc
  clear hc
  clear hm hM b3 b4 b5 b6 b7 b8
  have hs1 := hs.alloc (frO ⟨7, stream, code, n, addr, data⟩ (.slice x addr.ip.length c) (.slice z data.length k))
  unfold frV frO at *
  go_enter Try.func51, Try.ntmps51
  go_wp2_with fail
  refine HM.out.mono ?_
  rintro _ w2 ⟨rfl, hb⟩
  have h2 := hs1.under hb
  obtain ⟨g, hg⟩ : ∃ g, w.heap.size = g := ⟨_, rfl⟩
  simp only [hg] at h2
  rw [hg]
  clear hb hg HM hs1
  have c0 : w2.cell? ⟨g, 0, none⟩ = some (.int .i64 7) := h2.cell 0 rfl
  have c1 : w2.cell? ⟨g, 1, none⟩ = some (.int .i64 stream) := h2.cell 1 rfl
  have hlt : g < w2.heap.size := h2.lt
  have hne : ¬ g = w2.heap.size := by omega
  have b1' := b1
  have b2' := b2
  have wst := u64_in b1' (by omega)
  have wk : IntKind.u8.wrap 7 = 7 := by decide
  obtain ⟨pre, hpre⟩ : ∃ pre, UInt8.ofNat 7 :: beB stream.toNat 2 = pre := ⟨_, rfl⟩
  have hpl : pre.length = 3 := by rw [← hpre]; simp [beB_length]
  have HPR := hid_ (show [UInt8.ofNat 7] ++ beB stream.toNat 2 = pre from hpre)
  have HP := hid_ hpl
  clear hpl
  go_wp2_with fail
  go_cut [4] (fun v4 wx => ∃ a5 k5, v4 = .slice a5 3 k5 ∧ Sat w0 wx (OwnB 5 (.slice a5 3 k5) pre :: Blk g (.cells #[.int .i64 7, .int .i64 stream, .int .i64 code, .int .i64 n, .int .i64 addr.kind, .slice x addr.ip.length c, .string addr.name, .int .i64 addr.port, .slice z data.length k] 43 (0, 0)) :: L))
  case first =>
    have hD := h2.drew
    have hA := (h2.alloc (.cells #[.int .u8 7] 5 (0, 0))).drew
    have fD : w2.drew.cell? ⟨g, 0, none⟩ = some (.int .i64 7) ∧ w2.drew.cell? ⟨g, 1, none⟩ = some (.int .i64 stream) := ⟨hD.cell 0 rfl, hD.cell 1 rfl⟩
    have fA : (w2.alloc (.cells #[.int .u8 7] 5 (0, 0))).drew.cell? ⟨g, 0, none⟩ = some (.int .i64 7) ∧ (w2.alloc (.cells #[.int .u8 7] 5 (0, 0))).drew.cell? ⟨g, 1, none⟩ = some (.int .i64 stream) := ⟨(Sat.front [_] hA).cell 0 rfl, (Sat.front [_] hA).cell 1 rfl⟩
    have oA := OwnB.ofNew (l := [UInt8.ofNat 7]) (n := 1) hA (by simp [bytesC]) rfl (by omega)
    go_region_held3 (fun w' => w'.cell? ⟨g, 0, none⟩ = some (.int .i64 7) ∧ w'.cell? ⟨g, 1, none⟩ = some (.int .i64 stream)) (first | with_reducible exact fD | with_reducible exact fA | with_reducible exact f7 | with_reducible exact f8 | with_reducible exact f9 | with_reducible exact fB)
      (first | (go_at_call 72; refine (ref_PutHigh (N := stream.toNat) (W := 2) (by omega) rfl (by omega) oA).mono ?_; rintro _ w7 ⟨a7, k7, rfl, h7⟩; have f7 : w7.cell? ⟨g, 0, none⟩ = some (.int .i64 7) ∧ w7.cell? ⟨g, 1, none⟩ = some (.int .i64 stream) := ⟨(Sat.front [_, _] h7).cell 0 rfl, (Sat.front [_, _] h7).cell 1 rfl⟩; have r7 := OwnB.rd h7)
             | (go_at_call 72; refine (ref_PutHigh (N := stream.toNat) (W := 2) (by omega) rfl (by omega) hD).mono ?_; rintro _ w8 ⟨a8, k8, rfl, h8⟩; have f8 : w8.cell? ⟨g, 0, none⟩ = some (.int .i64 7) ∧ w8.cell? ⟨g, 1, none⟩ = some (.int .i64 stream) := ⟨(Sat.front [_] h8).cell 0 rfl, (Sat.front [_] h8).cell 1 rfl⟩; have hB := h8.alloc (.cells #[.int .u8 7] 5 (0, 0)); have fB : (w8.alloc (.cells #[.int .u8 7] 5 (0, 0))).cell? ⟨g, 0, none⟩ = some (.int .i64 7) ∧ (w8.alloc (.cells #[.int .u8 7] 5 (0, 0))).cell? ⟨g, 1, none⟩ = some (.int .i64 stream) := ⟨(Sat.front [_, _] hB).cell 0 rfl, (Sat.front [_, _] hB).cell 1 rfl⟩; have oB := OwnB.ofNew (l := [UInt8.ofNat 7]) (n := 1) hB (by simp [bytesC]) rfl (by omega); have r8 := OwnB.rd oB.swap)
             | (refine step_append_b (w0 := w0) rfl _ _ 37 rfl rfl h7.swap rfl (slSrc r7) pre 3 HPR.out HP.out (by omega) ?_; intro a9 k9 w9 h9; have f9 : w9.cell? ⟨g, 0, none⟩ = some (.int .i64 7) ∧ w9.cell? ⟨g, 1, none⟩ = some (.int .i64 stream) := ⟨(Sat.front [_, _] h9).cell 0 rfl, (Sat.front [_, _] h9).cell 1 rfl⟩)
             | (refine step_append_b (w0 := w0) rfl _ _ 37 rfl rfl oB rfl (slSrc r8) pre 3 HPR.out HP.out (by omega) ?_; intro a9 k9 w9 h9; have f9 : w9.cell? ⟨g, 0, none⟩ = some (.int .i64 7) ∧ w9.cell? ⟨g, 1, none⟩ = some (.int .i64 stream) := ⟨(Sat.front [_, _] h9).cell 0 rfl, (Sat.front [_, _] h9).cell 1 rfl⟩))
    all_goals
      go_wp2_with fail
      go_meet
      exact ⟨_, _, rfl, h9.d2⟩
  obtain ⟨a5, k5, rfl, h5⟩ := hcut
  obtain ⟨w5, hw5⟩ : ∃ w5, w5 = wc := ⟨_, rfl⟩
  subst hw5
  clear hne hlt c0 c1 h2
  have hB := Sat.front [_] h5
  have c0 : w5.cell? ⟨g, 0, none⟩ = some (.int .i64 7) := hB.cell 0 rfl
  have c2 : w5.cell? ⟨g, 2, none⟩ = some (.int .i64 code) := hB.cell 2 rfl
  have c3 : w5.cell? ⟨g, 3, none⟩ = some (.int .i64 n) := hB.cell 3 rfl
  have c4 : w5.cell? ⟨g, 4, none⟩ = some (.int .i64 addr.kind) := hB.cell 4 rfl
  have c5 : w5.cell? ⟨g, 5, none⟩ = some (.slice x addr.ip.length c) := hB.cell 5 rfl
  have c6 : w5.cell? ⟨g, 6, none⟩ = some (.string addr.name) := hB.cell 6 rfl
  have c7 : w5.cell? ⟨g, 7, none⟩ = some (.int .i64 addr.port) := hB.cell 7 rfl
  have c8 : w5.cell? ⟨g, 8, none⟩ = some (.slice z data.length k) := hB.cell 8 rfl
  have HE := hid_ (show (⟨7, stream, code, n, addr, data⟩ : FrM).enc = pre ++ beB n.toNat 4 by rw [← hpre]; simp [FrM.enc, FrM.tail])
  have HL := hid_ (show (pre ++ beB n.toNat 4).length = 7 by rw [List.length_append, HP.out, beB_length])
  have wn := u64_in (n := n) HC.out.1 (by have := HC.out; omega)
  clear hpre
  go_wp2_with fail
  refine (ref_PutHigh (N := n.toNat) (W := 4) (by have := HC.out; omega) rfl (by omega) h5).mono ?_
  rintro _ w6 ⟨a6, k6, rfl, h6⟩
  have r6 := OwnB.rd h6
  go_wp2_with (at_builtin; refine wpList_append_b (w0 := w0) rfl _ _ 37 rfl rfl h6.swap rfl (slSrc r6) _ 7 rfl HL.out (by omega) ?_)
  intro a7 k7 w7 h7
  go_wp2_with fail
  go_ret2
  exact EncOk.mk h7.d2.d2 HE.out HL.out rfl
set_option maxRecDepth 100000 in
set_option maxHeartbeats 2000000 in
theorem ref_EncodeFrame_8 (stream code n : Int) (addr : AdM) (data : List UInt8) (x z : Option Addr) (c k : Nat) (hm : (⟨8, stream, code, n, addr, data⟩ : FrM).may = true) (hs : Sat w0 w L) (hr0 : ∀ (W : World) (L' : List Assn), Sat w0 W (L' ++ L) → RdV W ⟨8, stream, code, n, addr, data⟩ x z c k) :
    Calls Try.prog 51 #[frV ⟨8, stream, code, n, addr, data⟩ (.slice x addr.ip.length c) (.slice z data.length k)] w (EncOk w0 L (⟨8, stream, code, n, addr, data⟩ : FrM).enc) := by
  have hM := ref_MayFrame (w := w.alloc (frO ⟨8, stream, code, n, addr, data⟩ (.slice x addr.ip.length c) (.slice z data.length k))) _ x z c k (hr0 _ [_] (hs.alloc _))
  rw [hm] at hM
  have HM := hid_ hM
  obtain ⟨_, _, b1, b2, b3, b4, b5, b6, b7, b8, _⟩ := fmay_facts hm
  have hc : 0 ≤ n ∧ n < 4294967296 := by have := b8 (.inr rfl); dsimp only at this; omega
  have HC := hid_ hc
  clear hc
  clear hm hM b3 b4 b5 b6 b7 b8
  have hs1 := hs.alloc (frO ⟨8, stream, code, n, addr, data⟩ (.slice x addr.ip.length c) (.slice z data.length k))
  unfold frV frO at *
  go_enter Try.func51, Try.ntmps51
  go_wp2_with fail
  refine HM.out.mono ?_
  rintro _ w2 ⟨rfl, hb⟩
  have h2 := hs1.under hb
  obtain ⟨g, hg⟩ : ∃ g, w.heap.size = g := ⟨_, rfl⟩
  simp only [hg] at h2
  rw [hg]
  clear hb hg HM hs1
  have c0 : w2.cell? ⟨g, 0, none⟩ = some (.int .i64 8) := h2.cell 0 rfl
  have c1 : w2.cell? ⟨g, 1, none⟩ = some (.int .i64 stream) := h2.cell 1 rfl
  have hlt : g < w2.heap.size := h2.lt
  have hne : ¬ g = w2.heap.size := by omega
  have b1' := b1
  have b2' := b2
  have wst := u64_in b1' (by omega)
  have wk : IntKind.u8.wrap 8 = 8 := by decide
  obtain ⟨pre, hpre⟩ : ∃ pre, UInt8.ofNat 8 :: beB stream.toNat 2 = pre := ⟨_, rfl⟩
  have hpl : pre.length = 3 := by rw [← hpre]; simp [beB_length]
  have HPR := hid_ (show [UInt8.ofNat 8] ++ beB stream.toNat 2 = pre from hpre)
  have HP := hid_ hpl
  clear hpl
  go_wp2_with fail
  go_cut [4] (fun v4 wx => ∃ a5 k5, v4 = .slice a5 3 k5 ∧ Sat w0 wx (OwnB 5 (.slice a5 3 k5) pre :: Blk g (.cells #[.int .i64 8, .int .i64 stream, .int .i64 code, .int .i64 n, .int .i64 addr.kind, .slice x addr.ip.length c, .string addr.name, .int .i64 addr.port, .slice z data.length k] 43 (0, 0)) :: L))
  case first =>
    have hD := h2.drew
    have hA := (h2.alloc (.cells #[.int .u8 8] 5 (0, 0))).drew
    have fD : w2.drew.cell? ⟨g, 0, none⟩ = some (.int .i64 8) ∧ w2.drew.cell? ⟨g, 1, none⟩ = some (.int .i64 stream) := ⟨hD.cell 0 rfl, hD.cell 1 rfl⟩
    have fA : (w2.alloc (.cells #[.int .u8 8] 5 (0, 0))).drew.cell? ⟨g, 0, none⟩ = some (.int .i64 8) ∧ (w2.alloc (.cells #[.int .u8 8] 5 (0, 0))).drew.cell? ⟨g, 1, none⟩ = some (.int .i64 stream) := ⟨(Sat.front [_] hA).cell 0 rfl, (Sat.front [_] hA).cell 1 rfl⟩
    have oA := OwnB.ofNew (l := [UInt8.ofNat 8]) (n := 1) hA (by simp [bytesC]) rfl (by omega)
    go_region_held3 (fun w' => w'.cell? ⟨g, 0, none⟩ = some (.int .i64 8) ∧ w'.cell? ⟨g, 1, none⟩ = some (.int .i64 stream)) (first | with_reducible exact fD | with_reducible exact fA | with_reducible exact f7 | with_reducible exact f8 | with_reducible exact f9 | with_reducible exact fB)
      (first | (go_at_call 72; refine (ref_PutHigh (N := stream.toNat) (W := 2) (by omega) rfl (by omega) oA).mono ?_; rintro _ w7 ⟨a7, k7, rfl, h7⟩; have f7 : w7.cell? ⟨g, 0, none⟩ = some (.int .i64 8) ∧ w7.cell? ⟨g, 1, none⟩ = some (.int .i64 stream) := ⟨(Sat.front [_, _] h7).cell 0 rfl, (Sat.front [_, _] h7).cell 1 rfl⟩; have r7 := OwnB.rd h7)
             | (go_at_call 72; refine (ref_PutHigh (N := stream.toNat) (W := 2) (by omega) rfl (by omega) hD).mono ?_; rintro _ w8 ⟨a8, k8, rfl, h8⟩; have f8 : w8.cell? ⟨g, 0, none⟩ = some (.int .i64 8) ∧ w8.cell? ⟨g, 1, none⟩ = some (.int .i64 stream) := ⟨(Sat.front [_] h8).cell 0 rfl, (Sat.front [_] h8).cell 1 rfl⟩; have hB := h8.alloc (.cells #[.int .u8 8] 5 (0, 0)); have fB : (w8.alloc (.cells #[.int .u8 8] 5 (0, 0))).cell? ⟨g, 0, none⟩ = some (.int .i64 8) ∧ (w8.alloc (.cells #[.int .u8 8] 5 (0, 0))).cell? ⟨g, 1, none⟩ = some (.int .i64 stream) := ⟨(Sat.front [_, _] hB).cell 0 rfl, (Sat.front [_, _] hB).cell 1 rfl⟩; have oB := OwnB.ofNew (l := [UInt8.ofNat 8]) (n := 1) hB (by simp [bytesC]) rfl (by omega); have r8 := OwnB.rd oB.swap)
             | (refine step_append_b (w0 := w0) rfl _ _ 37 rfl rfl h7.swap rfl (slSrc r7) pre 3 HPR.out HP.out (by omega) ?_; intro a9 k9 w9 h9; have f9 : w9.cell? ⟨g, 0, none⟩ = some (.int .i64 8) ∧ w9.cell? ⟨g, 1, none⟩ = some (.int .i64 stream) := ⟨(Sat.front [_, _] h9).cell 0 rfl, (Sat.front [_, _] h9).cell 1 rfl⟩)
             | (refine step_append_b (w0 := w0) rfl _ _ 37 rfl rfl oB rfl (slSrc r8) pre 3 HPR.out HP.out (by omega) ?_; intro a9 k9 w9 h9; have f9 : w9.cell? ⟨g, 0, none⟩ = some (.int .i64 8) ∧ w9.cell? ⟨g, 1, none⟩ = some (.int .i64 stream) := ⟨(Sat.front [_, _] h9).cell 0 rfl, (Sat.front [_, _] h9).cell 1 rfl⟩))
    all_goals
      go_wp2_with fail
      go_meet
      exact ⟨_, _, rfl, h9.d2⟩
  obtain ⟨a5, k5, rfl, h5⟩ := hcut
  obtain ⟨w5, hw5⟩ : ∃ w5, w5 = wc := ⟨_, rfl⟩
  subst hw5
  clear hne hlt c0 c1 h2
  have hB := Sat.front [_] h5
  have c0 : w5.cell? ⟨g, 0, none⟩ = some (.int .i64 8) := hB.cell 0 rfl
  have c2 : w5.cell? ⟨g, 2, none⟩ = some (.int .i64 code) := hB.cell 2 rfl
  have c3 : w5.cell? ⟨g, 3, none⟩ = some (.int .i64 n) := hB.cell 3 rfl
  have c4 : w5.cell? ⟨g, 4, none⟩ = some (.int .i64 addr.kind) := hB.cell 4 rfl
  have c5 : w5.cell? ⟨g, 5, none⟩ = some (.slice x addr.ip.length c) := hB.cell 5 rfl
  have c6 : w5.cell? ⟨g, 6, none⟩ = some (.string addr.name) := hB.cell 6 rfl
  have c7 : w5.cell? ⟨g, 7, none⟩ = some (.int .i64 addr.port) := hB.cell 7 rfl
  have c8 : w5.cell? ⟨g, 8, none⟩ = some (.slice z data.length k) := hB.cell 8 rfl
  have HE := hid_ (show (⟨8, stream, code, n, addr, data⟩ : FrM).enc = pre ++ beB n.toNat 4 by rw [← hpre]; simp [FrM.enc, FrM.tail])
  have HL := hid_ (show (pre ++ beB n.toNat 4).length = 7 by rw [List.length_append, HP.out, beB_length])
  have wn := u64_in (n := n) HC.out.1 (by have := HC.out; omega)
  clear hpre
  go_wp2_with fail
  refine (ref_PutHigh (N := n.toNat) (W := 4) (by have := HC.out; omega) rfl (by omega) h5).mono ?_
  rintro _ w6 ⟨a6, k6, rfl, h6⟩
  have r6 := OwnB.rd h6
  go_wp2_with (at_builtin; refine wpList_append_b (w0 := w0) rfl _ _ 37 rfl rfl h6.swap rfl (slSrc r6) _ 7 rfl HL.out (by omega) ?_)
  intro a7 k7 w7 h7
  go_wp2_with fail
  go_ret2
  exact EncOk.mk h7.d2.d2 HE.out HL.out rfl
theorem ref_EncodeFrame_yes (f : FrM) (x z : Option Addr) (c k : Nat) (hm : f.may = true) (hs : Sat w0 w L) (hr0 : ∀ (W : World) (L' : List Assn), Sat w0 W (L' ++ L) → RdV W f x z c k) :
    Calls Try.prog 51 #[frV f (.slice x f.addr.ip.length c) (.slice z f.data.length k)] w (EncOk w0 L f.enc) := by
  have h := fmay_facts hm
  obtain ⟨kind, stream, code, n, addr, data⟩ := f
  have h' : kind = 1 ∨ kind = 2 ∨ kind = 3 ∨ kind = 4 ∨ kind = 5 ∨ kind = 6 ∨ kind = 7 ∨ kind = 8 := by have h1 := h.1; have h2 := h.2.1; simp only at h1 h2; omega
  rcases h' with rfl | rfl | rfl | rfl | rfl | rfl | rfl | rfl
  · exact ref_EncodeFrame_1 _ _ _ _ _ x z c k hm hs hr0
  · exact ref_EncodeFrame_2 _ _ _ _ _ x z c k hm hs hr0
  · exact ref_EncodeFrame_3 _ _ _ _ _ x z c k hm hs hr0
  · exact ref_EncodeFrame_4 _ _ _ _ _ x z c k hm hs hr0
  · exact ref_EncodeFrame_5 _ _ _ _ _ x z c k hm hs hr0
  · exact ref_EncodeFrame_6 _ _ _ _ _ x z c k hm hs hr0
  · exact ref_EncodeFrame_7 _ _ _ _ _ x z c k hm hs hr0
  · exact ref_EncodeFrame_8 _ _ _ _ _ x z c k hm hs hr0
end
end Go.Proofs.Ytkejadhkebjdcaa
