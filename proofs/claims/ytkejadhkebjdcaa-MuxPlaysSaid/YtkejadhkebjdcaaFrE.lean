/- frame.Encode, walked. -/
import Derived.Deep.DeepCutAuto
import Derived.Test.YtkejadhkebjdcaaFrP
import Derived.Test.YtkejadhkebjdcaaAdF
import Derived.Test.YtkejadhkebjdcaaMayW
namespace Go.Proofs.Ytkejadhkebjdcaa
open Go Go.RowKit
set_option linter.unusedVariables false
set_option linter.unusedSimpArgs false

/-- What a frame has behind its kind and its stream. -/
def FrM.tail (f : FrM) : List UInt8 :=
  if f.kind = 1 then f.addr.enc else if f.kind = 2 ∨ f.kind = 5 then beB f.code.toNat 1 else if f.kind = 3 then beB f.data.length 2 ++ f.data else if f.kind = 6 ∨ f.kind = 7 ∨ f.kind = 8 then beB f.n.toNat 4 else []
/-- A frame's bytes. -/
def FrM.enc (f : FrM) : List UInt8 := (UInt8.ofNat f.kind.toNat :: beB f.stream.toNat 2) ++ f.tail

theorem fmay_facts {f : FrM} (h : f.may = true) : 1 ≤ f.kind ∧ f.kind ≤ 8 ∧ 0 ≤ f.stream ∧ f.stream ≤ 65535 ∧ (f.kind = 1 → f.addr.may = true) ∧ (f.kind = 2 → 0 ≤ f.code ∧ f.code ≤ 8) ∧ (f.kind = 5 → 0 ≤ f.code ∧ f.code ≤ 255) ∧ (f.kind = 3 → 1 ≤ f.data.length ∧ f.data.length ≤ 4000) ∧ (f.kind = 6 → 1 ≤ f.n ∧ f.n ≤ 65536) ∧ (f.kind = 7 ∨ f.kind = 8 → f.stream = 0 ∧ 0 ≤ f.n ∧ f.n ≤ 4294967295) ∧ (f.kind ≠ 7 → f.kind ≠ 8 → 1 ≤ f.stream) := by
  unfold FrM.may at h
  rw [Bool.and_eq_true] at h
  have h := h.1
  unfold FrM.okB inB at h
  by_cases h1 : f.kind = 1
  · simp [h1] at h ⊢; refine ⟨?_, ?_, h.2, ?_⟩ <;> omega
  rw [if_neg h1] at h
  by_cases h2 : f.kind = 2
  · simp [h2] at h ⊢; omega
  rw [if_neg h2] at h
  by_cases h5 : f.kind = 5
  · simp [h5] at h ⊢; omega
  rw [if_neg h5] at h
  by_cases h3 : f.kind = 3
  · simp [h3] at h ⊢; omega
  rw [if_neg h3] at h
  by_cases h6 : f.kind = 6
  · simp [h6] at h ⊢; omega
  rw [if_neg h6] at h
  by_cases h7 : f.kind = 7 ∨ f.kind = 8
  · rw [if_pos h7] at h
    simp at h
    refine ⟨by omega, by omega, by omega, by omega, by omega, by omega, by omega, by omega, by omega, by omega, by omega⟩
  rw [if_neg h7] at h
  by_cases h4 : f.kind = 4
  · simp [h4] at h ⊢; omega
  rw [if_neg h4] at h
  simp at h

/-- A frame as its cells, at a place. -/
def frO (f : FrM) (ip d : Value) : Obj := .cells #[.int .i64 f.kind, .int .i64 f.stream, .int .i64 f.code, .int .i64 f.n, .int .i64 f.addr.kind, ip, .string f.addr.name, .int .i64 f.addr.port, d] 43 (0, 0)

section
variable {w0 w : World} {L : List Assn}
set_option maxRecDepth 100000 in
set_option maxHeartbeats 1000000 in
theorem frame_Encode_no (f : FrM) (x z : Option Addr) (c k : Nat) (hm : f.may = false) (hr : RdV w f x z c k) (hs : Sat w0 w L) :
    Calls Try.prog 41 #[frV f (.slice x f.addr.ip.length c) (.slice z f.data.length k)] w fun e w' => e = .returned (.tuple #[.slice none 0 0, .int .i64 1]) ∧ Sat w0 w' L := by
  have hM := frame_May (w := w.alloc (frO f (.slice x f.addr.ip.length c) (.slice z f.data.length k))) f x z c k (hr.mono ((Below.refl _ _).alloc (Nat.le_refl _) _))
  rw [hm] at hM
  have HM := hid_ hM
  clear hm hM
  unfold frV frO at *
  go_enter Try.func41, Try.ntmps41
  go_wp2_with fail
  refine HM.out.mono ?_
  rintro _ w2 ⟨rfl, hb⟩
  go_wp2
  go_ret2
  exact ⟨rfl, (hs.alloc_ _).under hb⟩
/-! ### The eight kinds (printed by gen_fre.py) -/
/-- Bytes that an encoder answers. -/
def EncOk (w0 : World) (L : List Assn) (b : List UInt8) (e : Ending) (w' : World) : Prop :=
  ∃ a k, e = .returned (.tuple #[.slice a b.length k, .int .i64 0]) ∧ Sat w0 w' (OwnB 5 (.slice a b.length k) b :: L)
theorem EncOk.mk {b b' : List UInt8} {n k : Nat} {a : Option Addr} {e : Ending} {w' : World} (h : Sat w0 w' (OwnB 5 (.slice a n k) b :: L)) (hb : b' = b) (hn : b.length = n) (he : e = .returned (.tuple #[.slice a n k, .int .i64 0])) : EncOk w0 L b' e w' := by
  subst hb hn he
  exact ⟨a, k, rfl, h⟩
set_option maxRecDepth 100000 in
set_option maxHeartbeats 2000000 in
theorem frame_Encode_1 (stream code n : Int) (addr : AdM) (data : List UInt8) (x z : Option Addr) (c k : Nat) (hm : (⟨1, stream, code, n, addr, data⟩ : FrM).may = true) (hs : Sat w0 w L) (hr0 : ∀ (W : World) (L' : List Assn), Sat w0 W (L' ++ L) → RdV W ⟨1, stream, code, n, addr, data⟩ x z c k) :
    Calls Try.prog 41 #[frV ⟨1, stream, code, n, addr, data⟩ (.slice x addr.ip.length c) (.slice z data.length k)] w (EncOk w0 L (⟨1, stream, code, n, addr, data⟩ : FrM).enc) := by
  have hM := frame_May (w := w.alloc (frO ⟨1, stream, code, n, addr, data⟩ (.slice x addr.ip.length c) (.slice z data.length k))) _ x z c k (hr0 _ [_] (hs.alloc _))
  rw [hm] at hM
  have HM := hid_ hM
  obtain ⟨_, _, b1, b2, b3, b4, b5, b6, b7, b8, _⟩ := fmay_facts hm
  have hc := b3 rfl
  have HC := hid_ hc
  clear hc
  clear hm hM b3 b4 b5 b6 b7 b8
  have hs1 := hs.alloc (frO ⟨1, stream, code, n, addr, data⟩ (.slice x addr.ip.length c) (.slice z data.length k))
  have hE := hid_ (show (⟨1, stream, code, n, addr, data⟩ : FrM).enc = _ from rfl)
  unfold frV frO at *
  go_enter Try.func41, Try.ntmps41
  go_wp2_with fail
  refine HM.out.mono ?_
  rintro _ w2 ⟨rfl, hb⟩
  have h2 := hs1.under hb
  obtain ⟨g, hg⟩ : ∃ g, w.heap.size = g := ⟨_, rfl⟩
  simp only [hg] at h2
  rw [hg]
  clear hb hg HM hs1
  have c0 : w2.cell? ⟨g, 0, none⟩ = some (.int .i64 1) := h2.cell 0 rfl
  have c1 : w2.cell? ⟨g, 1, none⟩ = some (.int .i64 stream) := h2.cell 1 rfl
  have hlt : g < w2.heap.size := h2.lt
  have hne : ¬ g = w2.heap.size := by omega
  have h3 := h2.alloc (.cells #[.int .u8 1] 5 (0, 0))
  have h4 := OwnB.ofNew (l := [UInt8.ofNat 1]) (n := 1) h3 (by simp [bytesC]) rfl (by omega)
  have b1' := b1
  have b2' := b2
  go_wp2_with fail
  refine (frame_putN (W := 2) (l := 1) (m := 3) b1' (by omega) (by omega) rfl (by omega) rfl rfl rfl h4).mono ?_
  rintro _ w5 ⟨a5, k5, rfl, h5⟩
  replace h5 : Sat w0 w5 (OwnB 5 (.slice a5 3 k5) (UInt8.ofNat 1 :: beB stream.toNat 2) :: Blk g _ :: L) := h5
  clear h4 h3 hne hlt c0 c1 h2
  obtain ⟨pre, hpre⟩ : ∃ pre, UInt8.ofNat 1 :: beB stream.toNat 2 = pre := ⟨_, rfl⟩
  have hpl : pre.length = 3 := by rw [← hpre]; simp [beB_length]
  have HP := hid_ hpl
  rw [hpre] at h5
  have hB := Sat.front [_] h5
  have c0 : w5.cell? ⟨g, 0, none⟩ = some (.int .i64 1) := hB.cell 0 rfl
  have c2 : w5.cell? ⟨g, 2, none⟩ = some (.int .i64 code) := hB.cell 2 rfl
  have c3 : w5.cell? ⟨g, 3, none⟩ = some (.int .i64 n) := hB.cell 3 rfl
  have c4 : w5.cell? ⟨g, 4, none⟩ = some (.int .i64 addr.kind) := hB.cell 4 rfl
  have c5 : w5.cell? ⟨g, 5, none⟩ = some (.slice x addr.ip.length c) := hB.cell 5 rfl
  have c6 : w5.cell? ⟨g, 6, none⟩ = some (.string addr.name) := hB.cell 6 rfl
  have c7 : w5.cell? ⟨g, 7, none⟩ = some (.int .i64 addr.port) := hB.cell 7 rfl
  have c8 : w5.cell? ⟨g, 8, none⟩ = some (.slice z data.length k) := hB.cell 8 rfl
  have HE := hid_ (show (⟨1, stream, code, n, addr, data⟩ : FrM).enc = pre ++ addr.enc by rw [← hpre]; rfl)
  have hal := enc_four addr HC.out
  have HL := hid_ (show (pre ++ addr.enc).length = 3 + addr.enc.length by rw [List.length_append, HP.out])
  clear hpl hpre hE
  go_wp2_with fail
  refine (addr_Encode_yes addr x c HC.out h5 (fun W L' h => (hr0 W (L' ++ [_, _]) (by rw [List.append_assoc]; exact h)).ip)).mono ?_
  rintro _ w6 ⟨a6, k6, rfl, h6⟩
  go_wp2_with (at_builtin; refine wpList_append_b (w0 := w0) rfl _ _ 37 rfl rfl (Sat.front [_] h6) rfl (slSrc (OwnB.rd h6)) _ (3 + addr.enc.length) rfl HL.out (by omega) ?_)
  intro a7 k7 w7 h7
  go_wp2_with fail
  go_ret2
  exact EncOk.mk h7.d2.d2 HE.out HL.out rfl
set_option maxRecDepth 100000 in
set_option maxHeartbeats 2000000 in
theorem frame_Encode_2 (stream code n : Int) (addr : AdM) (data : List UInt8) (x z : Option Addr) (c k : Nat) (hm : (⟨2, stream, code, n, addr, data⟩ : FrM).may = true) (hs : Sat w0 w L) (hr0 : ∀ (W : World) (L' : List Assn), Sat w0 W (L' ++ L) → RdV W ⟨2, stream, code, n, addr, data⟩ x z c k) :
    Calls Try.prog 41 #[frV ⟨2, stream, code, n, addr, data⟩ (.slice x addr.ip.length c) (.slice z data.length k)] w (EncOk w0 L (⟨2, stream, code, n, addr, data⟩ : FrM).enc) := by
  have hM := frame_May (w := w.alloc (frO ⟨2, stream, code, n, addr, data⟩ (.slice x addr.ip.length c) (.slice z data.length k))) _ x z c k (hr0 _ [_] (hs.alloc _))
  rw [hm] at hM
  have HM := hid_ hM
  obtain ⟨_, _, b1, b2, b3, b4, b5, b6, b7, b8, _⟩ := fmay_facts hm
  have hc := b4 rfl
  have HC := hid_ hc
  clear hc
  clear hm hM b3 b4 b5 b6 b7 b8
  have hs1 := hs.alloc (frO ⟨2, stream, code, n, addr, data⟩ (.slice x addr.ip.length c) (.slice z data.length k))
  have hE := hid_ (show (⟨2, stream, code, n, addr, data⟩ : FrM).enc = _ from rfl)
  unfold frV frO at *
  go_enter Try.func41, Try.ntmps41
  go_wp2_with fail
  refine HM.out.mono ?_
  rintro _ w2 ⟨rfl, hb⟩
  have h2 := hs1.under hb
  obtain ⟨g, hg⟩ : ∃ g, w.heap.size = g := ⟨_, rfl⟩
  simp only [hg] at h2
  rw [hg]
  clear hb hg HM hs1
  have c0 : w2.cell? ⟨g, 0, none⟩ = some (.int .i64 2) := h2.cell 0 rfl
  have c1 : w2.cell? ⟨g, 1, none⟩ = some (.int .i64 stream) := h2.cell 1 rfl
  have hlt : g < w2.heap.size := h2.lt
  have hne : ¬ g = w2.heap.size := by omega
  have h3 := h2.alloc (.cells #[.int .u8 2] 5 (0, 0))
  have h4 := OwnB.ofNew (l := [UInt8.ofNat 2]) (n := 1) h3 (by simp [bytesC]) rfl (by omega)
  have b1' := b1
  have b2' := b2
  go_wp2_with fail
  refine (frame_putN (W := 2) (l := 1) (m := 3) b1' (by omega) (by omega) rfl (by omega) rfl rfl rfl h4).mono ?_
  rintro _ w5 ⟨a5, k5, rfl, h5⟩
  replace h5 : Sat w0 w5 (OwnB 5 (.slice a5 3 k5) (UInt8.ofNat 2 :: beB stream.toNat 2) :: Blk g _ :: L) := h5
  clear h4 h3 hne hlt c0 c1 h2
  obtain ⟨pre, hpre⟩ : ∃ pre, UInt8.ofNat 2 :: beB stream.toNat 2 = pre := ⟨_, rfl⟩
  have hpl : pre.length = 3 := by rw [← hpre]; simp [beB_length]
  have HP := hid_ hpl
  rw [hpre] at h5
  have hB := Sat.front [_] h5
  have c0 : w5.cell? ⟨g, 0, none⟩ = some (.int .i64 2) := hB.cell 0 rfl
  have c2 : w5.cell? ⟨g, 2, none⟩ = some (.int .i64 code) := hB.cell 2 rfl
  have c3 : w5.cell? ⟨g, 3, none⟩ = some (.int .i64 n) := hB.cell 3 rfl
  have c4 : w5.cell? ⟨g, 4, none⟩ = some (.int .i64 addr.kind) := hB.cell 4 rfl
  have c5 : w5.cell? ⟨g, 5, none⟩ = some (.slice x addr.ip.length c) := hB.cell 5 rfl
  have c6 : w5.cell? ⟨g, 6, none⟩ = some (.string addr.name) := hB.cell 6 rfl
  have c7 : w5.cell? ⟨g, 7, none⟩ = some (.int .i64 addr.port) := hB.cell 7 rfl
  have c8 : w5.cell? ⟨g, 8, none⟩ = some (.slice z data.length k) := hB.cell 8 rfl
  have HE := hid_ (show (⟨2, stream, code, n, addr, data⟩ : FrM).enc = pre ++ beB code.toNat 1 by rw [← hpre]; rfl)
  have HL := hid_ (show (pre ++ beB code.toNat 1).length = 4 by rw [List.length_append, HP.out, beB_length])
  clear hpl hpre hE
  go_wp2_with fail
  refine (frame_putN (W := 1) (l := 3) (m := 4) HC.out.1 (by have := HC.out; omega) (by omega) rfl (by omega) HP.out rfl rfl h5).mono ?_
  rintro _ w6 ⟨a6, k6, rfl, h6⟩
  go_wp2_with fail
  go_ret2
  exact EncOk.mk h6.d2 HE.out HL.out rfl
set_option maxRecDepth 100000 in
set_option maxHeartbeats 2000000 in
theorem frame_Encode_3 (stream code n : Int) (addr : AdM) (data : List UInt8) (x z : Option Addr) (c k : Nat) (hm : (⟨3, stream, code, n, addr, data⟩ : FrM).may = true) (hs : Sat w0 w L) (hr0 : ∀ (W : World) (L' : List Assn), Sat w0 W (L' ++ L) → RdV W ⟨3, stream, code, n, addr, data⟩ x z c k) :
    Calls Try.prog 41 #[frV ⟨3, stream, code, n, addr, data⟩ (.slice x addr.ip.length c) (.slice z data.length k)] w (EncOk w0 L (⟨3, stream, code, n, addr, data⟩ : FrM).enc) := by
  have hM := frame_May (w := w.alloc (frO ⟨3, stream, code, n, addr, data⟩ (.slice x addr.ip.length c) (.slice z data.length k))) _ x z c k (hr0 _ [_] (hs.alloc _))
  rw [hm] at hM
  have HM := hid_ hM
  obtain ⟨_, _, b1, b2, b3, b4, b5, b6, b7, b8, _⟩ := fmay_facts hm
  have hc := b6 rfl
  clear hm hM b3 b4 b5 b6 b7 b8
  have hs1 := hs.alloc (frO ⟨3, stream, code, n, addr, data⟩ (.slice x addr.ip.length c) (.slice z data.length k))
  have hE := hid_ (show (⟨3, stream, code, n, addr, data⟩ : FrM).enc = _ from rfl)
  unfold frV frO at *
  go_enter Try.func41, Try.ntmps41
  go_wp2_with fail
  refine HM.out.mono ?_
  rintro _ w2 ⟨rfl, hb⟩
  have h2 := hs1.under hb
  obtain ⟨g, hg⟩ : ∃ g, w.heap.size = g := ⟨_, rfl⟩
  simp only [hg] at h2
  rw [hg]
  clear hb hg HM hs1
  have c0 : w2.cell? ⟨g, 0, none⟩ = some (.int .i64 3) := h2.cell 0 rfl
  have c1 : w2.cell? ⟨g, 1, none⟩ = some (.int .i64 stream) := h2.cell 1 rfl
  have hlt : g < w2.heap.size := h2.lt
  have hne : ¬ g = w2.heap.size := by omega
  have h3 := h2.alloc (.cells #[.int .u8 3] 5 (0, 0))
  have h4 := OwnB.ofNew (l := [UInt8.ofNat 3]) (n := 1) h3 (by simp [bytesC]) rfl (by omega)
  have b1' := b1
  have b2' := b2
  go_wp2_with fail
  refine (frame_putN (W := 2) (l := 1) (m := 3) b1' (by omega) (by omega) rfl (by omega) rfl rfl rfl h4).mono ?_
  rintro _ w5 ⟨a5, k5, rfl, h5⟩
  replace h5 : Sat w0 w5 (OwnB 5 (.slice a5 3 k5) (UInt8.ofNat 3 :: beB stream.toNat 2) :: Blk g _ :: L) := h5
  clear h4 h3 hne hlt c0 c1 h2
  obtain ⟨pre, hpre⟩ : ∃ pre, UInt8.ofNat 3 :: beB stream.toNat 2 = pre := ⟨_, rfl⟩
  have hpl : pre.length = 3 := by rw [← hpre]; simp [beB_length]
  have HP := hid_ hpl
  rw [hpre] at h5
  have hB := Sat.front [_] h5
  have c0 : w5.cell? ⟨g, 0, none⟩ = some (.int .i64 3) := hB.cell 0 rfl
  have c2 : w5.cell? ⟨g, 2, none⟩ = some (.int .i64 code) := hB.cell 2 rfl
  have c3 : w5.cell? ⟨g, 3, none⟩ = some (.int .i64 n) := hB.cell 3 rfl
  have c4 : w5.cell? ⟨g, 4, none⟩ = some (.int .i64 addr.kind) := hB.cell 4 rfl
  have c5 : w5.cell? ⟨g, 5, none⟩ = some (.slice x addr.ip.length c) := hB.cell 5 rfl
  have c6 : w5.cell? ⟨g, 6, none⟩ = some (.string addr.name) := hB.cell 6 rfl
  have c7 : w5.cell? ⟨g, 7, none⟩ = some (.int .i64 addr.port) := hB.cell 7 rfl
  have c8 : w5.cell? ⟨g, 8, none⟩ = some (.slice z data.length k) := hB.cell 8 rfl
  have HE := hid_ (show (⟨3, stream, code, n, addr, data⟩ : FrM).enc = (pre ++ beB data.length 2) ++ data by rw [← hpre]; simp [FrM.enc, FrM.tail])
  have HL5 := hid_ (show (pre ++ beB data.length 2).length = 5 by rw [List.length_append, HP.out, beB_length])
  have HL := hid_ (show ((pre ++ beB data.length 2) ++ data).length = 5 + data.length by rw [List.length_append, HL5.out])
  clear hpl hpre hE
  go_wp2_with fail
  have hd := h5.drew
  go_region_held3 (fun w' => w'.cell? ⟨g, 8, none⟩ = some (.slice z data.length k)) (first | exact (Sat.front [_] hd).cell 8 rfl | exact (Sat.front [_] h6).cell 8 rfl | exact (Sat.front [_] h7).cell 8 rfl)
      (first | (refine step_append_b (w0 := w0) rfl _ _ 37 rfl rfl h6 rfl (slSrc (hr0 _ [_, _] h6).data) _ (5 + data.length) rfl HL.out (by omega) ?_; intro a7 k7 w7 h7)
             | (go_at_call 66; refine (frame_putN (W := 2) (l := 3) (m := 5) (by omega) (by omega) (by omega) rfl (by omega) HP.out rfl (by rw [Int.toNat_natCast]) hd).mono ?_; rintro _ w6 ⟨a6, k6, rfl, h6⟩))
  go_wp2_with fail
  go_ret2
  exact EncOk.mk h7.d2 HE.out HL.out rfl
set_option maxRecDepth 100000 in
set_option maxHeartbeats 2000000 in
theorem frame_Encode_4 (stream code n : Int) (addr : AdM) (data : List UInt8) (x z : Option Addr) (c k : Nat) (hm : (⟨4, stream, code, n, addr, data⟩ : FrM).may = true) (hs : Sat w0 w L) (hr0 : ∀ (W : World) (L' : List Assn), Sat w0 W (L' ++ L) → RdV W ⟨4, stream, code, n, addr, data⟩ x z c k) :
    Calls Try.prog 41 #[frV ⟨4, stream, code, n, addr, data⟩ (.slice x addr.ip.length c) (.slice z data.length k)] w (EncOk w0 L (⟨4, stream, code, n, addr, data⟩ : FrM).enc) := by
  have hM := frame_May (w := w.alloc (frO ⟨4, stream, code, n, addr, data⟩ (.slice x addr.ip.length c) (.slice z data.length k))) _ x z c k (hr0 _ [_] (hs.alloc _))
  rw [hm] at hM
  have HM := hid_ hM
  obtain ⟨_, _, b1, b2, b3, b4, b5, b6, b7, b8, _⟩ := fmay_facts hm
  
  clear hm hM b3 b4 b5 b6 b7 b8
  have hs1 := hs.alloc (frO ⟨4, stream, code, n, addr, data⟩ (.slice x addr.ip.length c) (.slice z data.length k))
  have hE := hid_ (show (⟨4, stream, code, n, addr, data⟩ : FrM).enc = _ from rfl)
  unfold frV frO at *
  go_enter Try.func41, Try.ntmps41
  go_wp2_with fail
  refine HM.out.mono ?_
  rintro _ w2 ⟨rfl, hb⟩
  have h2 := hs1.under hb
  obtain ⟨g, hg⟩ : ∃ g, w.heap.size = g := ⟨_, rfl⟩
  simp only [hg] at h2
  rw [hg]
  clear hb hg HM hs1
  have c0 : w2.cell? ⟨g, 0, none⟩ = some (.int .i64 4) := h2.cell 0 rfl
  have c1 : w2.cell? ⟨g, 1, none⟩ = some (.int .i64 stream) := h2.cell 1 rfl
  have hlt : g < w2.heap.size := h2.lt
  have hne : ¬ g = w2.heap.size := by omega
  have h3 := h2.alloc (.cells #[.int .u8 4] 5 (0, 0))
  have h4 := OwnB.ofNew (l := [UInt8.ofNat 4]) (n := 1) h3 (by simp [bytesC]) rfl (by omega)
  have b1' := b1
  have b2' := b2
  go_wp2_with fail
  refine (frame_putN (W := 2) (l := 1) (m := 3) b1' (by omega) (by omega) rfl (by omega) rfl rfl rfl h4).mono ?_
  rintro _ w5 ⟨a5, k5, rfl, h5⟩
  replace h5 : Sat w0 w5 (OwnB 5 (.slice a5 3 k5) (UInt8.ofNat 4 :: beB stream.toNat 2) :: Blk g _ :: L) := h5
  clear h4 h3 hne hlt c0 c1 h2
  obtain ⟨pre, hpre⟩ : ∃ pre, UInt8.ofNat 4 :: beB stream.toNat 2 = pre := ⟨_, rfl⟩
  have hpl : pre.length = 3 := by rw [← hpre]; simp [beB_length]
  have HP := hid_ hpl
  rw [hpre] at h5
  have hB := Sat.front [_] h5
  have c0 : w5.cell? ⟨g, 0, none⟩ = some (.int .i64 4) := hB.cell 0 rfl
  have c2 : w5.cell? ⟨g, 2, none⟩ = some (.int .i64 code) := hB.cell 2 rfl
  have c3 : w5.cell? ⟨g, 3, none⟩ = some (.int .i64 n) := hB.cell 3 rfl
  have c4 : w5.cell? ⟨g, 4, none⟩ = some (.int .i64 addr.kind) := hB.cell 4 rfl
  have c5 : w5.cell? ⟨g, 5, none⟩ = some (.slice x addr.ip.length c) := hB.cell 5 rfl
  have c6 : w5.cell? ⟨g, 6, none⟩ = some (.string addr.name) := hB.cell 6 rfl
  have c7 : w5.cell? ⟨g, 7, none⟩ = some (.int .i64 addr.port) := hB.cell 7 rfl
  have c8 : w5.cell? ⟨g, 8, none⟩ = some (.slice z data.length k) := hB.cell 8 rfl
  have HE := hid_ (show (⟨4, stream, code, n, addr, data⟩ : FrM).enc = pre by rw [← hpre]; simp [FrM.enc, FrM.tail])
  clear hpl hpre hE
  go_wp2_with fail
  go_ret2
  exact EncOk.mk h5.d2 HE.out HP.out rfl
set_option maxRecDepth 100000 in
set_option maxHeartbeats 2000000 in
theorem frame_Encode_5 (stream code n : Int) (addr : AdM) (data : List UInt8) (x z : Option Addr) (c k : Nat) (hm : (⟨5, stream, code, n, addr, data⟩ : FrM).may = true) (hs : Sat w0 w L) (hr0 : ∀ (W : World) (L' : List Assn), Sat w0 W (L' ++ L) → RdV W ⟨5, stream, code, n, addr, data⟩ x z c k) :
    Calls Try.prog 41 #[frV ⟨5, stream, code, n, addr, data⟩ (.slice x addr.ip.length c) (.slice z data.length k)] w (EncOk w0 L (⟨5, stream, code, n, addr, data⟩ : FrM).enc) := by
  have hM := frame_May (w := w.alloc (frO ⟨5, stream, code, n, addr, data⟩ (.slice x addr.ip.length c) (.slice z data.length k))) _ x z c k (hr0 _ [_] (hs.alloc _))
  rw [hm] at hM
  have HM := hid_ hM
  obtain ⟨_, _, b1, b2, b3, b4, b5, b6, b7, b8, _⟩ := fmay_facts hm
  have hc := b5 rfl
  have HC := hid_ hc
  clear hc
  clear hm hM b3 b4 b5 b6 b7 b8
  have hs1 := hs.alloc (frO ⟨5, stream, code, n, addr, data⟩ (.slice x addr.ip.length c) (.slice z data.length k))
  have hE := hid_ (show (⟨5, stream, code, n, addr, data⟩ : FrM).enc = _ from rfl)
  unfold frV frO at *
  go_enter Try.func41, Try.ntmps41
  go_wp2_with fail
  refine HM.out.mono ?_
  rintro _ w2 ⟨rfl, hb⟩
  have h2 := hs1.under hb
  obtain ⟨g, hg⟩ : ∃ g, w.heap.size = g := ⟨_, rfl⟩
  simp only [hg] at h2
  rw [hg]
  clear hb hg HM hs1
  have c0 : w2.cell? ⟨g, 0, none⟩ = some (.int .i64 5) := h2.cell 0 rfl
  have c1 : w2.cell? ⟨g, 1, none⟩ = some (.int .i64 stream) := h2.cell 1 rfl
  have hlt : g < w2.heap.size := h2.lt
  have hne : ¬ g = w2.heap.size := by omega
  have h3 := h2.alloc (.cells #[.int .u8 5] 5 (0, 0))
  have h4 := OwnB.ofNew (l := [UInt8.ofNat 5]) (n := 1) h3 (by simp [bytesC]) rfl (by omega)
  have b1' := b1
  have b2' := b2
  go_wp2_with fail
  refine (frame_putN (W := 2) (l := 1) (m := 3) b1' (by omega) (by omega) rfl (by omega) rfl rfl rfl h4).mono ?_
  rintro _ w5 ⟨a5, k5, rfl, h5⟩
  replace h5 : Sat w0 w5 (OwnB 5 (.slice a5 3 k5) (UInt8.ofNat 5 :: beB stream.toNat 2) :: Blk g _ :: L) := h5
  clear h4 h3 hne hlt c0 c1 h2
  obtain ⟨pre, hpre⟩ : ∃ pre, UInt8.ofNat 5 :: beB stream.toNat 2 = pre := ⟨_, rfl⟩
  have hpl : pre.length = 3 := by rw [← hpre]; simp [beB_length]
  have HP := hid_ hpl
  rw [hpre] at h5
  have hB := Sat.front [_] h5
  have c0 : w5.cell? ⟨g, 0, none⟩ = some (.int .i64 5) := hB.cell 0 rfl
  have c2 : w5.cell? ⟨g, 2, none⟩ = some (.int .i64 code) := hB.cell 2 rfl
  have c3 : w5.cell? ⟨g, 3, none⟩ = some (.int .i64 n) := hB.cell 3 rfl
  have c4 : w5.cell? ⟨g, 4, none⟩ = some (.int .i64 addr.kind) := hB.cell 4 rfl
  have c5 : w5.cell? ⟨g, 5, none⟩ = some (.slice x addr.ip.length c) := hB.cell 5 rfl
  have c6 : w5.cell? ⟨g, 6, none⟩ = some (.string addr.name) := hB.cell 6 rfl
  have c7 : w5.cell? ⟨g, 7, none⟩ = some (.int .i64 addr.port) := hB.cell 7 rfl
  have c8 : w5.cell? ⟨g, 8, none⟩ = some (.slice z data.length k) := hB.cell 8 rfl
  have HE := hid_ (show (⟨5, stream, code, n, addr, data⟩ : FrM).enc = pre ++ beB code.toNat 1 by rw [← hpre]; rfl)
  have HL := hid_ (show (pre ++ beB code.toNat 1).length = 4 by rw [List.length_append, HP.out, beB_length])
  clear hpl hpre hE
  go_wp2_with fail
  refine (frame_putN (W := 1) (l := 3) (m := 4) HC.out.1 (by have := HC.out; omega) (by omega) rfl (by omega) HP.out rfl rfl h5).mono ?_
  rintro _ w6 ⟨a6, k6, rfl, h6⟩
  go_wp2_with fail
  go_ret2
  exact EncOk.mk h6.d2 HE.out HL.out rfl
set_option maxRecDepth 100000 in
set_option maxHeartbeats 2000000 in
theorem frame_Encode_6 (stream code n : Int) (addr : AdM) (data : List UInt8) (x z : Option Addr) (c k : Nat) (hm : (⟨6, stream, code, n, addr, data⟩ : FrM).may = true) (hs : Sat w0 w L) (hr0 : ∀ (W : World) (L' : List Assn), Sat w0 W (L' ++ L) → RdV W ⟨6, stream, code, n, addr, data⟩ x z c k) :
    Calls Try.prog 41 #[frV ⟨6, stream, code, n, addr, data⟩ (.slice x addr.ip.length c) (.slice z data.length k)] w (EncOk w0 L (⟨6, stream, code, n, addr, data⟩ : FrM).enc) := by
  have hM := frame_May (w := w.alloc (frO ⟨6, stream, code, n, addr, data⟩ (.slice x addr.ip.length c) (.slice z data.length k))) _ x z c k (hr0 _ [_] (hs.alloc _))
  rw [hm] at hM
  have HM := hid_ hM
  obtain ⟨_, _, b1, b2, b3, b4, b5, b6, b7, b8, _⟩ := fmay_facts hm
  have hc : 0 ≤ n ∧ n < 4294967296 := by have := b7 rfl; dsimp only at this; omega
  have HC := hid_ hc
  clear hc
  clear hm hM b3 b4 b5 b6 b7 b8
  have hs1 := hs.alloc (frO ⟨6, stream, code, n, addr, data⟩ (.slice x addr.ip.length c) (.slice z data.length k))
  have hE := hid_ (show (⟨6, stream, code, n, addr, data⟩ : FrM).enc = _ from rfl)
  unfold frV frO at *
  go_enter Try.func41, Try.ntmps41
  go_wp2_with fail
  refine HM.out.mono ?_
  rintro _ w2 ⟨rfl, hb⟩
  have h2 := hs1.under hb
  obtain ⟨g, hg⟩ : ∃ g, w.heap.size = g := ⟨_, rfl⟩
  simp only [hg] at h2
  rw [hg]
  clear hb hg HM hs1
  have c0 : w2.cell? ⟨g, 0, none⟩ = some (.int .i64 6) := h2.cell 0 rfl
  have c1 : w2.cell? ⟨g, 1, none⟩ = some (.int .i64 stream) := h2.cell 1 rfl
  have hlt : g < w2.heap.size := h2.lt
  have hne : ¬ g = w2.heap.size := by omega
  have h3 := h2.alloc (.cells #[.int .u8 6] 5 (0, 0))
  have h4 := OwnB.ofNew (l := [UInt8.ofNat 6]) (n := 1) h3 (by simp [bytesC]) rfl (by omega)
  have b1' := b1
  have b2' := b2
  go_wp2_with fail
  refine (frame_putN (W := 2) (l := 1) (m := 3) b1' (by omega) (by omega) rfl (by omega) rfl rfl rfl h4).mono ?_
  rintro _ w5 ⟨a5, k5, rfl, h5⟩
  replace h5 : Sat w0 w5 (OwnB 5 (.slice a5 3 k5) (UInt8.ofNat 6 :: beB stream.toNat 2) :: Blk g _ :: L) := h5
  clear h4 h3 hne hlt c0 c1 h2
  obtain ⟨pre, hpre⟩ : ∃ pre, UInt8.ofNat 6 :: beB stream.toNat 2 = pre := ⟨_, rfl⟩
  have hpl : pre.length = 3 := by rw [← hpre]; simp [beB_length]
  have HP := hid_ hpl
  rw [hpre] at h5
  have hB := Sat.front [_] h5
  have c0 : w5.cell? ⟨g, 0, none⟩ = some (.int .i64 6) := hB.cell 0 rfl
  have c2 : w5.cell? ⟨g, 2, none⟩ = some (.int .i64 code) := hB.cell 2 rfl
  have c3 : w5.cell? ⟨g, 3, none⟩ = some (.int .i64 n) := hB.cell 3 rfl
  have c4 : w5.cell? ⟨g, 4, none⟩ = some (.int .i64 addr.kind) := hB.cell 4 rfl
  have c5 : w5.cell? ⟨g, 5, none⟩ = some (.slice x addr.ip.length c) := hB.cell 5 rfl
  have c6 : w5.cell? ⟨g, 6, none⟩ = some (.string addr.name) := hB.cell 6 rfl
  have c7 : w5.cell? ⟨g, 7, none⟩ = some (.int .i64 addr.port) := hB.cell 7 rfl
  have c8 : w5.cell? ⟨g, 8, none⟩ = some (.slice z data.length k) := hB.cell 8 rfl
  have HE := hid_ (show (⟨6, stream, code, n, addr, data⟩ : FrM).enc = pre ++ beB n.toNat 4 by rw [← hpre]; simp [FrM.enc, FrM.tail])
  have HL := hid_ (show (pre ++ beB n.toNat 4).length = 7 by rw [List.length_append, HP.out, beB_length])
  clear hpl hpre hE
  go_wp2_with fail
  refine (frame_putN (W := 4) (l := 3) (m := 7) HC.out.1 HC.out.2 (by omega) rfl (by omega) HP.out rfl rfl h5).mono ?_
  rintro _ w6 ⟨a6, k6, rfl, h6⟩
  go_wp2_with fail
  go_ret2
  exact EncOk.mk h6.d2 HE.out HL.out rfl
set_option maxRecDepth 100000 in
set_option maxHeartbeats 2000000 in
theorem frame_Encode_7 (stream code n : Int) (addr : AdM) (data : List UInt8) (x z : Option Addr) (c k : Nat) (hm : (⟨7, stream, code, n, addr, data⟩ : FrM).may = true) (hs : Sat w0 w L) (hr0 : ∀ (W : World) (L' : List Assn), Sat w0 W (L' ++ L) → RdV W ⟨7, stream, code, n, addr, data⟩ x z c k) :
    Calls Try.prog 41 #[frV ⟨7, stream, code, n, addr, data⟩ (.slice x addr.ip.length c) (.slice z data.length k)] w (EncOk w0 L (⟨7, stream, code, n, addr, data⟩ : FrM).enc) := by
  have hM := frame_May (w := w.alloc (frO ⟨7, stream, code, n, addr, data⟩ (.slice x addr.ip.length c) (.slice z data.length k))) _ x z c k (hr0 _ [_] (hs.alloc _))
  rw [hm] at hM
  have HM := hid_ hM
  obtain ⟨_, _, b1, b2, b3, b4, b5, b6, b7, b8, _⟩ := fmay_facts hm
  have hc : 0 ≤ n ∧ n < 4294967296 := by have := b8 (.inl rfl); dsimp only at this; omega
  have HC := hid_ hc
  clear hc
  clear hm hM b3 b4 b5 b6 b7 b8
  have hs1 := hs.alloc (frO ⟨7, stream, code, n, addr, data⟩ (.slice x addr.ip.length c) (.slice z data.length k))
  have hE := hid_ (show (⟨7, stream, code, n, addr, data⟩ : FrM).enc = _ from rfl)
  unfold frV frO at *
  go_enter Try.func41, Try.ntmps41
  go_wp2_with fail
  refine HM.out.mono ?_
  rintro _ w2 ⟨rfl, hb⟩
  have h2 := hs1.under hb
  obtain ⟨g, hg⟩ : ∃ g, w.heap.size = g := ⟨_, rfl⟩
  simp only [hg] at h2
  rw [hg]
  clear hb hg HM hs1
  have c0 : w2.cell? ⟨g, 0, none⟩ = some (.int .i64 7) := h2.cell 0 rfl
  have c1 : w2.cell? ⟨g, 1, none⟩ = some (.int .i64 stream) := h2.cell 1 rfl
  have hlt : g < w2.heap.size := h2.lt
  have hne : ¬ g = w2.heap.size := by omega
  have h3 := h2.alloc (.cells #[.int .u8 7] 5 (0, 0))
  have h4 := OwnB.ofNew (l := [UInt8.ofNat 7]) (n := 1) h3 (by simp [bytesC]) rfl (by omega)
  have b1' := b1
  have b2' := b2
  go_wp2_with fail
  refine (frame_putN (W := 2) (l := 1) (m := 3) b1' (by omega) (by omega) rfl (by omega) rfl rfl rfl h4).mono ?_
  rintro _ w5 ⟨a5, k5, rfl, h5⟩
  replace h5 : Sat w0 w5 (OwnB 5 (.slice a5 3 k5) (UInt8.ofNat 7 :: beB stream.toNat 2) :: Blk g _ :: L) := h5
  clear h4 h3 hne hlt c0 c1 h2
  obtain ⟨pre, hpre⟩ : ∃ pre, UInt8.ofNat 7 :: beB stream.toNat 2 = pre := ⟨_, rfl⟩
  have hpl : pre.length = 3 := by rw [← hpre]; simp [beB_length]
  have HP := hid_ hpl
  rw [hpre] at h5
  have hB := Sat.front [_] h5
  have c0 : w5.cell? ⟨g, 0, none⟩ = some (.int .i64 7) := hB.cell 0 rfl
  have c2 : w5.cell? ⟨g, 2, none⟩ = some (.int .i64 code) := hB.cell 2 rfl
  have c3 : w5.cell? ⟨g, 3, none⟩ = some (.int .i64 n) := hB.cell 3 rfl
  have c4 : w5.cell? ⟨g, 4, none⟩ = some (.int .i64 addr.kind) := hB.cell 4 rfl
  have c5 : w5.cell? ⟨g, 5, none⟩ = some (.slice x addr.ip.length c) := hB.cell 5 rfl
  have c6 : w5.cell? ⟨g, 6, none⟩ = some (.string addr.name) := hB.cell 6 rfl
  have c7 : w5.cell? ⟨g, 7, none⟩ = some (.int .i64 addr.port) := hB.cell 7 rfl
  have c8 : w5.cell? ⟨g, 8, none⟩ = some (.slice z data.length k) := hB.cell 8 rfl
  have HE := hid_ (show (⟨7, stream, code, n, addr, data⟩ : FrM).enc = pre ++ beB n.toNat 4 by rw [← hpre]; simp [FrM.enc, FrM.tail])
  have HL := hid_ (show (pre ++ beB n.toNat 4).length = 7 by rw [List.length_append, HP.out, beB_length])
  clear hpl hpre hE
  go_wp2_with fail
  refine (frame_putN (W := 4) (l := 3) (m := 7) HC.out.1 HC.out.2 (by omega) rfl (by omega) HP.out rfl rfl h5).mono ?_
  rintro _ w6 ⟨a6, k6, rfl, h6⟩
  go_wp2_with fail
  go_ret2
  exact EncOk.mk h6.d2 HE.out HL.out rfl
set_option maxRecDepth 100000 in
set_option maxHeartbeats 2000000 in
theorem frame_Encode_8 (stream code n : Int) (addr : AdM) (data : List UInt8) (x z : Option Addr) (c k : Nat) (hm : (⟨8, stream, code, n, addr, data⟩ : FrM).may = true) (hs : Sat w0 w L) (hr0 : ∀ (W : World) (L' : List Assn), Sat w0 W (L' ++ L) → RdV W ⟨8, stream, code, n, addr, data⟩ x z c k) :
    Calls Try.prog 41 #[frV ⟨8, stream, code, n, addr, data⟩ (.slice x addr.ip.length c) (.slice z data.length k)] w (EncOk w0 L (⟨8, stream, code, n, addr, data⟩ : FrM).enc) := by
  have hM := frame_May (w := w.alloc (frO ⟨8, stream, code, n, addr, data⟩ (.slice x addr.ip.length c) (.slice z data.length k))) _ x z c k (hr0 _ [_] (hs.alloc _))
  rw [hm] at hM
  have HM := hid_ hM
  obtain ⟨_, _, b1, b2, b3, b4, b5, b6, b7, b8, _⟩ := fmay_facts hm
  have hc : 0 ≤ n ∧ n < 4294967296 := by have := b8 (.inr rfl); dsimp only at this; omega
  have HC := hid_ hc
  clear hc
  clear hm hM b3 b4 b5 b6 b7 b8
  have hs1 := hs.alloc (frO ⟨8, stream, code, n, addr, data⟩ (.slice x addr.ip.length c) (.slice z data.length k))
  have hE := hid_ (show (⟨8, stream, code, n, addr, data⟩ : FrM).enc = _ from rfl)
  unfold frV frO at *
  go_enter Try.func41, Try.ntmps41
  go_wp2_with fail
  refine HM.out.mono ?_
  rintro _ w2 ⟨rfl, hb⟩
  have h2 := hs1.under hb
  obtain ⟨g, hg⟩ : ∃ g, w.heap.size = g := ⟨_, rfl⟩
  simp only [hg] at h2
  rw [hg]
  clear hb hg HM hs1
  have c0 : w2.cell? ⟨g, 0, none⟩ = some (.int .i64 8) := h2.cell 0 rfl
  have c1 : w2.cell? ⟨g, 1, none⟩ = some (.int .i64 stream) := h2.cell 1 rfl
  have hlt : g < w2.heap.size := h2.lt
  have hne : ¬ g = w2.heap.size := by omega
  have h3 := h2.alloc (.cells #[.int .u8 8] 5 (0, 0))
  have h4 := OwnB.ofNew (l := [UInt8.ofNat 8]) (n := 1) h3 (by simp [bytesC]) rfl (by omega)
  have b1' := b1
  have b2' := b2
  go_wp2_with fail
  refine (frame_putN (W := 2) (l := 1) (m := 3) b1' (by omega) (by omega) rfl (by omega) rfl rfl rfl h4).mono ?_
  rintro _ w5 ⟨a5, k5, rfl, h5⟩
  replace h5 : Sat w0 w5 (OwnB 5 (.slice a5 3 k5) (UInt8.ofNat 8 :: beB stream.toNat 2) :: Blk g _ :: L) := h5
  clear h4 h3 hne hlt c0 c1 h2
  obtain ⟨pre, hpre⟩ : ∃ pre, UInt8.ofNat 8 :: beB stream.toNat 2 = pre := ⟨_, rfl⟩
  have hpl : pre.length = 3 := by rw [← hpre]; simp [beB_length]
  have HP := hid_ hpl
  rw [hpre] at h5
  have hB := Sat.front [_] h5
  have c0 : w5.cell? ⟨g, 0, none⟩ = some (.int .i64 8) := hB.cell 0 rfl
  have c2 : w5.cell? ⟨g, 2, none⟩ = some (.int .i64 code) := hB.cell 2 rfl
  have c3 : w5.cell? ⟨g, 3, none⟩ = some (.int .i64 n) := hB.cell 3 rfl
  have c4 : w5.cell? ⟨g, 4, none⟩ = some (.int .i64 addr.kind) := hB.cell 4 rfl
  have c5 : w5.cell? ⟨g, 5, none⟩ = some (.slice x addr.ip.length c) := hB.cell 5 rfl
  have c6 : w5.cell? ⟨g, 6, none⟩ = some (.string addr.name) := hB.cell 6 rfl
  have c7 : w5.cell? ⟨g, 7, none⟩ = some (.int .i64 addr.port) := hB.cell 7 rfl
  have c8 : w5.cell? ⟨g, 8, none⟩ = some (.slice z data.length k) := hB.cell 8 rfl
  have HE := hid_ (show (⟨8, stream, code, n, addr, data⟩ : FrM).enc = pre ++ beB n.toNat 4 by rw [← hpre]; simp [FrM.enc, FrM.tail])
  have HL := hid_ (show (pre ++ beB n.toNat 4).length = 7 by rw [List.length_append, HP.out, beB_length])
  clear hpl hpre hE
  go_wp2_with fail
  refine (frame_putN (W := 4) (l := 3) (m := 7) HC.out.1 HC.out.2 (by omega) rfl (by omega) HP.out rfl rfl h5).mono ?_
  rintro _ w6 ⟨a6, k6, rfl, h6⟩
  go_wp2_with fail
  go_ret2
  exact EncOk.mk h6.d2 HE.out HL.out rfl
theorem frame_Encode_yes (f : FrM) (x z : Option Addr) (c k : Nat) (hm : f.may = true) (hs : Sat w0 w L) (hr0 : ∀ (W : World) (L' : List Assn), Sat w0 W (L' ++ L) → RdV W f x z c k) :
    Calls Try.prog 41 #[frV f (.slice x f.addr.ip.length c) (.slice z f.data.length k)] w (EncOk w0 L f.enc) := by
  have h := fmay_facts hm
  obtain ⟨kind, stream, code, n, addr, data⟩ := f
  have h' : kind = 1 ∨ kind = 2 ∨ kind = 3 ∨ kind = 4 ∨ kind = 5 ∨ kind = 6 ∨ kind = 7 ∨ kind = 8 := by have h1 := h.1; have h2 := h.2.1; simp only at h1 h2; omega
  rcases h' with rfl | rfl | rfl | rfl | rfl | rfl | rfl | rfl
  · exact frame_Encode_1 _ _ _ _ _ x z c k hm hs hr0
  · exact frame_Encode_2 _ _ _ _ _ x z c k hm hs hr0
  · exact frame_Encode_3 _ _ _ _ _ x z c k hm hs hr0
  · exact frame_Encode_4 _ _ _ _ _ x z c k hm hs hr0
  · exact frame_Encode_5 _ _ _ _ _ x z c k hm hs hr0
  · exact frame_Encode_6 _ _ _ _ _ x z c k hm hs hr0
  · exact frame_Encode_7 _ _ _ _ _ x z c k hm hs hr0
  · exact frame_Encode_8 _ _ _ _ _ x z c k hm hs hr0
end
end Go.Proofs.Ytkejadhkebjdcaa
