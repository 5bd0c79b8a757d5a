/- The law AddrForms, walked. -/
import Derived.Test.YtanihjibjjpdbaaDoorAdX
import Derived.Test.YtanihjibjjpdbaaDoorAdW
namespace Go.Proofs.YtanihjibjjpdbaaDoor
open Go Go.RowKit
set_option linter.unusedVariables false
set_option linter.unusedSimpArgs false

def encO (a : AdM) : List UInt8 := if a.may then a.enc else []
def encE (a : AdM) : Int := if a.may then 0 else 1
section
variable {w0 w : World} {L : List Assn}
theorem addr_EncodeO (a : AdM) (x : Option Addr) (c : Nat) (hn : a.name.size ≤ maxLen) (hr : RdB w0 (.slice x a.ip.length c) a.ip) (hs : Sat w0 w L) :
    Calls Tryd.prog 9 #[.agg #[.int .i64 a.kind, .slice x a.ip.length c, .string a.name, .int .i64 a.port]] w fun e w' => ∃ p k, e = .returned (.tuple #[.slice p (encO a).length k, .int .i64 (encE a)]) ∧ Sat w0 w' (OwnB 5 (.slice p (encO a).length k) (encO a) :: L) := by
  unfold encO encE
  cases hm : a.may
  · refine (addr_Encode_no a x c hn hr.len hm hs).mono ?_
    rintro _ w' ⟨rfl, h⟩
    exact ⟨none, 0, rfl, OwnB.nilI h⟩
  · exact addr_Encode_yes a x c hm hs (fun W L' h => hr.mono h.below)
theorem ref_EncodeAddrO (a : AdM) (x : Option Addr) (c : Nat) (hn : a.name.size ≤ maxLen) (hr : RdB w0 (.slice x a.ip.length c) a.ip) (hs : Sat w0 w L) :
    Calls Tryd.prog 15 #[.agg #[.int .i64 a.kind, .slice x a.ip.length c, .string a.name, .int .i64 a.port]] w fun e w' => ∃ p k, e = .returned (.tuple #[.slice p (encO a).length k, .int .i64 (encE a)]) ∧ Sat w0 w' (OwnB 5 (.slice p (encO a).length k) (encO a) :: L) := by
  unfold encO encE
  cases hm : a.may
  · refine (ref_EncodeAddr_no a x c hn hr.len hm hs).mono ?_
    rintro _ w' ⟨rfl, h⟩
    exact ⟨none, 0, rfl, OwnB.nilI h⟩
  · exact ref_EncodeAddr_yes a x c hm hs (fun W L' h => hr.mono h.below)
theorem str_self (X : ByteArray) : (X.toList == X.toList) = true := by simp
set_option maxRecDepth 100000 in
set_option maxHeartbeats 8000000 in
theorem ad_forms_law (v u z : Value) (w : World) (ht : TabOk w) (hz : TzOk w) (hv : IsAddr w v) (hu : IsAddr w u) (hw : IsBytes w z) :
    Calls Tryd.prog 7 #[v, u, z] w fun e w' => e = .returned (.bool true) ∧ Below w.heap.size w w' := by
  obtain ⟨a, ax, ac, rfl, hra⟩ := hv
  obtain ⟨b, bx, bc, rfl, hrb⟩ := hu
  obtain ⟨raw, hraw⟩ := hw
  obtain ⟨ra, rc, rfl, hrc, hrm, -⟩ := hraw.form
  unfold adA
  have hpos := ht.pos
  have hs := (Sat.refl w).alloc2 (.cells #[.int .i64 a.kind, .slice ax a.ip.length ac, .string a.name, .int .i64 a.port] 25 (0, 0)) (.cells #[.int .i64 b.kind, .slice bx b.ip.length bc, .string b.name, .int .i64 b.port] 25 (0, 0))
  have hAw : ∀ (W : World) (M : List Assn), Sat w W M → Calls Tryd.prog 8 #[] W fun e w' => e = .returned (.bool true) ∧ Sat w w' M := fun W M h => ad_awake ht hpos h
  have HPOS := hid_ hpos
  clear hpos
  by_cases l0 : 50 < a.ip.length
  · have q0 : decide ((50 : Int) < (a.ip.length : Int)) = true := by simp; omega
    clear l0
    go_enter Tryd.func7, Tryd.ntmps7
    go_wp2_with fail
    refine (hAw _ _ hs).mono ?_
    rintro _ w2 ⟨rfl, h2⟩
    go_wp2_with fail
    go_ret
    exact ⟨rfl, h2.below⟩
  have q0 : decide ((50 : Int) < (a.ip.length : Int)) = false := by simp; omega
  by_cases l1 : 200 < a.name.size
  · have q1 : decide ((200 : Int) < (a.name.size : Int)) = true := by simp; omega
    clear l0 l1
    go_enter Tryd.func7, Tryd.ntmps7
    go_wp2_with fail
    refine (hAw _ _ hs).mono ?_
    rintro _ w2 ⟨rfl, h2⟩
    go_wp2_with fail
    go_ret
    exact ⟨rfl, h2.below⟩
  have q1 : decide ((200 : Int) < (a.name.size : Int)) = false := by simp; omega
  by_cases l2 : 50 < b.ip.length
  · have q2 : decide ((50 : Int) < (b.ip.length : Int)) = true := by simp; omega
    clear l0 l1 l2
    go_enter Tryd.func7, Tryd.ntmps7
    go_wp2_with fail
    refine (hAw _ _ hs).mono ?_
    rintro _ w2 ⟨rfl, h2⟩
    go_wp2_with fail
    go_ret
    exact ⟨rfl, h2.below⟩
  have q2 : decide ((50 : Int) < (b.ip.length : Int)) = false := by simp; omega
  by_cases l3 : 200 < b.name.size
  · have q3 : decide ((200 : Int) < (b.name.size : Int)) = true := by simp; omega
    clear l0 l1 l2 l3
    go_enter Tryd.func7, Tryd.ntmps7
    go_wp2_with fail
    refine (hAw _ _ hs).mono ?_
    rintro _ w2 ⟨rfl, h2⟩
    go_wp2_with fail
    go_ret
    exact ⟨rfl, h2.below⟩
  have q3 : decide ((200 : Int) < (b.name.size : Int)) = false := by simp; omega
  by_cases l4 : 300 < raw.length
  · have q4 : decide ((300 : Int) < (raw.length : Int)) = true := by simp; omega
    clear l0 l1 l2 l3 l4
    go_enter Tryd.func7, Tryd.ntmps7
    go_wp2_with fail
    refine (hAw _ _ hs).mono ?_
    rintro _ w2 ⟨rfl, h2⟩
    go_wp2_with fail
    go_ret
    exact ⟨rfl, h2.below⟩
  have q4 : decide ((300 : Int) < (raw.length : Int)) = false := by simp; omega
  clear l0 l1 l2 l3 l4
  obtain ⟨mA, hmA⟩ : ∃ m, a.may = m := ⟨_, rfl⟩
  obtain ⟨sm, hsm⟩ : ∃ s, sameAd a b = s := ⟨_, rfl⟩
  obtain ⟨T, hT⟩ : ∃ T, strOf (txtA a) = T := ⟨_, rfl⟩
  obtain ⟨E, hE⟩ : ∃ E, encO a = E := ⟨_, rfl⟩
  obtain ⟨eE, heE⟩ : ∃ E, encE a = E := ⟨_, rfl⟩
  obtain ⟨n, hn⟩ : ∃ n, E.length = n := ⟨_, rfl⟩
  obtain ⟨D, hD⟩ : ∃ D, decA raw = D := ⟨_, rfl⟩
  obtain ⟨eD, r, nD⟩ := D
  have hMy : ∀ W M, Sat w W M → Calls Tryd.prog 10 #[.agg #[.int .i64 a.kind, .slice ax a.ip.length ac, .string a.name, .int .i64 a.port]] W fun e w' => e = .returned (.bool mA) ∧ Sat w w' M := fun W M h => by
    rw [← hmA]
    exact (addr_May a ax ac hra.name hra.ip.len).mono (fun e w' ⟨he, hb⟩ => ⟨he, h.under hb⟩)
  have hMr : ∀ W M, Sat w W M → Calls Tryd.prog 17 #[.agg #[.int .i64 a.kind, .slice ax a.ip.length ac, .string a.name, .int .i64 a.port]] W fun e w' => e = .returned (.bool mA) ∧ Sat w w' M := fun W M h => by
    rw [← hmA]
    exact (ref_MayAddr a ax ac hra.name hra.ip.len).mono (fun e w' ⟨he, hb⟩ => ⟨he, h.under hb⟩)
  have hSy : ∀ W M, Sat w W M → Calls Tryd.prog 11 #[.agg #[.int .i64 a.kind, .slice ax a.ip.length ac, .string a.name, .int .i64 a.port], .agg #[.int .i64 b.kind, .slice bx b.ip.length bc, .string b.name, .int .i64 b.port]] W fun e w' => e = .returned (.bool sm) ∧ Sat w w' M := fun W M h => by
    rw [← hsm]
    exact (addr_Same a b ax bx ac bc (hra.ip.mono h.below) (hrb.ip.mono h.below)).mono (fun e w' ⟨he, hb⟩ => ⟨he, h.under hb⟩)
  have hSr : ∀ W M, Sat w W M → Calls Tryd.prog 14 #[.agg #[.int .i64 a.kind, .slice ax a.ip.length ac, .string a.name, .int .i64 a.port], .agg #[.int .i64 b.kind, .slice bx b.ip.length bc, .string b.name, .int .i64 b.port]] W fun e w' => e = .returned (.bool sm) ∧ Sat w w' M := fun W M h => by
    rw [← hsm]
    exact (ref_SameAddr a b ax bx ac bc (hra.ip.mono h.below) (hrb.ip.mono h.below)).mono (fun e w' ⟨he, hb⟩ => ⟨he, h.under hb⟩)
  have hTy : ∀ W M, Sat w W M → Calls Tryd.prog 12 #[.agg #[.int .i64 a.kind, .slice ax a.ip.length ac, .string a.name, .int .i64 a.port]] W fun e w' => e = .returned (.string T) ∧ Sat w w' M := fun W M h => by
    rw [← hT]
    exact addr_Text a ax ac hra.name ht hz h hra.ip
  have hTr : ∀ W M, Sat w W M → Calls Tryd.prog 18 #[.agg #[.int .i64 a.kind, .slice ax a.ip.length ac, .string a.name, .int .i64 a.port]] W fun e w' => e = .returned (.string T) ∧ Sat w w' M := fun W M h => by
    rw [← hT]
    exact ref_AddrText a ax ac hra.name ht hz h hra.ip
  have hEy : ∀ W M, Sat w W M → Calls Tryd.prog 9 #[.agg #[.int .i64 a.kind, .slice ax a.ip.length ac, .string a.name, .int .i64 a.port]] W fun e w' => ∃ p k, e = .returned (.tuple #[.slice p n k, .int .i64 eE]) ∧ Sat w w' (OwnB 5 (.slice p n k) E :: M) := fun W M h => by
    rw [← hn, ← hE, ← heE]
    exact addr_EncodeO a ax ac hra.name hra.ip h
  have hEr : ∀ W M, Sat w W M → Calls Tryd.prog 15 #[.agg #[.int .i64 a.kind, .slice ax a.ip.length ac, .string a.name, .int .i64 a.port]] W fun e w' => ∃ p k, e = .returned (.tuple #[.slice p n k, .int .i64 eE]) ∧ Sat w w' (OwnB 5 (.slice p n k) E :: M) := fun W M h => by
    rw [← hn, ← hE, ← heE]
    exact ref_EncodeAddrO a ax ac hra.name hra.ip h
  have hDy : ∀ W M, Sat w W M → Calls Tryd.prog 13 #[.slice ra raw.length rc] W fun e w' => ∃ x c, e = .returned (.tuple #[.agg #[.int .i64 r.kind, .slice x r.ip.length c, .string r.name, .int .i64 r.port], .int .i64 nD, .int .i64 eD]) ∧ Sat w w' (OwnB 5 (.slice x r.ip.length c) r.ip :: M) := fun W M h => by
    have h1 := addr_Decode h (fun W L' h => hraw.mono h.below)
    rw [hD] at h1
    exact h1
  have hDr : ∀ W M, Sat w W M → Calls Tryd.prog 16 #[.slice ra raw.length rc] W fun e w' => ∃ x c, e = .returned (.tuple #[.agg #[.int .i64 r.kind, .slice x r.ip.length c, .string r.name, .int .i64 r.port], .int .i64 nD, .int .i64 eD]) ∧ Sat w w' (OwnB 5 (.slice x r.ip.length c) r.ip :: M) := fun W M h => by
    have h1 := ref_DecodeAddr h (fun W L' h => hraw.mono h.below)
    rw [hD] at h1
    exact h1
  have HN := hid_ hn
  clear hmA hsm hT hE heE hn hD
  have hca : ∀ W M, Sat w W (Blk w.heap.size (.cells #[.int .i64 a.kind, .slice ax a.ip.length ac, .string a.name, .int .i64 a.port] 25 (0, 0)) :: M) → W.cell? ⟨w.heap.size, 0, none⟩ = some (.int .i64 a.kind) ∧ W.cell? ⟨w.heap.size, 1, none⟩ = some (.slice ax a.ip.length ac) ∧ W.cell? ⟨w.heap.size, 2, none⟩ = some (.string a.name) ∧ W.cell? ⟨w.heap.size, 3, none⟩ = some (.int .i64 a.port) :=
    fun W M h => ⟨h.cell 0 rfl, h.cell 1 rfl, h.cell 2 rfl, h.cell 3 rfl⟩
  have hcb : ∀ W M, Sat w W (Blk (w.heap.size + 1) (.cells #[.int .i64 b.kind, .slice bx b.ip.length bc, .string b.name, .int .i64 b.port] 25 (0, 0)) :: M) → W.cell? ⟨(w.heap.size + 1), 0, none⟩ = some (.int .i64 b.kind) ∧ W.cell? ⟨(w.heap.size + 1), 1, none⟩ = some (.slice bx b.ip.length bc) ∧ W.cell? ⟨(w.heap.size + 1), 2, none⟩ = some (.string b.name) ∧ W.cell? ⟨(w.heap.size + 1), 3, none⟩ = some (.int .i64 b.port) :=
    fun W M h => ⟨h.cell 0 rfl, h.cell 1 rfl, h.cell 2 rfl, h.cell 3 rfl⟩
  have hcr : ∀ W M g x c, Sat w W (Blk g (.cells #[.int .i64 r.kind, .slice x r.ip.length c, .string r.name, .int .i64 r.port] 25 (0, 0)) :: M) → W.cell? ⟨g, 0, none⟩ = some (.int .i64 r.kind) ∧ W.cell? ⟨g, 1, none⟩ = some (.slice x r.ip.length c) ∧ W.cell? ⟨g, 2, none⟩ = some (.string r.name) ∧ W.cell? ⟨g, 3, none⟩ = some (.int .i64 r.port) :=
    fun W M g x c h => ⟨h.cell 0 rfl, h.cell 1 rfl, h.cell 2 rfl, h.cell 3 rfl⟩
  obtain ⟨c0, c1, c2, c3⟩ := hca _ _ hs.swap
  go_enter Tryd.func7, Tryd.ntmps7
  go_wp2_with fail
  refine (hEy _ _ hs).mono ?_
  rintro _ w2 ⟨p, k, rfl, h2⟩
  clear c0 c1 c2 c3
  obtain ⟨c0, c1, c2, c3⟩ := hca _ _ (Sat.front [_, _] h2)
  go_wp2_with fail
  refine (hEr _ _ h2).mono ?_
  rintro _ w3 ⟨q, j, rfl, h3⟩
  clear c0 c1 c2 c3 h2
  go_wp2_with fail
  refine (hDy _ _ h3).mono ?_
  rintro _ w4 ⟨x, c, rfl, h4⟩
  clear h3
  have h5 := h4.alloc (.cells #[.int .i64 r.kind, .slice x r.ip.length c, .string r.name, .int .i64 r.port] 25 (0, 0))
  obtain ⟨gx, hgx⟩ : ∃ g, w4.heap.size = g := ⟨_, rfl⟩
  rw [hgx] at h5
  go_wp2_with fail
  refine (hDr _ _ h5).mono ?_
  rintro _ w6 ⟨y, d, rfl, h6⟩
  clear h4 h5 hgx
  have h7 := h6.alloc (.cells #[.int .i64 r.kind, .slice y r.ip.length d, .string r.name, .int .i64 r.port] 25 (0, 0))
  obtain ⟨gy, hgy⟩ : ∃ g, w6.heap.size = g := ⟨_, rfl⟩
  rw [hgy] at h7
  obtain ⟨X, hX⟩ : ∃ X, strOf E = X := ⟨_, rfl⟩
  have mk : ∀ W, Sat w W (Blk gy (.cells #[.int .i64 r.kind, .slice y r.ip.length d, .string r.name, .int .i64 r.port] 25 (0, 0)) :: OwnB 5 (.slice y r.ip.length d) r.ip :: Blk gx (.cells #[.int .i64 r.kind, .slice x r.ip.length c, .string r.name, .int .i64 r.port] 25 (0, 0)) :: OwnB 5 (.slice x r.ip.length c) r.ip :: OwnB 5 (.slice q n j) E :: OwnB 5 (.slice p n k) E :: Blk (w.heap.size + 1) (.cells #[.int .i64 b.kind, .slice bx b.ip.length bc, .string b.name, .int .i64 b.port] 25 (0, 0)) :: Blk w.heap.size (.cells #[.int .i64 a.kind, .slice ax a.ip.length ac, .string a.name, .int .i64 a.port] 25 (0, 0)) :: []) → (W.cell? ⟨w.heap.size, 0, none⟩ = some (.int .i64 a.kind) ∧ W.cell? ⟨w.heap.size, 1, none⟩ = some (.slice ax a.ip.length ac) ∧ W.cell? ⟨w.heap.size, 2, none⟩ = some (.string a.name) ∧ W.cell? ⟨w.heap.size, 3, none⟩ = some (.int .i64 a.port)) ∧ (W.cell? ⟨w.heap.size + 1, 0, none⟩ = some (.int .i64 b.kind) ∧ W.cell? ⟨w.heap.size + 1, 1, none⟩ = some (.slice bx b.ip.length bc) ∧ W.cell? ⟨w.heap.size + 1, 2, none⟩ = some (.string b.name) ∧ W.cell? ⟨w.heap.size + 1, 3, none⟩ = some (.int .i64 b.port)) ∧ (W.cell? ⟨gx, 0, none⟩ = some (.int .i64 r.kind) ∧ W.cell? ⟨gx, 1, none⟩ = some (.slice x r.ip.length c) ∧ W.cell? ⟨gx, 2, none⟩ = some (.string r.name) ∧ W.cell? ⟨gx, 3, none⟩ = some (.int .i64 r.port)) ∧ (W.cell? ⟨gy, 0, none⟩ = some (.int .i64 r.kind) ∧ W.cell? ⟨gy, 1, none⟩ = some (.slice y r.ip.length d) ∧ W.cell? ⟨gy, 2, none⟩ = some (.string r.name) ∧ W.cell? ⟨gy, 3, none⟩ = some (.int .i64 r.port)) ∧ (convert 23 9 (.slice p n k)).run Tryd.prog W = .ok (.string X) W ∧ (convert 23 9 (.slice q n j)).run Tryd.prog W = .ok (.string X) W := fun W h =>
    ⟨hca _ _ (Sat.front [_, _, _, _, _, _, _] h), hcb _ _ (Sat.front [_, _, _, _, _, _] h), hcr _ _ _ _ _ (Sat.front [_, _] h), hcr _ _ _ _ _ h,
      by rw [← hX, ← HN.out]; exact conv_rd Tryd.underlying23 Tryd.underlying5 Tryd.underlying9 (OwnB.rd (Sat.front [_, _, _, _, _] (by rw [← HN.out] at h; exact h))),
      by rw [← hX, ← HN.out]; exact conv_rd Tryd.underlying23 Tryd.underlying5 Tryd.underlying9 (OwnB.rd (Sat.front [_, _, _, _] (by rw [← HN.out] at h; exact h)))⟩
  have hSx : ∀ W, Sat w W (Blk gy (.cells #[.int .i64 r.kind, .slice y r.ip.length d, .string r.name, .int .i64 r.port] 25 (0, 0)) :: OwnB 5 (.slice y r.ip.length d) r.ip :: Blk gx (.cells #[.int .i64 r.kind, .slice x r.ip.length c, .string r.name, .int .i64 r.port] 25 (0, 0)) :: OwnB 5 (.slice x r.ip.length c) r.ip :: OwnB 5 (.slice q n j) E :: OwnB 5 (.slice p n k) E :: Blk (w.heap.size + 1) (.cells #[.int .i64 b.kind, .slice bx b.ip.length bc, .string b.name, .int .i64 b.port] 25 (0, 0)) :: Blk w.heap.size (.cells #[.int .i64 a.kind, .slice ax a.ip.length ac, .string a.name, .int .i64 a.port] 25 (0, 0)) :: []) → Calls Tryd.prog 14 #[.agg #[.int .i64 r.kind, .slice x r.ip.length c, .string r.name, .int .i64 r.port], .agg #[.int .i64 r.kind, .slice y r.ip.length d, .string r.name, .int .i64 r.port]] W fun e w' => e = .returned (.bool true) ∧ Sat w w' (Blk gy (.cells #[.int .i64 r.kind, .slice y r.ip.length d, .string r.name, .int .i64 r.port] 25 (0, 0)) :: OwnB 5 (.slice y r.ip.length d) r.ip :: Blk gx (.cells #[.int .i64 r.kind, .slice x r.ip.length c, .string r.name, .int .i64 r.port] 25 (0, 0)) :: OwnB 5 (.slice x r.ip.length c) r.ip :: OwnB 5 (.slice q n j) E :: OwnB 5 (.slice p n k) E :: Blk (w.heap.size + 1) (.cells #[.int .i64 b.kind, .slice bx b.ip.length bc, .string b.name, .int .i64 b.port] 25 (0, 0)) :: Blk w.heap.size (.cells #[.int .i64 a.kind, .slice ax a.ip.length ac, .string a.name, .int .i64 a.port] 25 (0, 0)) :: []) := fun W h => by
    have h1 := ref_SameAddr r r x y c d (OwnB.rd (Sat.front [_, _, _] h)) (OwnB.rd (Sat.front [_] h))
    rw [sameAd_self] at h1
    exact h1.mono (fun e w' ⟨he, hb⟩ => ⟨he, h.under hb⟩)
  have hXX := str_self X
  have hTT := str_self T
  have HX := hid_ hX
  have t0 := h7.drew
  clear hX h6 hEy hEr hDy hDr
  go_upto_region 7 with fail
  clear hgy
  refine wp_region_noPanic ?_
  refine wp_region_held_drew (S := fun W => (W.cell? ⟨w.heap.size, 0, none⟩ = some (.int .i64 a.kind) ∧ W.cell? ⟨w.heap.size, 1, none⟩ = some (.slice ax a.ip.length ac) ∧ W.cell? ⟨w.heap.size, 2, none⟩ = some (.string a.name) ∧ W.cell? ⟨w.heap.size, 3, none⟩ = some (.int .i64 a.port)) ∧ (W.cell? ⟨w.heap.size + 1, 0, none⟩ = some (.int .i64 b.kind) ∧ W.cell? ⟨w.heap.size + 1, 1, none⟩ = some (.slice bx b.ip.length bc) ∧ W.cell? ⟨w.heap.size + 1, 2, none⟩ = some (.string b.name) ∧ W.cell? ⟨w.heap.size + 1, 3, none⟩ = some (.int .i64 b.port)) ∧ (W.cell? ⟨gx, 0, none⟩ = some (.int .i64 r.kind) ∧ W.cell? ⟨gx, 1, none⟩ = some (.slice x r.ip.length c) ∧ W.cell? ⟨gx, 2, none⟩ = some (.string r.name) ∧ W.cell? ⟨gx, 3, none⟩ = some (.int .i64 r.port)) ∧ (W.cell? ⟨gy, 0, none⟩ = some (.int .i64 r.kind) ∧ W.cell? ⟨gy, 1, none⟩ = some (.slice y r.ip.length d) ∧ W.cell? ⟨gy, 2, none⟩ = some (.string r.name) ∧ W.cell? ⟨gy, 3, none⟩ = some (.int .i64 r.port)) ∧ (convert 23 9 (.slice p n k)).run Tryd.prog W = .ok (.string X) W ∧ (convert 23 9 (.slice q n j)).run Tryd.prog W = .ok (.string X) W) (by kernel_rfl) (mk _ t0) (fun hHeld => ?_)
  refine wpAnyH_take (i := 0) (oi := ⟨(some 67), _, _, _, _, _⟩) (v := ?va0) rfl (by kernel_rfl) (by kernel_rfl) (by kernel_rfl) (fun _ _ _ h => h) (Or.inl ⟨by rfl, ?ya0⟩) hHeld ?_
  case ya0 => intro W hW; (try dsimp only at hW); go_simp; try with_reducible rfl
  try simp only [Act.put, List.setIfInBounds_toArray, List.set_cons_zero, List.set_cons_succ]
  refine wpAnyH_take (i := 2) (oi := ⟨(some 69), _, _, _, _, _⟩) (v := ?va2) rfl (by kernel_rfl) (by kernel_rfl) (by kernel_rfl) (fun _ _ _ h => h) (Or.inl ⟨by rfl, ?ya2⟩) hHeld ?_
  case ya2 => intro W hW; (try dsimp only at hW); go_simp; try with_reducible rfl
  try simp only [Act.put, List.setIfInBounds_toArray, List.set_cons_zero, List.set_cons_succ]
  refine wpAnyH_ready (rs := [1]) (by kernel_rfl) (by simp) ?_
  refine AllReadyH.cons (o := ⟨some 68, _, _, _, _, _⟩) rfl (fun K hK => ?_) AllReadyH.nil
  go_simp
  go_at_call 10
  refine (hMy _ _ t0).mono ?_
  rintro _ v1 ⟨rfl, t1⟩
  refine hK.out _ _ (mk _ t1) (fun hHeld => ?_)
  clear hK K
  try simp only [Act.put, List.setIfInBounds_toArray, List.set_cons_zero, List.set_cons_succ]
  refine wpAnyH_ready (rs := [3]) (by kernel_rfl) (by simp) ?_
  refine AllReadyH.cons (o := ⟨some 70, _, _, _, _, _⟩) rfl (fun K hK => ?_) AllReadyH.nil
  go_simp
  go_at_call 17
  refine (hMr _ _ t1).mono ?_
  rintro _ v2 ⟨rfl, t2⟩
  refine hK.out _ _ (mk _ t2) (fun hHeld => ?_)
  clear hK K
  try simp only [Act.put, List.setIfInBounds_toArray, List.set_cons_zero, List.set_cons_succ]
  refine wpAnyH_take (i := 4) (oi := ⟨(some 71), _, _, _, _, _⟩) (v := ?vb4) rfl (by kernel_rfl) (by kernel_rfl) (by kernel_rfl) (fun _ _ _ h => h) (Or.inl ⟨by rfl, ?yb4⟩) hHeld ?_
  case yb4 => intro W hW; (try dsimp only at hW); go_simp; try with_reducible rfl
  try simp only [Act.put, List.setIfInBounds_toArray, List.set_cons_zero, List.set_cons_succ]
  refine wpAnyH_take (i := 5) (oi := ⟨(some 72), _, _, _, _, _⟩) (v := ?vb5) rfl (by kernel_rfl) (by kernel_rfl) (by kernel_rfl) (fun _ _ _ h => h) (Or.inl ⟨by rfl, ?yb5⟩) hHeld ?_
  case yb5 => intro W hW; (try dsimp only at hW); go_simp; try with_reducible rfl
  try simp only [Act.put, List.setIfInBounds_toArray, List.set_cons_zero, List.set_cons_succ]
  refine wpAnyH_take (i := 6) (oi := ⟨(some 73), _, _, _, _, _⟩) (v := ?vb6) rfl (by kernel_rfl) (by kernel_rfl) (by kernel_rfl) (fun _ _ _ h => h) (Or.inl ⟨by rfl, ?yb6⟩) hHeld ?_
  case yb6 => intro W hW; (try dsimp only at hW); go_simp; try with_reducible rfl
  try simp only [Act.put, List.setIfInBounds_toArray, List.set_cons_zero, List.set_cons_succ]
  refine wpAnyH_take (i := 7) (oi := ⟨(some 74), _, _, _, _, _⟩) (v := ?vb7) rfl (by kernel_rfl) (by kernel_rfl) (by kernel_rfl) (fun _ _ _ h => h) (Or.inl ⟨by rfl, ?yb7⟩) hHeld ?_
  case yb7 => intro W hW; (try dsimp only at hW); go_simp; try with_reducible rfl
  try simp only [Act.put, List.setIfInBounds_toArray, List.set_cons_zero, List.set_cons_succ]
  refine wpAnyH_take (i := 9) (oi := ⟨(some 76), _, _, _, _, _⟩) (v := ?vb9) rfl (by kernel_rfl) (by kernel_rfl) (by kernel_rfl) (fun _ _ _ h => h) (Or.inl ⟨by rfl, ?yb9⟩) hHeld ?_
  case yb9 => intro W hW; (try dsimp only at hW); go_simp; try with_reducible rfl
  try simp only [Act.put, List.setIfInBounds_toArray, List.set_cons_zero, List.set_cons_succ]
  refine wpAnyH_take (i := 10) (oi := ⟨(some 77), _, _, _, _, _⟩) (v := ?vb10) rfl (by kernel_rfl) (by kernel_rfl) (by kernel_rfl) (fun _ _ _ h => h) (Or.inl ⟨by rfl, ?yb10⟩) hHeld ?_
  case yb10 => intro W hW; (try dsimp only at hW); go_simp; try with_reducible rfl
  try simp only [Act.put, List.setIfInBounds_toArray, List.set_cons_zero, List.set_cons_succ]
  refine wpAnyH_ready (rs := [8]) (by kernel_rfl) (by simp) ?_
  refine AllReadyH.cons (o := ⟨some 75, _, _, _, _, _⟩) rfl (fun K hK => ?_) AllReadyH.nil
  go_simp
  go_at_call 11
  refine (hSy _ _ t2).mono ?_
  rintro _ v3 ⟨rfl, t3⟩
  refine hK.out _ _ (mk _ t3) (fun hHeld => ?_)
  clear hK K
  try simp only [Act.put, List.setIfInBounds_toArray, List.set_cons_zero, List.set_cons_succ]
  refine wpAnyH_ready (rs := [11]) (by kernel_rfl) (by simp) ?_
  refine AllReadyH.cons (o := ⟨some 78, _, _, _, _, _⟩) rfl (fun K hK => ?_) AllReadyH.nil
  go_simp
  go_at_call 14
  refine (hSr _ _ t3).mono ?_
  rintro _ v4 ⟨rfl, t4⟩
  refine hK.out _ _ (mk _ t4) (fun hHeld => ?_)
  clear hK K
  try simp only [Act.put, List.setIfInBounds_toArray, List.set_cons_zero, List.set_cons_succ]
  refine wpAnyH_take (i := 12) (oi := ⟨(some 79), _, _, _, _, _⟩) (v := ?vc12) rfl (by kernel_rfl) (by kernel_rfl) (by kernel_rfl) (fun _ _ _ h => h) (Or.inl ⟨by rfl, ?yc12⟩) hHeld ?_
  case yc12 => intro W hW; (try dsimp only at hW); go_simp; try with_reducible rfl
  try simp only [Act.put, List.setIfInBounds_toArray, List.set_cons_zero, List.set_cons_succ]
  refine wpAnyH_take (i := 13) (oi := ⟨(some 80), _, _, _, _, _⟩) (v := ?vc13) rfl (by kernel_rfl) (by kernel_rfl) (by kernel_rfl) (fun _ _ _ h => h) (Or.inl ⟨by rfl, ?yc13⟩) hHeld ?_
  case yc13 => intro W hW; (try dsimp only at hW); go_simp; try with_reducible rfl
  try simp only [Act.put, List.setIfInBounds_toArray, List.set_cons_zero, List.set_cons_succ]
  refine wpAnyH_take (i := 14) (oi := ⟨(some 81), _, _, _, _, _⟩) (v := ?vc14) rfl (by kernel_rfl) (by kernel_rfl) (by kernel_rfl) (fun _ _ _ h => h) (Or.inl ⟨by rfl, ?yc14⟩) hHeld ?_
  case yc14 => intro W hW; (try dsimp only at hW); go_simp; try with_reducible rfl
  try simp only [Act.put, List.setIfInBounds_toArray, List.set_cons_zero, List.set_cons_succ]
  refine wpAnyH_take (i := 15) (oi := ⟨(some 82), _, _, _, _, _⟩) (v := ?vc15) rfl (by kernel_rfl) (by kernel_rfl) (by kernel_rfl) (fun _ _ _ h => h) (Or.inl ⟨by rfl, ?yc15⟩) hHeld ?_
  case yc15 => intro W hW; (try dsimp only at hW); go_simp; try with_reducible rfl
  try simp only [Act.put, List.setIfInBounds_toArray, List.set_cons_zero, List.set_cons_succ]
  refine wpAnyH_take (i := 17) (oi := ⟨(some 84), _, _, _, _, _⟩) (v := ?vc17) rfl (by kernel_rfl) (by kernel_rfl) (by kernel_rfl) (fun _ _ _ h => h) (Or.inl ⟨by rfl, ?yc17⟩) hHeld ?_
  case yc17 => intro W hW; (try dsimp only at hW); go_simp; try with_reducible rfl
  try simp only [Act.put, List.setIfInBounds_toArray, List.set_cons_zero, List.set_cons_succ]
  refine wpAnyH_ready (rs := [16]) (by kernel_rfl) (by simp) ?_
  refine AllReadyH.cons (o := ⟨some 83, _, _, _, _, _⟩) rfl (fun K hK => ?_) AllReadyH.nil
  go_simp
  go_at_call 12
  refine (hTy _ _ t4).mono ?_
  rintro _ v5 ⟨rfl, t5⟩
  refine hK.out _ _ (mk _ t5) (fun hHeld => ?_)
  clear hK K
  try simp only [Act.put, List.setIfInBounds_toArray, List.set_cons_zero, List.set_cons_succ]
  refine wpAnyH_ready (rs := [18]) (by kernel_rfl) (by simp) ?_
  refine AllReadyH.cons (o := ⟨some 85, _, _, _, _, _⟩) rfl (fun K hK => ?_) AllReadyH.nil
  go_simp
  go_at_call 18
  refine (hTr _ _ t5).mono ?_
  rintro _ v6 ⟨rfl, t6⟩
  refine hK.out _ _ (mk _ t6) (fun hHeld => ?_)
  clear hK K
  try simp only [Act.put, List.setIfInBounds_toArray, List.set_cons_zero, List.set_cons_succ]
  refine wpAnyH_take (i := 19) (oi := ⟨(some 86), _, _, _, _, _⟩) (v := ?vd19) rfl (by kernel_rfl) (by kernel_rfl) (by kernel_rfl) (fun _ _ _ h => h) (Or.inl ⟨by rfl, ?yd19⟩) hHeld ?_
  case yd19 => intro W hW; (try dsimp only at hW); go_simp; try with_reducible rfl
  try simp only [Act.put, List.setIfInBounds_toArray, List.set_cons_zero, List.set_cons_succ]
  refine wpAnyH_take (i := 20) (oi := ⟨(some 87), _, _, _, _, _⟩) (v := ?vd20) rfl (by kernel_rfl) (by kernel_rfl) (by kernel_rfl) (fun _ _ _ h => h) (Or.inl ⟨by rfl, ?yd20⟩) hHeld ?_
  case yd20 => intro W hW; (try dsimp only at hW); go_simp; try with_reducible rfl
  try simp only [Act.put, List.setIfInBounds_toArray, List.set_cons_zero, List.set_cons_succ]
  refine wpAnyH_take (i := 21) (oi := ⟨(some 88), _, _, _, _, _⟩) (v := ?vd21) rfl (by kernel_rfl) (by kernel_rfl) (by kernel_rfl) (fun _ _ _ h => h) (Or.inl ⟨by rfl, ?yd21⟩) hHeld ?_
  case yd21 => intro W hW; (try dsimp only at hW); go_simp; try with_reducible rfl
  try simp only [Act.put, List.setIfInBounds_toArray, List.set_cons_zero, List.set_cons_succ]
  refine wpAnyH_take (i := 22) (oi := ⟨(some 89), _, _, _, _, _⟩) (v := ?vd22) rfl (by kernel_rfl) (by kernel_rfl) (by kernel_rfl) (fun _ _ _ h => h) (Or.inl ⟨by rfl, ?yd22⟩) hHeld ?_
  case yd22 => intro W hW; (try dsimp only at hW); go_simp; try with_reducible rfl
  try simp only [Act.put, List.setIfInBounds_toArray, List.set_cons_zero, List.set_cons_succ]
  refine wpAnyH_take (i := 23) (oi := ⟨(some 90), _, _, _, _, _⟩) (v := ?vd23) rfl (by kernel_rfl) (by kernel_rfl) (by kernel_rfl) (fun _ _ _ h => h) (Or.inl ⟨by rfl, ?yd23⟩) hHeld ?_
  case yd23 => intro W hW; (try dsimp only at hW); go_simp; try with_reducible rfl
  try simp only [Act.put, List.setIfInBounds_toArray, List.set_cons_zero, List.set_cons_succ]
  refine wpAnyH_take (i := 24) (oi := ⟨(some 91), _, _, _, _, _⟩) (v := ?vd24) rfl (by kernel_rfl) (by kernel_rfl) (by kernel_rfl) (fun _ _ _ h => h) (Or.inl ⟨by rfl, ?yd24⟩) hHeld ?_
  case yd24 => intro W hW; (try dsimp only at hW); go_simp; try with_reducible rfl
  try simp only [Act.put, List.setIfInBounds_toArray, List.set_cons_zero, List.set_cons_succ]
  refine wpAnyH_take (i := 25) (oi := ⟨(some 92), _, _, _, _, _⟩) (v := ?vd25) rfl (by kernel_rfl) (by kernel_rfl) (by kernel_rfl) (fun _ _ _ h => h) (Or.inl ⟨by rfl, ?yd25⟩) hHeld ?_
  case yd25 => intro W hW; (try dsimp only at hW); go_simp; try with_reducible rfl
  try simp only [Act.put, List.setIfInBounds_toArray, List.set_cons_zero, List.set_cons_succ]
  refine wpAnyH_take (i := 26) (oi := ⟨(some 93), _, _, _, _, _⟩) (v := ?vd26) rfl (by kernel_rfl) (by kernel_rfl) (by kernel_rfl) (fun _ _ _ h => h) (Or.inl ⟨by rfl, ?yd26⟩) hHeld ?_
  case yd26 => intro W hW; (try dsimp only at hW); go_simp; try with_reducible rfl
  try simp only [Act.put, List.setIfInBounds_toArray, List.set_cons_zero, List.set_cons_succ]
  refine wpAnyH_take (i := 27) (oi := ⟨(some 94), _, _, _, _, _⟩) (v := ?vd27) rfl (by kernel_rfl) (by kernel_rfl) (by kernel_rfl) (fun _ _ _ h => h) (Or.inl ⟨by rfl, ?yd27⟩) hHeld ?_
  case yd27 => intro W hW; (try dsimp only at hW); go_simp; try with_reducible rfl
  try simp only [Act.put, List.setIfInBounds_toArray, List.set_cons_zero, List.set_cons_succ]
  refine wpAnyH_take (i := 28) (oi := ⟨(some 95), _, _, _, _, _⟩) (v := ?vd28) rfl (by kernel_rfl) (by kernel_rfl) (by kernel_rfl) (fun _ _ _ h => h) (Or.inl ⟨by rfl, ?yd28⟩) hHeld ?_
  case yd28 => intro W hW; (try dsimp only at hW); go_simp; try with_reducible rfl
  try simp only [Act.put, List.setIfInBounds_toArray, List.set_cons_zero, List.set_cons_succ]
  refine wpAnyH_take (i := 29) (oi := ⟨(some 96), _, _, _, _, _⟩) (v := ?vd29) rfl (by kernel_rfl) (by kernel_rfl) (by kernel_rfl) (fun _ _ _ h => h) (Or.inl ⟨by rfl, ?yd29⟩) hHeld ?_
  case yd29 => intro W hW; (try dsimp only at hW); go_simp; try with_reducible rfl
  try simp only [Act.put, List.setIfInBounds_toArray, List.set_cons_zero, List.set_cons_succ]
  refine wpAnyH_take (i := 30) (oi := ⟨(some 97), _, _, _, _, _⟩) (v := ?vd30) rfl (by kernel_rfl) (by kernel_rfl) (by kernel_rfl) (fun _ _ _ h => h) (Or.inl ⟨by rfl, ?yd30⟩) hHeld ?_
  case yd30 => intro W hW; (try dsimp only at hW); go_simp; try with_reducible rfl
  try simp only [Act.put, List.setIfInBounds_toArray, List.set_cons_zero, List.set_cons_succ]
  refine wpAnyH_take (i := 31) (oi := ⟨(some 98), _, _, _, _, _⟩) (v := ?vd31) rfl (by kernel_rfl) (by kernel_rfl) (by kernel_rfl) (fun _ _ _ h => h) (Or.inl ⟨by rfl, ?yd31⟩) hHeld ?_
  case yd31 => intro W hW; (try dsimp only at hW); go_simp; try with_reducible rfl
  try simp only [Act.put, List.setIfInBounds_toArray, List.set_cons_zero, List.set_cons_succ]
  refine wpAnyH_take (i := 32) (oi := ⟨(some 99), _, _, _, _, _⟩) (v := ?vd32) rfl (by kernel_rfl) (by kernel_rfl) (by kernel_rfl) (fun _ _ _ h => h) (Or.inl ⟨by rfl, ?yd32⟩) hHeld ?_
  case yd32 => intro W hW; (try dsimp only at hW); go_simp; try with_reducible rfl
  try simp only [Act.put, List.setIfInBounds_toArray, List.set_cons_zero, List.set_cons_succ]
  refine wpAnyH_take (i := 33) (oi := ⟨(some 100), _, _, _, _, _⟩) (v := ?vd33) rfl (by kernel_rfl) (by kernel_rfl) (by kernel_rfl) (fun _ _ _ h => h) (Or.inl ⟨by rfl, ?yd33⟩) hHeld ?_
  case yd33 => intro W hW; (try dsimp only at hW); go_simp; try with_reducible rfl
  try simp only [Act.put, List.setIfInBounds_toArray, List.set_cons_zero, List.set_cons_succ]
  refine wpAnyH_take (i := 34) (oi := ⟨(some 101), _, _, _, _, _⟩) (v := ?vd34) rfl (by kernel_rfl) (by kernel_rfl) (by kernel_rfl) (fun _ _ _ h => h) (Or.inl ⟨by rfl, ?yd34⟩) hHeld ?_
  case yd34 => intro W hW; (try dsimp only at hW); go_simp; try with_reducible rfl
  try simp only [Act.put, List.setIfInBounds_toArray, List.set_cons_zero, List.set_cons_succ]
  refine wpAnyH_take (i := 35) (oi := ⟨(some 102), _, _, _, _, _⟩) (v := ?vd35) rfl (by kernel_rfl) (by kernel_rfl) (by kernel_rfl) (fun _ _ _ h => h) (Or.inl ⟨by rfl, ?yd35⟩) hHeld ?_
  case yd35 => intro W hW; (try dsimp only at hW); go_simp; try with_reducible rfl
  try simp only [Act.put, List.setIfInBounds_toArray, List.set_cons_zero, List.set_cons_succ]
  refine wpAnyH_ready (rs := [36]) (by kernel_rfl) (by simp) ?_
  refine AllReadyH.cons (o := ⟨some 103, _, _, _, _, _⟩) rfl (fun K hK => ?_) AllReadyH.nil
  go_simp
  go_at_call 14
  refine (hSx _ t6).mono ?_
  rintro _ v7 ⟨rfl, t7⟩
  refine hK.out _ _ (mk _ t7) (fun hHeld => ?_)
  clear hK K
  try simp only [Act.put, List.setIfInBounds_toArray, List.set_cons_zero, List.set_cons_succ]
  refine wpAnyH_take (i := 37) (oi := ⟨(some 104), _, _, _, _, _⟩) (v := ?ve37) rfl (by kernel_rfl) (by kernel_rfl) (by kernel_rfl) (fun _ _ _ h => h) (Or.inl ⟨by rfl, ?ye37⟩) hHeld ?_
  case ye37 => intro W hW; (try dsimp only at hW); go_simp; try with_reducible rfl
  try simp only [Act.put, List.setIfInBounds_toArray, List.set_cons_zero, List.set_cons_succ]
  refine wpAnyH_take (i := 38) (oi := ⟨(some 105), _, _, _, _, _⟩) (v := ?ve38) rfl (by kernel_rfl) (by kernel_rfl) (by kernel_rfl) (fun _ _ _ h => h) (Or.inl ⟨by rfl, ?ye38⟩) hHeld ?_
  case ye38 => intro W hW; (try dsimp only at hW); go_simp; try with_reducible rfl
  try simp only [Act.put, List.setIfInBounds_toArray, List.set_cons_zero, List.set_cons_succ]
  refine wpAnyH_take (i := 39) (oi := ⟨(some 106), _, _, _, _, _⟩) (v := ?ve39) rfl (by kernel_rfl) (by kernel_rfl) (by kernel_rfl) (fun _ _ _ h => h) (Or.inl ⟨by rfl, ?ye39⟩) hHeld ?_
  case ye39 => intro W hW; (try dsimp only at hW); go_simp; try with_reducible rfl
  try simp only [Act.put, List.setIfInBounds_toArray, List.set_cons_zero, List.set_cons_succ]
  refine wpAnyH_take (i := 40) (oi := ⟨(some 107), _, _, _, _, _⟩) (v := ?ve40) rfl (by kernel_rfl) (by kernel_rfl) (by kernel_rfl) (fun _ _ _ h => h) (Or.inl ⟨by rfl, ?ye40⟩) hHeld ?_
  case ye40 => intro W hW; (try dsimp only at hW); go_simp; try with_reducible rfl
  try simp only [Act.put, List.setIfInBounds_toArray, List.set_cons_zero, List.set_cons_succ]
  refine wpAnyH_take (i := 41) (oi := ⟨(some 108), _, _, _, _, _⟩) (v := ?ve41) rfl (by kernel_rfl) (by kernel_rfl) (by kernel_rfl) (fun _ _ _ h => h) (Or.inl ⟨by rfl, ?ye41⟩) hHeld ?_
  case ye41 => intro W hW; (try dsimp only at hW); go_simp; try with_reducible rfl
  try simp only [Act.put, List.setIfInBounds_toArray, List.set_cons_zero, List.set_cons_succ]
  refine wpAnyH_take (i := 42) (oi := ⟨(some 109), _, _, _, _, _⟩) (v := ?ve42) rfl (by kernel_rfl) (by kernel_rfl) (by kernel_rfl) (fun _ _ _ h => h) (Or.inl ⟨by rfl, ?ye42⟩) hHeld ?_
  case ye42 => intro W hW; (try dsimp only at hW); go_simp; try with_reducible rfl
  try simp only [Act.put, List.setIfInBounds_toArray, List.set_cons_zero, List.set_cons_succ]
  refine wpAnyH_take (i := 43) (oi := ⟨(some 110), _, _, _, _, _⟩) (v := ?ve43) rfl (by kernel_rfl) (by kernel_rfl) (by kernel_rfl) (fun _ _ _ h => h) (Or.inl ⟨by rfl, ?ye43⟩) hHeld ?_
  case ye43 => intro W hW; (try dsimp only at hW); go_simp; try with_reducible rfl
  try simp only [Act.put, List.setIfInBounds_toArray, List.set_cons_zero, List.set_cons_succ]
  refine wpAnyH_take (i := 44) (oi := ⟨(some 111), _, _, _, _, _⟩) (v := ?ve44) rfl (by kernel_rfl) (by kernel_rfl) (by kernel_rfl) (fun _ _ _ h => h) (Or.inl ⟨by rfl, ?ye44⟩) hHeld ?_
  case ye44 => intro W hW; (try dsimp only at hW); go_simp; try with_reducible rfl
  try simp only [Act.put, List.setIfInBounds_toArray, List.set_cons_zero, List.set_cons_succ]
  refine wpAnyH_take (i := 45) (oi := ⟨(some 112), _, _, _, _, _⟩) (v := ?ve45) rfl (by kernel_rfl) (by kernel_rfl) (by kernel_rfl) (fun _ _ _ h => h) (Or.inl ⟨by rfl, ?ye45⟩) hHeld ?_
  case ye45 => intro W hW; (try dsimp only at hW); go_simp; try with_reducible rfl
  try simp only [Act.put, List.setIfInBounds_toArray, List.set_cons_zero, List.set_cons_succ]
  refine wpAnyH_take (i := 46) (oi := ⟨(some 113), _, _, _, _, _⟩) (v := ?ve46) rfl (by kernel_rfl) (by kernel_rfl) (by kernel_rfl) (fun _ _ _ h => h) (Or.inl ⟨by rfl, ?ye46⟩) hHeld ?_
  case ye46 => intro W hW; (try dsimp only at hW); go_simp; try with_reducible rfl
  try simp only [Act.put, List.setIfInBounds_toArray, List.set_cons_zero, List.set_cons_succ]
  refine wpAnyH_take (i := 47) (oi := ⟨(some 114), _, _, _, _, _⟩) (v := ?ve47) rfl (by kernel_rfl) (by kernel_rfl) (by kernel_rfl) (fun _ _ _ h => h) (Or.inl ⟨by rfl, ?ye47⟩) hHeld ?_
  case ye47 => intro W hW; (try dsimp only at hW); go_simp; try with_reducible rfl
  try simp only [Act.put, List.setIfInBounds_toArray, List.set_cons_zero, List.set_cons_succ]
  refine wpAnyH_take (i := 48) (oi := ⟨(some 115), _, _, _, _, _⟩) (v := ?ve48) rfl (by kernel_rfl) (by kernel_rfl) (by kernel_rfl) (fun _ _ _ h => h) (Or.inl ⟨by rfl, ?ye48⟩) hHeld ?_
  case ye48 => intro W hW; (try dsimp only at hW); go_simp; try with_reducible rfl
  try simp only [Act.put, List.setIfInBounds_toArray, List.set_cons_zero, List.set_cons_succ]
  refine wpAnyH_ready (rs := [49]) (by kernel_rfl) (by simp) ?_
  refine AllReadyH.cons (o := ⟨some 116, _, _, _, _, _⟩) rfl (fun K hK => ?_) AllReadyH.nil
  go_simp
  go_at_call 8
  refine (hAw _ _ t7).mono ?_
  rintro _ v8 ⟨rfl, t8⟩
  refine hK.out _ _ (mk _ t8) (fun hHeld => ?_)
  clear hK K
  try simp only [Act.put, List.setIfInBounds_toArray, List.set_cons_zero, List.set_cons_succ]
  refine wpAnyH_take (i := 50) (oi := ⟨(some 117), _, _, _, _, _⟩) (v := ?vf50) rfl (by kernel_rfl) (by kernel_rfl) (by kernel_rfl) (fun _ _ _ h => h) (Or.inl ⟨by rfl, ?yf50⟩) hHeld ?_
  case yf50 => intro W hW; (try dsimp only at hW); go_simp; try with_reducible rfl
  try simp only [Act.put, List.setIfInBounds_toArray, List.set_cons_zero, List.set_cons_succ]
  refine wpAnyH_take (i := 51) (oi := ⟨(some 6), _, _, _, _, _⟩) (v := ?vf51) rfl (by kernel_rfl) (by kernel_rfl) (by kernel_rfl) (fun _ _ _ h => h) (Or.inl ⟨by rfl, ?yf51⟩) hHeld ?_
  case yf51 => intro W hW; (try dsimp only at hW); go_simp; try with_reducible rfl
  try simp only [Act.put, List.setIfInBounds_toArray, List.set_cons_zero, List.set_cons_succ]
  refine wpAnyH_done (by kernel_rfl) (NoPanic.normal ?_) _
  go_wp2_with fail
  go_ret
  exact ⟨rfl, t8.below⟩
end
end Go.Proofs.YtanihjibjjpdbaaDoor
