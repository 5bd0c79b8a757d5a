/- The law AddrApart, walked. -/
import Derived.Test.YtanihjibjjpdbaaDoorAdV
namespace Go.Proofs.YtanihjibjjpdbaaDoor
open Go Go.RowKit
set_option linter.unusedVariables false
set_option linter.unusedSimpArgs false

theorem str_eq_of {a b : List UInt8} (h : ((strOf a).toList == (strOf b).toList) = true) : a = b := by
  have e : ∀ l : List UInt8, (strOf l).toList = l := by
    intro l
    have : (strOf l).toList = (strOf l).data.toList := ByteArray.toList_eq _
    rw [this, strOf_toList]
  rw [e, e] at h
  simpa using h
section
variable {w0 w : World} {L : List Assn}
set_option maxRecDepth 100000 in
set_option maxHeartbeats 4000000 in
theorem ad_apart_law (v u : Value) (w : World) (ht : TabOk w) (hz : TzOk w) (hv : IsAddr w v) (hu : IsAddr w u) :
    Calls Tryd.prog 4 #[v, u] w fun e w' => e = .returned (.bool true) ∧ Below w.heap.size w w' := by
  obtain ⟨a, ax, ac, rfl, hra⟩ := hv
  obtain ⟨b, bx, bc, rfl, hrb⟩ := hu
  unfold adA
  have hpos := ht.pos
  have hs := (Sat.refl w).alloc2 (.cells #[.int .i64 a.kind, .slice ax a.ip.length ac, .string a.name, .int .i64 a.port] 25 (0, 0)) (.cells #[.int .i64 b.kind, .slice bx b.ip.length bc, .string b.name, .int .i64 b.port] 25 (0, 0))
  have hAw : ∀ (W : World) (M : List Assn), Sat w W M → Calls Tryd.prog 8 #[] W fun e w' => e = .returned (.bool true) ∧ Sat w w' M := fun W M h => ad_awake ht hpos h
  have HPOS := hid_ hpos
  clear hpos
  have hMa : ∀ W M, Sat w W M → Calls Tryd.prog 10 #[.agg #[.int .i64 a.kind, .slice ax a.ip.length ac, .string a.name, .int .i64 a.port]] W fun e w' => e = .returned (.bool a.may) ∧ Sat w w' M := fun W M h => (addr_May a ax ac hra.name hra.ip.len).mono (fun e w' ⟨he, hb⟩ => ⟨he, h.under hb⟩)
  have hMb : ∀ W M, Sat w W M → Calls Tryd.prog 10 #[.agg #[.int .i64 b.kind, .slice bx b.ip.length bc, .string b.name, .int .i64 b.port]] W fun e w' => e = .returned (.bool b.may) ∧ Sat w w' M := fun W M h => (addr_May b bx bc hrb.name hrb.ip.len).mono (fun e w' ⟨he, hb⟩ => ⟨he, h.under hb⟩)
  have hcb : ∀ W M, Sat w W (Blk (w.heap.size + 1) (.cells #[.int .i64 b.kind, .slice bx b.ip.length bc, .string b.name, .int .i64 b.port] 25 (0, 0)) :: M) → W.cell? ⟨w.heap.size + 1, 0, none⟩ = some (.int .i64 b.kind) ∧ W.cell? ⟨w.heap.size + 1, 1, none⟩ = some (.slice bx b.ip.length bc) ∧ W.cell? ⟨w.heap.size + 1, 2, none⟩ = some (.string b.name) ∧ W.cell? ⟨w.heap.size + 1, 3, none⟩ = some (.int .i64 b.port) :=
    fun W M h => ⟨h.cell 0 rfl, h.cell 1 rfl, h.cell 2 rfl, h.cell 3 rfl⟩
  have hca : ∀ W M, Sat w W (Blk w.heap.size (.cells #[.int .i64 a.kind, .slice ax a.ip.length ac, .string a.name, .int .i64 a.port] 25 (0, 0)) :: M) → W.cell? ⟨w.heap.size, 0, none⟩ = some (.int .i64 a.kind) ∧ W.cell? ⟨w.heap.size, 1, none⟩ = some (.slice ax a.ip.length ac) ∧ W.cell? ⟨w.heap.size, 2, none⟩ = some (.string a.name) ∧ W.cell? ⟨w.heap.size, 3, none⟩ = some (.int .i64 a.port) :=
    fun W M h => ⟨h.cell 0 rfl, h.cell 1 rfl, h.cell 2 rfl, h.cell 3 rfl⟩
  have hEa : ∀ W M, a.may = true → Sat w W M → Calls Tryd.prog 9 #[.agg #[.int .i64 a.kind, .slice ax a.ip.length ac, .string a.name, .int .i64 a.port]] W fun e w' => ∃ p k, e = .returned (.tuple #[.slice p a.enc.length k, .int .i64 0]) ∧ Sat w w' (OwnB 5 (.slice p a.enc.length k) a.enc :: M) := fun W M hm h => addr_Encode_yes a ax ac hm h (fun W L' h => hra.ip.mono h.below)
  have hEb : ∀ W M, b.may = true → Sat w W M → Calls Tryd.prog 9 #[.agg #[.int .i64 b.kind, .slice bx b.ip.length bc, .string b.name, .int .i64 b.port]] W fun e w' => ∃ p k, e = .returned (.tuple #[.slice p b.enc.length k, .int .i64 0]) ∧ Sat w w' (OwnB 5 (.slice p b.enc.length k) b.enc :: M) := fun W M hm h => addr_Encode_yes b bx bc hm h (fun W L' h => hrb.ip.mono h.below)
  have hSab : ∀ W M, Sat w W M → Calls Tryd.prog 11 #[.agg #[.int .i64 a.kind, .slice ax a.ip.length ac, .string a.name, .int .i64 a.port], .agg #[.int .i64 b.kind, .slice bx b.ip.length bc, .string b.name, .int .i64 b.port]] W fun e w' => e = .returned (.bool (sameAd a b)) ∧ Sat w w' M := fun W M h => (addr_Same a b ax bx ac bc (hra.ip.mono h.below) (hrb.ip.mono h.below)).mono (fun e w' ⟨he, hb⟩ => ⟨he, h.under hb⟩)
  have hSaa : ∀ W M, Sat w W M → Calls Tryd.prog 11 #[.agg #[.int .i64 a.kind, .slice ax a.ip.length ac, .string a.name, .int .i64 a.port], .agg #[.int .i64 a.kind, .slice ax a.ip.length ac, .string a.name, .int .i64 a.port]] W fun e w' => e = .returned (.bool true) ∧ Sat w w' M := fun W M h => (same_self a ax ax ac ac (hra.ip.mono h.below) (hra.ip.mono h.below)).mono (fun e w' ⟨he, hb⟩ => ⟨he, h.under hb⟩)
  obtain ⟨Ta, hTa⟩ : ∃ Ta, strOf (txtA a) = Ta := ⟨_, rfl⟩
  have hXa : ∀ W M, Sat w W M → Calls Tryd.prog 12 #[.agg #[.int .i64 a.kind, .slice ax a.ip.length ac, .string a.name, .int .i64 a.port]] W fun e w' => e = .returned (.string Ta) ∧ Sat w w' M := fun W M h => by
    have h1 := addr_Text a ax ac hra.name ht hz h hra.ip
    rw [hTa] at h1
    exact h1
  by_cases hm : a.may = true
  case neg =>
    have hm0 : a.may = false := by simpa using hm
    rw [hm0] at hMa
    clear hm hm0 hEa hEb hSab hSaa hXa hTa
    obtain ⟨c0, c1, c2, c3⟩ := hca _ _ hs.swap
    go_enter Tryd.func4, Tryd.ntmps4
    go_wp2_with fail
    refine (hMa _ _ hs).mono ?_
    rintro _ w2 ⟨rfl, h2⟩
    go_wp2_with (go_at_call 8; refine (hAw _ _ h2).mono ?_; rintro _ w9 ⟨rfl, h11⟩)
    go_ret
    exact ⟨rfl, h11.below⟩
  by_cases hmb : b.may = true
  case neg =>
    have hm0 : b.may = false := by simpa using hmb
    rw [hm] at hMa
    rw [hm0] at hMb
    clear hm hm0 hmb hEa hEb hSab hSaa hXa hTa
    obtain ⟨c0, c1, c2, c3⟩ := hca _ _ hs.swap
    go_enter Tryd.func4, Tryd.ntmps4
    go_wp2_with fail
    refine (hMa _ _ hs).mono ?_
    rintro _ w2 ⟨rfl, h2⟩
    obtain ⟨c4, c5, c6, c7⟩ := hcb _ _ h2
    go_wp2_with fail
    refine (hMb _ _ h2).mono ?_
    rintro _ w3 ⟨rfl, h3⟩
    go_wp2_with (go_at_call 8; refine (hAw _ _ h3).mono ?_; rintro _ w9 ⟨rfl, h11⟩)
    go_ret
    exact ⟨rfl, h11.below⟩
  rw [hm] at hMa
  rw [hmb] at hMb
  have HM := hid_ hm
  have HMb := hid_ hmb
  have hEa' := fun W M => hEa W M HM.out
  have hEb' := fun W M => hEb W M HMb.out
  clear hEa hEb
  obtain ⟨E, hE⟩ : ∃ E, a.enc = E := ⟨_, rfl⟩
  obtain ⟨F, hF⟩ : ∃ F, b.enc = F := ⟨_, rfl⟩
  obtain ⟨n, hn⟩ : ∃ n, E.length = n := ⟨_, rfl⟩
  obtain ⟨m, hm2⟩ : ∃ m, F.length = m := ⟨_, rfl⟩
  have HE := hid_ hE
  have HF := hid_ hF
  have HN := hid_ hn
  have HN2 := hid_ hm2
  have HT := hid_ hTa
  rw [hE, hn] at hEa'
  rw [hF, hm2] at hEb'
  clear hm hmb hE hF hn hm2 hTa
  obtain ⟨s, hsm⟩ : ∃ s, sameAd a b = s := ⟨_, rfl⟩
  have HS := hid_ hsm
  rw [hsm] at hSab
  clear hsm
  obtain ⟨c0, c1, c2, c3⟩ := hca _ _ hs.swap
  go_enter Tryd.func4, Tryd.ntmps4
  go_wp2_with fail
  refine (hMa _ _ hs).mono ?_
  rintro _ w2 ⟨rfl, h2⟩
  obtain ⟨c4, c5, c6, c7⟩ := hcb _ _ h2
  go_wp2_with fail
  refine (hMb _ _ h2).mono ?_
  rintro _ w3 ⟨rfl, h3⟩
  clear c0 c1 c2 c3 c4 c5 c6 c7
  obtain ⟨c0, c1, c2, c3⟩ := hca _ _ h3.swap
  go_wp2_with fail
  refine (hEa' _ _ h3).mono ?_
  rintro _ w4 ⟨p, k, rfl, h4⟩
  clear c0 c1 c2 c3
  obtain ⟨c4, c5, c6, c7⟩ := hcb _ _ (Sat.front [_] h4)
  go_wp2_with fail
  refine (hEb' _ _ h4).mono ?_
  rintro _ w5 ⟨q, j, rfl, h5⟩
  clear c4 c5 c6 c7
  obtain ⟨c0, c1, c2, c3⟩ := hca _ _ (Sat.front [_, _, _] h5)
  obtain ⟨c4, c5, c6, c7⟩ := hcb _ _ (Sat.front [_, _] h5)
  go_wp2_with fail
  refine (hSab _ _ h5).mono ?_
  rintro _ w6 ⟨rfl, h6⟩
  clear c0 c1 c2 c3 c4 c5 c6 c7 h2 h3 h4 h5
  obtain ⟨X, hX⟩ : ∃ X, strOf E = X := ⟨_, rfl⟩
  obtain ⟨Y, hY⟩ : ∃ Y, strOf F = Y := ⟨_, rfl⟩
  have HX := hid_ hX
  have HY := hid_ hY
  have mk : ∀ W, Sat w W (OwnB 5 (.slice q m j) F :: OwnB 5 (.slice p n k) E :: Blk (w.heap.size + 1) (.cells #[.int .i64 b.kind, .slice bx b.ip.length bc, .string b.name, .int .i64 b.port] 25 (0, 0)) :: Blk w.heap.size (.cells #[.int .i64 a.kind, .slice ax a.ip.length ac, .string a.name, .int .i64 a.port] 25 (0, 0)) :: []) →
      (W.cell? ⟨w.heap.size, 0, none⟩ = some (.int .i64 a.kind) ∧ W.cell? ⟨w.heap.size, 1, none⟩ = some (.slice ax a.ip.length ac) ∧ W.cell? ⟨w.heap.size, 2, none⟩ = some (.string a.name) ∧ W.cell? ⟨w.heap.size, 3, none⟩ = some (.int .i64 a.port)) ∧
      (W.cell? ⟨w.heap.size + 1, 0, none⟩ = some (.int .i64 b.kind) ∧ W.cell? ⟨w.heap.size + 1, 1, none⟩ = some (.slice bx b.ip.length bc) ∧ W.cell? ⟨w.heap.size + 1, 2, none⟩ = some (.string b.name) ∧ W.cell? ⟨w.heap.size + 1, 3, none⟩ = some (.int .i64 b.port)) ∧
      (convert 23 9 (.slice p n k)).run Tryd.prog W = .ok (.string X) W ∧ (convert 23 9 (.slice q m j)).run Tryd.prog W = .ok (.string Y) W := fun W h =>
    ⟨hca _ _ (Sat.front [_, _, _] h), hcb _ _ (Sat.front [_, _] h), by rw [← HX.out]; exact conv_rd Tryd.underlying23 Tryd.underlying5 Tryd.underlying9 (OwnB.rd (Sat.front [_] h)), by rw [← HY.out]; exact conv_rd Tryd.underlying23 Tryd.underlying5 Tryd.underlying9 (OwnB.rd h)⟩
  have t0 := h6.drew
  cases s
  · have hne : (X.toList == Y.toList) = false := by
      have h1 : ¬ a = b := fun e => by have := HS.out; rw [sameAd_iff.2 e] at this; cases this
      have h2 : ¬ E = F := fun e => h1 ((enc_iff HM.out HMb.out).1 (by rw [HE.out, HF.out, e]))
      rw [← hX, ← hY]
      cases h3 : ((strOf E).toList == (strOf F).toList)
      · rfl
      · exact absurd (str_eq_of h3) h2
    clear hX hY
    go_upto_region 6 with fail
    refine wp_region_noPanic ?_
    refine wp_region_held_drew (S := (fun W => (W.cell? ⟨w.heap.size, 0, none⟩ = some (.int .i64 a.kind) ∧ W.cell? ⟨w.heap.size, 1, none⟩ = some (.slice ax a.ip.length ac) ∧ W.cell? ⟨w.heap.size, 2, none⟩ = some (.string a.name) ∧ W.cell? ⟨w.heap.size, 3, none⟩ = some (.int .i64 a.port)) ∧
      (W.cell? ⟨w.heap.size + 1, 0, none⟩ = some (.int .i64 b.kind) ∧ W.cell? ⟨w.heap.size + 1, 1, none⟩ = some (.slice bx b.ip.length bc) ∧ W.cell? ⟨w.heap.size + 1, 2, none⟩ = some (.string b.name) ∧ W.cell? ⟨w.heap.size + 1, 3, none⟩ = some (.int .i64 b.port)) ∧
      (convert 23 9 (.slice p n k)).run Tryd.prog W = .ok (.string X) W ∧ (convert 23 9 (.slice q m j)).run Tryd.prog W = .ok (.string Y) W)) (by kernel_rfl) (mk _ t0) (fun hHeld => ?_)
    refine wpAnyH_take (i := 0) (oi := ⟨(some 32), _, _, _, _, _⟩) (v := ?va0) rfl (by kernel_rfl) (by kernel_rfl) (by kernel_rfl) (fun _ _ _ h => h) (Or.inl ⟨by rfl, ?ya0⟩) hHeld ?_
    case ya0 => intro W hW; (try dsimp only at hW); go_simp; try with_reducible rfl
    try simp only [Act.put, List.setIfInBounds_toArray, List.set_cons_zero, List.set_cons_succ]
    refine wpAnyH_take (i := 1) (oi := ⟨(some 33), _, _, _, _, _⟩) (v := ?va1) rfl (by kernel_rfl) (by kernel_rfl) (by kernel_rfl) (fun _ _ _ h => h) (Or.inl ⟨by rfl, ?ya1⟩) hHeld ?_
    case ya1 => intro W hW; (try dsimp only at hW); go_simp; try with_reducible rfl
    try simp only [Act.put, List.setIfInBounds_toArray, List.set_cons_zero, List.set_cons_succ]
    refine wpAnyH_take (i := 2) (oi := ⟨(some 34), _, _, _, _, _⟩) (v := ?va2) rfl (by kernel_rfl) (by kernel_rfl) (by kernel_rfl) (fun _ _ _ h => h) (Or.inl ⟨by rfl, ?ya2⟩) hHeld ?_
    case ya2 => intro W hW; (try dsimp only at hW); go_simp; try with_reducible rfl
    try simp only [Act.put, List.setIfInBounds_toArray, List.set_cons_zero, List.set_cons_succ]
    refine wpAnyH_take (i := 3) (oi := ⟨(some 35), _, _, _, _, _⟩) (v := ?va3) rfl (by kernel_rfl) (by kernel_rfl) (by kernel_rfl) (fun _ _ _ h => h) (Or.inl ⟨by rfl, ?ya3⟩) hHeld ?_
    case ya3 => intro W hW; (try dsimp only at hW); go_simp; try with_reducible rfl
    try simp only [Act.put, List.setIfInBounds_toArray, List.set_cons_zero, List.set_cons_succ]
    refine wpAnyH_take (i := 4) (oi := ⟨(some 36), _, _, _, _, _⟩) (v := ?va4) rfl (by kernel_rfl) (by kernel_rfl) (by kernel_rfl) (fun _ _ _ h => h) (Or.inl ⟨by rfl, ?ya4⟩) hHeld ?_
    case ya4 => intro W hW; (try dsimp only at hW); go_simp; try with_reducible rfl
    try simp only [Act.put, List.setIfInBounds_toArray, List.set_cons_zero, List.set_cons_succ]
    refine wpAnyH_take (i := 5) (oi := ⟨(some 37), _, _, _, _, _⟩) (v := ?va5) rfl (by kernel_rfl) (by kernel_rfl) (by kernel_rfl) (fun _ _ _ h => h) (Or.inl ⟨by rfl, ?ya5⟩) hHeld ?_
    case ya5 => intro W hW; (try dsimp only at hW); go_simp; try with_reducible rfl
    try simp only [Act.put, List.setIfInBounds_toArray, List.set_cons_zero, List.set_cons_succ]
    refine wpAnyH_take (i := 6) (oi := ⟨(some 38), _, _, _, _, _⟩) (v := ?va6) rfl (by kernel_rfl) (by kernel_rfl) (by kernel_rfl) (fun _ _ _ h => h) (Or.inl ⟨by rfl, ?ya6⟩) hHeld ?_
    case ya6 => intro W hW; (try dsimp only at hW); go_simp; try with_reducible rfl
    try simp only [Act.put, List.setIfInBounds_toArray, List.set_cons_zero, List.set_cons_succ]
    refine wpAnyH_take (i := 7) (oi := ⟨(some 39), _, _, _, _, _⟩) (v := ?va7) rfl (by kernel_rfl) (by kernel_rfl) (by kernel_rfl) (fun _ _ _ h => h) (Or.inl ⟨by rfl, ?ya7⟩) hHeld ?_
    case ya7 => intro W hW; (try dsimp only at hW); go_simp; try with_reducible rfl
    try simp only [Act.put, List.setIfInBounds_toArray, List.set_cons_zero, List.set_cons_succ]
    refine wpAnyH_take (i := 8) (oi := ⟨(some 40), _, _, _, _, _⟩) (v := ?va8) rfl (by kernel_rfl) (by kernel_rfl) (by kernel_rfl) (fun _ _ _ h => h) (Or.inl ⟨by rfl, ?ya8⟩) hHeld ?_
    case ya8 => intro W hW; (try dsimp only at hW); go_simp; try with_reducible rfl
    try simp only [Act.put, List.setIfInBounds_toArray, List.set_cons_zero, List.set_cons_succ]
    refine wpAnyH_take (i := 9) (oi := ⟨(some 41), _, _, _, _, _⟩) (v := ?va9) rfl (by kernel_rfl) (by kernel_rfl) (by kernel_rfl) (fun _ _ _ h => h) (Or.inl ⟨by rfl, ?ya9⟩) hHeld ?_
    case ya9 => intro W hW; (try dsimp only at hW); go_simp; try with_reducible rfl
    try simp only [Act.put, List.setIfInBounds_toArray, List.set_cons_zero, List.set_cons_succ]
    refine wpAnyH_take (i := 10) (oi := ⟨(some 42), _, _, _, _, _⟩) (v := ?va10) rfl (by kernel_rfl) (by kernel_rfl) (by kernel_rfl) (fun _ _ _ h => h) (Or.inl ⟨by rfl, ?ya10⟩) hHeld ?_
    case ya10 => intro W hW; (try dsimp only at hW); go_simp; try with_reducible rfl
    try simp only [Act.put, List.setIfInBounds_toArray, List.set_cons_zero, List.set_cons_succ]
    refine wpAnyH_take (i := 11) (oi := ⟨(some 43), _, _, _, _, _⟩) (v := ?va11) rfl (by kernel_rfl) (by kernel_rfl) (by kernel_rfl) (fun _ _ _ h => h) (Or.inl ⟨by rfl, ?ya11⟩) hHeld ?_
    case ya11 => intro W hW; (try dsimp only at hW); go_simp; try with_reducible rfl
    try simp only [Act.put, List.setIfInBounds_toArray, List.set_cons_zero, List.set_cons_succ]
    refine wpAnyH_take (i := 12) (oi := ⟨(some 44), _, _, _, _, _⟩) (v := ?va12) rfl (by kernel_rfl) (by kernel_rfl) (by kernel_rfl) (fun _ _ _ h => h) (Or.inl ⟨by rfl, ?ya12⟩) hHeld ?_
    case ya12 => intro W hW; (try dsimp only at hW); go_simp; try with_reducible rfl
    try simp only [Act.put, List.setIfInBounds_toArray, List.set_cons_zero, List.set_cons_succ]
    refine wpAnyH_take (i := 13) (oi := ⟨(some 45), _, _, _, _, _⟩) (v := ?va13) rfl (by kernel_rfl) (by kernel_rfl) (by kernel_rfl) (fun _ _ _ h => h) (Or.inl ⟨by rfl, ?ya13⟩) hHeld ?_
    case ya13 => intro W hW; (try dsimp only at hW); go_simp; try with_reducible rfl
    try simp only [Act.put, List.setIfInBounds_toArray, List.set_cons_zero, List.set_cons_succ]
    refine wpAnyH_take (i := 14) (oi := ⟨(some 46), _, _, _, _, _⟩) (v := ?va14) rfl (by kernel_rfl) (by kernel_rfl) (by kernel_rfl) (fun _ _ _ h => h) (Or.inl ⟨by rfl, ?ya14⟩) hHeld ?_
    case ya14 => intro W hW; (try dsimp only at hW); go_simp; try with_reducible rfl
    try simp only [Act.put, List.setIfInBounds_toArray, List.set_cons_zero, List.set_cons_succ]
    refine wpAnyH_take (i := 15) (oi := ⟨(some 47), _, _, _, _, _⟩) (v := ?va15) rfl (by kernel_rfl) (by kernel_rfl) (by kernel_rfl) (fun _ _ _ h => h) (Or.inl ⟨by rfl, ?ya15⟩) hHeld ?_
    case ya15 => intro W hW; (try dsimp only at hW); go_simp; try with_reducible rfl
    try simp only [Act.put, List.setIfInBounds_toArray, List.set_cons_zero, List.set_cons_succ]
    refine wpAnyH_take (i := 16) (oi := ⟨(some 48), _, _, _, _, _⟩) (v := ?va16) rfl (by kernel_rfl) (by kernel_rfl) (by kernel_rfl) (fun _ _ _ h => h) (Or.inl ⟨by rfl, ?ya16⟩) hHeld ?_
    case ya16 => intro W hW; (try dsimp only at hW); go_simp; try with_reducible rfl
    try simp only [Act.put, List.setIfInBounds_toArray, List.set_cons_zero, List.set_cons_succ]
    refine wpAnyH_take (i := 17) (oi := ⟨(some 49), _, _, _, _, _⟩) (v := ?va17) rfl (by kernel_rfl) (by kernel_rfl) (by kernel_rfl) (fun _ _ _ h => h) (Or.inl ⟨by rfl, ?ya17⟩) hHeld ?_
    case ya17 => intro W hW; (try dsimp only at hW); go_simp; try with_reducible rfl
    try simp only [Act.put, List.setIfInBounds_toArray, List.set_cons_zero, List.set_cons_succ]
    refine wpAnyH_take (i := 18) (oi := ⟨(some 50), _, _, _, _, _⟩) (v := ?va18) rfl (by kernel_rfl) (by kernel_rfl) (by kernel_rfl) (fun _ _ _ h => h) (Or.inl ⟨by rfl, ?ya18⟩) hHeld ?_
    case ya18 => intro W hW; (try dsimp only at hW); go_simp; try with_reducible rfl
    try simp only [Act.put, List.setIfInBounds_toArray, List.set_cons_zero, List.set_cons_succ]
    refine wpAnyH_take (i := 19) (oi := ⟨(some 51), _, _, _, _, _⟩) (v := undef) rfl (by kernel_rfl) (by kernel_rfl) (by kernel_rfl) (fun _ _ _ h => h) (Or.inr ⟨by rfl, rfl⟩) hHeld ?_
    try simp only [Act.put, List.setIfInBounds_toArray, List.set_cons_zero, List.set_cons_succ]
    refine wpAnyH_take (i := 21) (oi := ⟨(some 53), _, _, _, _, _⟩) (v := undef) rfl (by kernel_rfl) (by kernel_rfl) (by kernel_rfl) (fun _ _ _ h => h) (Or.inr ⟨by rfl, rfl⟩) hHeld ?_
    try simp only [Act.put, List.setIfInBounds_toArray, List.set_cons_zero, List.set_cons_succ]
    refine wpAnyH_take (i := 20) (oi := ⟨(some 52), _, _, _, _, _⟩) (v := undef) rfl (by kernel_rfl) (by kernel_rfl) (by kernel_rfl) (fun _ _ _ h => h) (Or.inr ⟨by rfl, rfl⟩) hHeld ?_
    try simp only [Act.put, List.setIfInBounds_toArray, List.set_cons_zero, List.set_cons_succ]
    refine wpAnyH_take (i := 22) (oi := ⟨(some 54), _, _, _, _, _⟩) (v := undef) rfl (by kernel_rfl) (by kernel_rfl) (by kernel_rfl) (fun _ _ _ h => h) (Or.inr ⟨by rfl, rfl⟩) hHeld ?_
    try simp only [Act.put, List.setIfInBounds_toArray, List.set_cons_zero, List.set_cons_succ]
    refine wpAnyH_take (i := 23) (oi := ⟨(some 55), _, _, _, _, _⟩) (v := undef) rfl (by kernel_rfl) (by kernel_rfl) (by kernel_rfl) (fun _ _ _ h => h) (Or.inr ⟨by rfl, rfl⟩) hHeld ?_
    try simp only [Act.put, List.setIfInBounds_toArray, List.set_cons_zero, List.set_cons_succ]
    refine wpAnyH_take (i := 24) (oi := ⟨(some 56), _, _, _, _, _⟩) (v := ?vb24) rfl (by kernel_rfl) (by kernel_rfl) (by kernel_rfl) (fun _ _ _ h => h) (Or.inl ⟨by rfl, ?yb24⟩) hHeld ?_
    case yb24 => intro W hW; (try dsimp only at hW); go_simp; try with_reducible rfl
    try simp only [Act.put, List.setIfInBounds_toArray, List.set_cons_zero, List.set_cons_succ]
    refine wpAnyH_take (i := 25) (oi := ⟨(some 57), _, _, _, _, _⟩) (v := ?vb25) rfl (by kernel_rfl) (by kernel_rfl) (by kernel_rfl) (fun _ _ _ h => h) (Or.inl ⟨by rfl, ?yb25⟩) hHeld ?_
    case yb25 => intro W hW; (try dsimp only at hW); go_simp; try with_reducible rfl
    try simp only [Act.put, List.setIfInBounds_toArray, List.set_cons_zero, List.set_cons_succ]
    refine wpAnyH_take (i := 26) (oi := ⟨(some 58), _, _, _, _, _⟩) (v := ?vb26) rfl (by kernel_rfl) (by kernel_rfl) (by kernel_rfl) (fun _ _ _ h => h) (Or.inl ⟨by rfl, ?yb26⟩) hHeld ?_
    case yb26 => intro W hW; (try dsimp only at hW); go_simp; try with_reducible rfl
    try simp only [Act.put, List.setIfInBounds_toArray, List.set_cons_zero, List.set_cons_succ]
    refine wpAnyH_take (i := 27) (oi := ⟨(some 59), _, _, _, _, _⟩) (v := ?vb27) rfl (by kernel_rfl) (by kernel_rfl) (by kernel_rfl) (fun _ _ _ h => h) (Or.inl ⟨by rfl, ?yb27⟩) hHeld ?_
    case yb27 => intro W hW; (try dsimp only at hW); go_simp; try with_reducible rfl
    try simp only [Act.put, List.setIfInBounds_toArray, List.set_cons_zero, List.set_cons_succ]
    refine wpAnyH_take (i := 28) (oi := ⟨(some 60), _, _, _, _, _⟩) (v := ?vb28) rfl (by kernel_rfl) (by kernel_rfl) (by kernel_rfl) (fun _ _ _ h => h) (Or.inl ⟨by rfl, ?yb28⟩) hHeld ?_
    case yb28 => intro W hW; (try dsimp only at hW); go_simp; try with_reducible rfl
    try simp only [Act.put, List.setIfInBounds_toArray, List.set_cons_zero, List.set_cons_succ]
    refine wpAnyH_ready (rs := [29]) (by kernel_rfl) (by simp) ?_
    refine AllReadyH.cons (o := ⟨some 61, _, _, _, _, _⟩) rfl (fun K hK => ?_) AllReadyH.nil
    go_simp
    go_at_call 11
    refine (hSaa _ _ t0).mono ?_
    rintro _ w7 ⟨rfl, t1⟩
    refine hK.out _ _ (mk _ t1) (fun hHeld => ?_)
    clear hK K
    try simp only [Act.put, List.setIfInBounds_toArray, List.set_cons_zero, List.set_cons_succ]
    refine wpAnyH_take (i := 30) (oi := ⟨(some 62), _, _, _, _, _⟩) (v := ?vc30) rfl (by kernel_rfl) (by kernel_rfl) (by kernel_rfl) (fun _ _ _ h => h) (Or.inl ⟨by rfl, ?yc30⟩) hHeld ?_
    case yc30 => intro W hW; (try dsimp only at hW); go_simp; try with_reducible rfl
    try simp only [Act.put, List.setIfInBounds_toArray, List.set_cons_zero, List.set_cons_succ]
    refine wpAnyH_take (i := 31) (oi := ⟨(some 63), _, _, _, _, _⟩) (v := ?vc31) rfl (by kernel_rfl) (by kernel_rfl) (by kernel_rfl) (fun _ _ _ h => h) (Or.inl ⟨by rfl, ?yc31⟩) hHeld ?_
    case yc31 => intro W hW; (try dsimp only at hW); go_simp; try with_reducible rfl
    try simp only [Act.put, List.setIfInBounds_toArray, List.set_cons_zero, List.set_cons_succ]
    refine wpAnyH_ready (rs := [32]) (by kernel_rfl) (by simp) ?_
    refine AllReadyH.cons (o := ⟨some 64, _, _, _, _, _⟩) rfl (fun K hK => ?_) AllReadyH.nil
    go_simp
    go_at_call 8
    refine (hAw _ _ t1).mono ?_
    rintro _ w8 ⟨rfl, t2⟩
    refine hK.out _ _ (mk _ t2) (fun hHeld => ?_)
    clear hK K
    try simp only [Act.put, List.setIfInBounds_toArray, List.set_cons_zero, List.set_cons_succ]
    refine wpAnyH_take (i := 33) (oi := ⟨(some 65), _, _, _, _, _⟩) (v := ?vd33) rfl (by kernel_rfl) (by kernel_rfl) (by kernel_rfl) (fun _ _ _ h => h) (Or.inl ⟨by rfl, ?yd33⟩) hHeld ?_
    case yd33 => intro W hW; (try dsimp only at hW); go_simp; try with_reducible rfl
    try simp only [Act.put, List.setIfInBounds_toArray, List.set_cons_zero, List.set_cons_succ]
    refine wpAnyH_take (i := 34) (oi := ⟨(some 4), _, _, _, _, _⟩) (v := ?vd34) rfl (by kernel_rfl) (by kernel_rfl) (by kernel_rfl) (fun _ _ _ h => h) (Or.inl ⟨by rfl, ?yd34⟩) hHeld ?_
    case yd34 => intro W hW; (try dsimp only at hW); go_simp; try with_reducible rfl
    try simp only [Act.put, List.setIfInBounds_toArray, List.set_cons_zero, List.set_cons_succ]
    refine wpAnyH_done (by kernel_rfl) (NoPanic.normal ?_) _
    go_wp2_with fail
    go_ret
    exact ⟨rfl, t2.below⟩
  · have heq : (X.toList == Y.toList) = true := by
      have h1 := sameAd_iff.1 HS.out
      have h2 : E = F := by rw [← HE.out, ← HF.out, h1]
      rw [← hX, ← hY, h2]
      simp
    have hTT : txtA b = txtA a := by rw [sameAd_iff.1 HS.out]
    have hXb : ∀ W M, Sat w W M → Calls Tryd.prog 12 #[.agg #[.int .i64 b.kind, .slice bx b.ip.length bc, .string b.name, .int .i64 b.port]] W fun e w' => e = .returned (.string Ta) ∧ Sat w w' M := fun W M h => by
      have h1 := addr_Text b bx bc hrb.name ht hz h hrb.ip
      rw [hTT, HT.out] at h1
      exact h1
    clear hX hY hTT
    go_upto_region 6 with fail
    refine wp_region_noPanic ?_
    refine wp_region_held_drew (S := (fun W => (W.cell? ⟨w.heap.size, 0, none⟩ = some (.int .i64 a.kind) ∧ W.cell? ⟨w.heap.size, 1, none⟩ = some (.slice ax a.ip.length ac) ∧ W.cell? ⟨w.heap.size, 2, none⟩ = some (.string a.name) ∧ W.cell? ⟨w.heap.size, 3, none⟩ = some (.int .i64 a.port)) ∧
      (W.cell? ⟨w.heap.size + 1, 0, none⟩ = some (.int .i64 b.kind) ∧ W.cell? ⟨w.heap.size + 1, 1, none⟩ = some (.slice bx b.ip.length bc) ∧ W.cell? ⟨w.heap.size + 1, 2, none⟩ = some (.string b.name) ∧ W.cell? ⟨w.heap.size + 1, 3, none⟩ = some (.int .i64 b.port)) ∧
      (convert 23 9 (.slice p n k)).run Tryd.prog W = .ok (.string X) W ∧ (convert 23 9 (.slice q m j)).run Tryd.prog W = .ok (.string Y) W)) (by kernel_rfl) (mk _ t0) (fun hHeld => ?_)
    refine wpAnyH_take (i := 0) (oi := ⟨(some 32), _, _, _, _, _⟩) (v := ?ve0) rfl (by kernel_rfl) (by kernel_rfl) (by kernel_rfl) (fun _ _ _ h => h) (Or.inl ⟨by rfl, ?ye0⟩) hHeld ?_
    case ye0 => intro W hW; (try dsimp only at hW); go_simp; try with_reducible rfl
    try simp only [Act.put, List.setIfInBounds_toArray, List.set_cons_zero, List.set_cons_succ]
    refine wpAnyH_take (i := 1) (oi := ⟨(some 33), _, _, _, _, _⟩) (v := ?ve1) rfl (by kernel_rfl) (by kernel_rfl) (by kernel_rfl) (fun _ _ _ h => h) (Or.inl ⟨by rfl, ?ye1⟩) hHeld ?_
    case ye1 => intro W hW; (try dsimp only at hW); go_simp; try with_reducible rfl
    try simp only [Act.put, List.setIfInBounds_toArray, List.set_cons_zero, List.set_cons_succ]
    refine wpAnyH_take (i := 2) (oi := ⟨(some 34), _, _, _, _, _⟩) (v := ?ve2) rfl (by kernel_rfl) (by kernel_rfl) (by kernel_rfl) (fun _ _ _ h => h) (Or.inl ⟨by rfl, ?ye2⟩) hHeld ?_
    case ye2 => intro W hW; (try dsimp only at hW); go_simp; try with_reducible rfl
    try simp only [Act.put, List.setIfInBounds_toArray, List.set_cons_zero, List.set_cons_succ]
    refine wpAnyH_take (i := 3) (oi := ⟨(some 35), _, _, _, _, _⟩) (v := ?ve3) rfl (by kernel_rfl) (by kernel_rfl) (by kernel_rfl) (fun _ _ _ h => h) (Or.inl ⟨by rfl, ?ye3⟩) hHeld ?_
    case ye3 => intro W hW; (try dsimp only at hW); go_simp; try with_reducible rfl
    try simp only [Act.put, List.setIfInBounds_toArray, List.set_cons_zero, List.set_cons_succ]
    refine wpAnyH_take (i := 4) (oi := ⟨(some 36), _, _, _, _, _⟩) (v := ?ve4) rfl (by kernel_rfl) (by kernel_rfl) (by kernel_rfl) (fun _ _ _ h => h) (Or.inl ⟨by rfl, ?ye4⟩) hHeld ?_
    case ye4 => intro W hW; (try dsimp only at hW); go_simp; try with_reducible rfl
    try simp only [Act.put, List.setIfInBounds_toArray, List.set_cons_zero, List.set_cons_succ]
    refine wpAnyH_take (i := 5) (oi := ⟨(some 37), _, _, _, _, _⟩) (v := ?ve5) rfl (by kernel_rfl) (by kernel_rfl) (by kernel_rfl) (fun _ _ _ h => h) (Or.inl ⟨by rfl, ?ye5⟩) hHeld ?_
    case ye5 => intro W hW; (try dsimp only at hW); go_simp; try with_reducible rfl
    try simp only [Act.put, List.setIfInBounds_toArray, List.set_cons_zero, List.set_cons_succ]
    refine wpAnyH_take (i := 6) (oi := ⟨(some 38), _, _, _, _, _⟩) (v := ?ve6) rfl (by kernel_rfl) (by kernel_rfl) (by kernel_rfl) (fun _ _ _ h => h) (Or.inl ⟨by rfl, ?ye6⟩) hHeld ?_
    case ye6 => intro W hW; (try dsimp only at hW); go_simp; try with_reducible rfl
    try simp only [Act.put, List.setIfInBounds_toArray, List.set_cons_zero, List.set_cons_succ]
    refine wpAnyH_take (i := 7) (oi := ⟨(some 39), _, _, _, _, _⟩) (v := ?ve7) rfl (by kernel_rfl) (by kernel_rfl) (by kernel_rfl) (fun _ _ _ h => h) (Or.inl ⟨by rfl, ?ye7⟩) hHeld ?_
    case ye7 => intro W hW; (try dsimp only at hW); go_simp; try with_reducible rfl
    try simp only [Act.put, List.setIfInBounds_toArray, List.set_cons_zero, List.set_cons_succ]
    refine wpAnyH_take (i := 8) (oi := ⟨(some 40), _, _, _, _, _⟩) (v := ?ve8) rfl (by kernel_rfl) (by kernel_rfl) (by kernel_rfl) (fun _ _ _ h => h) (Or.inl ⟨by rfl, ?ye8⟩) hHeld ?_
    case ye8 => intro W hW; (try dsimp only at hW); go_simp; try with_reducible rfl
    try simp only [Act.put, List.setIfInBounds_toArray, List.set_cons_zero, List.set_cons_succ]
    refine wpAnyH_take (i := 9) (oi := ⟨(some 41), _, _, _, _, _⟩) (v := ?ve9) rfl (by kernel_rfl) (by kernel_rfl) (by kernel_rfl) (fun _ _ _ h => h) (Or.inl ⟨by rfl, ?ye9⟩) hHeld ?_
    case ye9 => intro W hW; (try dsimp only at hW); go_simp; try with_reducible rfl
    try simp only [Act.put, List.setIfInBounds_toArray, List.set_cons_zero, List.set_cons_succ]
    refine wpAnyH_take (i := 10) (oi := ⟨(some 42), _, _, _, _, _⟩) (v := ?ve10) rfl (by kernel_rfl) (by kernel_rfl) (by kernel_rfl) (fun _ _ _ h => h) (Or.inl ⟨by rfl, ?ye10⟩) hHeld ?_
    case ye10 => intro W hW; (try dsimp only at hW); go_simp; try with_reducible rfl
    try simp only [Act.put, List.setIfInBounds_toArray, List.set_cons_zero, List.set_cons_succ]
    refine wpAnyH_take (i := 11) (oi := ⟨(some 43), _, _, _, _, _⟩) (v := ?ve11) rfl (by kernel_rfl) (by kernel_rfl) (by kernel_rfl) (fun _ _ _ h => h) (Or.inl ⟨by rfl, ?ye11⟩) hHeld ?_
    case ye11 => intro W hW; (try dsimp only at hW); go_simp; try with_reducible rfl
    try simp only [Act.put, List.setIfInBounds_toArray, List.set_cons_zero, List.set_cons_succ]
    refine wpAnyH_take (i := 12) (oi := ⟨(some 44), _, _, _, _, _⟩) (v := ?ve12) rfl (by kernel_rfl) (by kernel_rfl) (by kernel_rfl) (fun _ _ _ h => h) (Or.inl ⟨by rfl, ?ye12⟩) hHeld ?_
    case ye12 => intro W hW; (try dsimp only at hW); go_simp; try with_reducible rfl
    try simp only [Act.put, List.setIfInBounds_toArray, List.set_cons_zero, List.set_cons_succ]
    refine wpAnyH_take (i := 13) (oi := ⟨(some 45), _, _, _, _, _⟩) (v := ?ve13) rfl (by kernel_rfl) (by kernel_rfl) (by kernel_rfl) (fun _ _ _ h => h) (Or.inl ⟨by rfl, ?ye13⟩) hHeld ?_
    case ye13 => intro W hW; (try dsimp only at hW); go_simp; try with_reducible rfl
    try simp only [Act.put, List.setIfInBounds_toArray, List.set_cons_zero, List.set_cons_succ]
    refine wpAnyH_take (i := 14) (oi := ⟨(some 46), _, _, _, _, _⟩) (v := ?ve14) rfl (by kernel_rfl) (by kernel_rfl) (by kernel_rfl) (fun _ _ _ h => h) (Or.inl ⟨by rfl, ?ye14⟩) hHeld ?_
    case ye14 => intro W hW; (try dsimp only at hW); go_simp; try with_reducible rfl
    try simp only [Act.put, List.setIfInBounds_toArray, List.set_cons_zero, List.set_cons_succ]
    refine wpAnyH_take (i := 15) (oi := ⟨(some 47), _, _, _, _, _⟩) (v := ?ve15) rfl (by kernel_rfl) (by kernel_rfl) (by kernel_rfl) (fun _ _ _ h => h) (Or.inl ⟨by rfl, ?ye15⟩) hHeld ?_
    case ye15 => intro W hW; (try dsimp only at hW); go_simp; try with_reducible rfl
    try simp only [Act.put, List.setIfInBounds_toArray, List.set_cons_zero, List.set_cons_succ]
    refine wpAnyH_take (i := 16) (oi := ⟨(some 48), _, _, _, _, _⟩) (v := ?ve16) rfl (by kernel_rfl) (by kernel_rfl) (by kernel_rfl) (fun _ _ _ h => h) (Or.inl ⟨by rfl, ?ye16⟩) hHeld ?_
    case ye16 => intro W hW; (try dsimp only at hW); go_simp; try with_reducible rfl
    try simp only [Act.put, List.setIfInBounds_toArray, List.set_cons_zero, List.set_cons_succ]
    refine wpAnyH_take (i := 17) (oi := ⟨(some 49), _, _, _, _, _⟩) (v := ?ve17) rfl (by kernel_rfl) (by kernel_rfl) (by kernel_rfl) (fun _ _ _ h => h) (Or.inl ⟨by rfl, ?ye17⟩) hHeld ?_
    case ye17 => intro W hW; (try dsimp only at hW); go_simp; try with_reducible rfl
    try simp only [Act.put, List.setIfInBounds_toArray, List.set_cons_zero, List.set_cons_succ]
    refine wpAnyH_take (i := 18) (oi := ⟨(some 50), _, _, _, _, _⟩) (v := ?ve18) rfl (by kernel_rfl) (by kernel_rfl) (by kernel_rfl) (fun _ _ _ h => h) (Or.inl ⟨by rfl, ?ye18⟩) hHeld ?_
    case ye18 => intro W hW; (try dsimp only at hW); go_simp; try with_reducible rfl
    try simp only [Act.put, List.setIfInBounds_toArray, List.set_cons_zero, List.set_cons_succ]
    refine wpAnyH_take (i := 19) (oi := ⟨(some 51), _, _, _, _, _⟩) (v := ?ve19) rfl (by kernel_rfl) (by kernel_rfl) (by kernel_rfl) (fun _ _ _ h => h) (Or.inl ⟨by rfl, ?ye19⟩) hHeld ?_
    case ye19 => intro W hW; (try dsimp only at hW); go_simp; try with_reducible rfl
    try simp only [Act.put, List.setIfInBounds_toArray, List.set_cons_zero, List.set_cons_succ]
    refine wpAnyH_take (i := 21) (oi := ⟨(some 53), _, _, _, _, _⟩) (v := ?ve21) rfl (by kernel_rfl) (by kernel_rfl) (by kernel_rfl) (fun _ _ _ h => h) (Or.inl ⟨by rfl, ?ye21⟩) hHeld ?_
    case ye21 => intro W hW; (try dsimp only at hW); go_simp; try with_reducible rfl
    try simp only [Act.put, List.setIfInBounds_toArray, List.set_cons_zero, List.set_cons_succ]
    refine wpAnyH_ready (rs := [20]) (by kernel_rfl) (by simp) ?_
    refine AllReadyH.cons (o := ⟨some 52, _, _, _, _, _⟩) rfl (fun K hK => ?_) AllReadyH.nil
    go_simp
    go_at_call 12
    refine (hXa _ _ t0).mono ?_
    rintro _ w5 ⟨rfl, t3⟩
    refine hK.out _ _ (mk _ t3) (fun hHeld => ?_)
    clear hK K
    try simp only [Act.put, List.setIfInBounds_toArray, List.set_cons_zero, List.set_cons_succ]
    refine wpAnyH_ready (rs := [22]) (by kernel_rfl) (by simp) ?_
    refine AllReadyH.cons (o := ⟨some 54, _, _, _, _, _⟩) rfl (fun K hK => ?_) AllReadyH.nil
    go_simp
    go_at_call 12
    refine (hXb _ _ t3).mono ?_
    rintro _ w6 ⟨rfl, t4⟩
    refine hK.out _ _ (mk _ t4) (fun hHeld => ?_)
    clear hK K
    try simp only [Act.put, List.setIfInBounds_toArray, List.set_cons_zero, List.set_cons_succ]
    refine wpAnyH_take (i := 23) (oi := ⟨(some 55), _, _, _, _, _⟩) (v := ?vf23) rfl (by kernel_rfl) (by kernel_rfl) (by kernel_rfl) (fun _ _ _ h => h) (Or.inl ⟨by rfl, ?yf23⟩) hHeld ?_
    case yf23 => intro W hW; (try dsimp only at hW); go_simp; try with_reducible rfl
    try simp only [Act.put, List.setIfInBounds_toArray, List.set_cons_zero, List.set_cons_succ]
    refine wpAnyH_take (i := 24) (oi := ⟨(some 56), _, _, _, _, _⟩) (v := ?vf24) rfl (by kernel_rfl) (by kernel_rfl) (by kernel_rfl) (fun _ _ _ h => h) (Or.inl ⟨by rfl, ?yf24⟩) hHeld ?_
    case yf24 => intro W hW; (try dsimp only at hW); go_simp; try with_reducible rfl
    try simp only [Act.put, List.setIfInBounds_toArray, List.set_cons_zero, List.set_cons_succ]
    refine wpAnyH_take (i := 25) (oi := ⟨(some 57), _, _, _, _, _⟩) (v := ?vf25) rfl (by kernel_rfl) (by kernel_rfl) (by kernel_rfl) (fun _ _ _ h => h) (Or.inl ⟨by rfl, ?yf25⟩) hHeld ?_
    case yf25 => intro W hW; (try dsimp only at hW); go_simp; try with_reducible rfl
    try simp only [Act.put, List.setIfInBounds_toArray, List.set_cons_zero, List.set_cons_succ]
    refine wpAnyH_take (i := 26) (oi := ⟨(some 58), _, _, _, _, _⟩) (v := ?vf26) rfl (by kernel_rfl) (by kernel_rfl) (by kernel_rfl) (fun _ _ _ h => h) (Or.inl ⟨by rfl, ?yf26⟩) hHeld ?_
    case yf26 => intro W hW; (try dsimp only at hW); go_simp; try with_reducible rfl
    try simp only [Act.put, List.setIfInBounds_toArray, List.set_cons_zero, List.set_cons_succ]
    refine wpAnyH_take (i := 27) (oi := ⟨(some 59), _, _, _, _, _⟩) (v := ?vf27) rfl (by kernel_rfl) (by kernel_rfl) (by kernel_rfl) (fun _ _ _ h => h) (Or.inl ⟨by rfl, ?yf27⟩) hHeld ?_
    case yf27 => intro W hW; (try dsimp only at hW); go_simp; try with_reducible rfl
    try simp only [Act.put, List.setIfInBounds_toArray, List.set_cons_zero, List.set_cons_succ]
    refine wpAnyH_take (i := 28) (oi := ⟨(some 60), _, _, _, _, _⟩) (v := ?vf28) rfl (by kernel_rfl) (by kernel_rfl) (by kernel_rfl) (fun _ _ _ h => h) (Or.inl ⟨by rfl, ?yf28⟩) hHeld ?_
    case yf28 => intro W hW; (try dsimp only at hW); go_simp; try with_reducible rfl
    try simp only [Act.put, List.setIfInBounds_toArray, List.set_cons_zero, List.set_cons_succ]
    refine wpAnyH_ready (rs := [29]) (by kernel_rfl) (by simp) ?_
    refine AllReadyH.cons (o := ⟨some 61, _, _, _, _, _⟩) rfl (fun K hK => ?_) AllReadyH.nil
    go_simp
    go_at_call 11
    refine (hSaa _ _ t4).mono ?_
    rintro _ w7 ⟨rfl, t1⟩
    refine hK.out _ _ (mk _ t1) (fun hHeld => ?_)
    clear hK K
    try simp only [Act.put, List.setIfInBounds_toArray, List.set_cons_zero, List.set_cons_succ]
    refine wpAnyH_take (i := 30) (oi := ⟨(some 62), _, _, _, _, _⟩) (v := ?vg30) rfl (by kernel_rfl) (by kernel_rfl) (by kernel_rfl) (fun _ _ _ h => h) (Or.inl ⟨by rfl, ?yg30⟩) hHeld ?_
    case yg30 => intro W hW; (try dsimp only at hW); go_simp; try with_reducible rfl
    try simp only [Act.put, List.setIfInBounds_toArray, List.set_cons_zero, List.set_cons_succ]
    refine wpAnyH_take (i := 31) (oi := ⟨(some 63), _, _, _, _, _⟩) (v := ?vg31) rfl (by kernel_rfl) (by kernel_rfl) (by kernel_rfl) (fun _ _ _ h => h) (Or.inl ⟨by rfl, ?yg31⟩) hHeld ?_
    case yg31 => intro W hW; (try dsimp only at hW); go_simp; try with_reducible rfl
    try simp only [Act.put, List.setIfInBounds_toArray, List.set_cons_zero, List.set_cons_succ]
    refine wpAnyH_ready (rs := [32]) (by kernel_rfl) (by simp) ?_
    refine AllReadyH.cons (o := ⟨some 64, _, _, _, _, _⟩) rfl (fun K hK => ?_) AllReadyH.nil
    go_simp
    go_at_call 8
    refine (hAw _ _ t1).mono ?_
    rintro _ w8 ⟨rfl, t2⟩
    refine hK.out _ _ (mk _ t2) (fun hHeld => ?_)
    clear hK K
    try simp only [Act.put, List.setIfInBounds_toArray, List.set_cons_zero, List.set_cons_succ]
    refine wpAnyH_take (i := 33) (oi := ⟨(some 65), _, _, _, _, _⟩) (v := ?vh33) rfl (by kernel_rfl) (by kernel_rfl) (by kernel_rfl) (fun _ _ _ h => h) (Or.inl ⟨by rfl, ?yh33⟩) hHeld ?_
    case yh33 => intro W hW; (try dsimp only at hW); go_simp; try with_reducible rfl
    try simp only [Act.put, List.setIfInBounds_toArray, List.set_cons_zero, List.set_cons_succ]
    refine wpAnyH_take (i := 34) (oi := ⟨(some 4), _, _, _, _, _⟩) (v := ?vh34) rfl (by kernel_rfl) (by kernel_rfl) (by kernel_rfl) (fun _ _ _ h => h) (Or.inl ⟨by rfl, ?yh34⟩) hHeld ?_
    case yh34 => intro W hW; (try dsimp only at hW); go_simp; try with_reducible rfl
    try simp only [Act.put, List.setIfInBounds_toArray, List.set_cons_zero, List.set_cons_succ]
    refine wpAnyH_done (by kernel_rfl) (NoPanic.normal ?_) _
    go_wp2_with fail
    go_ret
    exact ⟨rfl, t2.below⟩
end
end Go.Proofs.YtanihjibjjpdbaaDoor
