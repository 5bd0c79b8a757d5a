/- The law AddrTwo, walked. -/
import Derived.Test.YtanihjibjjpdbaaDoorSamA
namespace Go.Proofs.YtanihjibjjpdbaaDoor
open Go Go.RowKit
set_option linter.unusedVariables false
set_option linter.unusedSimpArgs false

section
variable {w0 w : World} {L : List Assn}
theorem four {g : Nat} {p q r s : Value} {t : TypeId} (h : Sat w0 w (Blk g (.cells #[p, q, r, s] t (0, 0)) :: L)) : w.cell? ⟨g, 0, none⟩ = some p ∧ w.cell? ⟨g, 1, none⟩ = some q ∧ w.cell? ⟨g, 2, none⟩ = some r ∧ w.cell? ⟨g, 3, none⟩ = some s :=
  ⟨h.cell 0 rfl, h.cell 1 rfl, h.cell 2 rfl, h.cell 3 rfl⟩
theorem same_self (a : AdM) (x y : Option Addr) (c d : Nat) (ha : RdB w (.slice x a.ip.length c) a.ip) (hb : RdB w (.slice y a.ip.length d) a.ip) :
    Calls Tryd.prog 11 #[.agg #[.int .i64 a.kind, .slice x a.ip.length c, .string a.name, .int .i64 a.port], .agg #[.int .i64 a.kind, .slice y a.ip.length d, .string a.name, .int .i64 a.port]] w fun e w' => e = .returned (.bool true) ∧ Below w.heap.size w w' := by
  have h := addr_Same a a x y c d ha hb
  rw [sameAd_self] at h
  exact h
set_option maxRecDepth 100000 in
set_option maxHeartbeats 4000000 in
theorem ad_two_law (v u : Value) (w : World) (ht : TabOk w) (hv : IsAddr w v) (hu : IsAddr w u) :
    Calls Tryd.prog 6 #[v, u] w fun e w' => e = .returned (.bool true) ∧ Below w.heap.size w w' := by
  obtain ⟨a, ax, ac, rfl, hra⟩ := hv
  obtain ⟨b, bx, bc, rfl, hrb⟩ := hu
  unfold adA
  have hpos := ht.pos
  have hs := (Sat.refl w).alloc2 (.cells #[.int .i64 a.kind, .slice ax a.ip.length ac, .string a.name, .int .i64 a.port] 25 (0, 0)) (.cells #[.int .i64 b.kind, .slice bx b.ip.length bc, .string b.name, .int .i64 b.port] 25 (0, 0))
  have hAw : ∀ (W : World) (M : List Assn), Sat w W M → Calls Tryd.prog 8 #[] W fun e w' => e = .returned (.bool true) ∧ Sat w w' M := fun W M h => ad_awake ht hpos h
  have hcb : ∀ W M, Sat w W (Blk (w.heap.size + 1) (.cells #[.int .i64 b.kind, .slice bx b.ip.length bc, .string b.name, .int .i64 b.port] 25 (0, 0)) :: M) → W.cell? ⟨w.heap.size + 1, 0, none⟩ = some (.int .i64 b.kind) ∧ W.cell? ⟨w.heap.size + 1, 1, none⟩ = some (.slice bx b.ip.length bc) ∧ W.cell? ⟨w.heap.size + 1, 2, none⟩ = some (.string b.name) ∧ W.cell? ⟨w.heap.size + 1, 3, none⟩ = some (.int .i64 b.port) :=
    fun W M h => ⟨h.cell 0 rfl, h.cell 1 rfl, h.cell 2 rfl, h.cell 3 rfl⟩
  have hca : ∀ W M, Sat w W (Blk w.heap.size (.cells #[.int .i64 a.kind, .slice ax a.ip.length ac, .string a.name, .int .i64 a.port] 25 (0, 0)) :: M) → W.cell? ⟨w.heap.size, 0, none⟩ = some (.int .i64 a.kind) ∧ W.cell? ⟨w.heap.size, 1, none⟩ = some (.slice ax a.ip.length ac) ∧ W.cell? ⟨w.heap.size, 2, none⟩ = some (.string a.name) ∧ W.cell? ⟨w.heap.size, 3, none⟩ = some (.int .i64 a.port) :=
    fun W M h => ⟨h.cell 0 rfl, h.cell 1 rfl, h.cell 2 rfl, h.cell 3 rfl⟩
  by_cases hm : a.may = true
  case neg =>
    have hm0 : a.may = false := by simpa using hm
    have hE := addr_Encode_no a ax ac hra.name hra.ip.len hm0 hs
    clear hm hm0
    by_cases hmb : b.may = true
    case neg =>
      have hmb0 : b.may = false := by simpa using hmb
      clear hmb
      go_enter Tryd.func6, Tryd.ntmps6
      go_wp2_with fail
      refine hE.mono ?_
      rintro _ w2 ⟨rfl, h2⟩
      obtain ⟨c0, c1, c2, c3⟩ := hcb _ _ h2
      have hE2 := addr_Encode_no b bx bc hrb.name hrb.ip.len hmb0 h2
      clear hE
      go_wp2_with fail
      refine hE2.mono ?_
      rintro _ w3 ⟨rfl, h3⟩
      go_wp2_with (go_at_call 8; refine (hAw _ _ h3).mono ?_; rintro _ w9 ⟨rfl, h11⟩)
      go_ret
      exact ⟨rfl, h11.below⟩
    go_enter Tryd.func6, Tryd.ntmps6
    go_wp2_with fail
    refine hE.mono ?_
    rintro _ w2 ⟨rfl, h2⟩
    obtain ⟨c0, c1, c2, c3⟩ := hcb _ _ h2
    have hE2 := addr_Encode_yes b bx bc hmb h2 (fun W L' h => hrb.ip.mono h.below)
    clear hE
    go_wp2_with fail
    refine hE2.mono ?_
    rintro _ w3 ⟨p, k, rfl, h3⟩
    go_wp2_with (go_at_call 8; refine (hAw _ _ h3).mono ?_; rintro _ w9 ⟨rfl, h11⟩)
    go_ret
    exact ⟨rfl, h11.below⟩
  have HM := hid_ hm
  obtain ⟨E, hEq⟩ : ∃ E, a.enc = E := ⟨_, rfl⟩
  have HE := hid_ hEq
  obtain ⟨n, hn⟩ : ∃ n, E.length = n := ⟨_, rfl⟩
  have HN := hid_ hn
  have h4n := enc_four a hm
  rw [hEq, hn] at h4n
  have hE := addr_Encode_yes a ax ac hm hs (fun W L' h => hra.ip.mono h.below)
  rw [hEq, hn] at hE
  clear hm hEq hn
  go_enter Tryd.func6, Tryd.ntmps6
  go_wp2_with fail
  refine hE.mono ?_
  rintro _ w2 ⟨p, k, rfl, h2⟩
  clear hE
  obtain ⟨c0, c1, c2, c3⟩ := hcb _ _ (Sat.front [_] h2)
  by_cases hmb : b.may = true
  case neg =>
    have hmb0 : b.may = false := by simpa using hmb
    have hE2 := addr_Encode_no b bx bc hrb.name hrb.ip.len hmb0 h2
    clear hmb hmb0
    go_wp2_with fail
    refine hE2.mono ?_
    rintro _ w3 ⟨rfl, h3⟩
    go_wp2_with (go_at_call 8; refine (hAw _ _ h3).mono ?_; rintro _ w9 ⟨rfl, h11⟩)
    go_ret
    exact ⟨rfl, h11.below⟩
  have HMb := hid_ hmb
  obtain ⟨F, hFq⟩ : ∃ F, b.enc = F := ⟨_, rfl⟩
  have HF := hid_ hFq
  obtain ⟨m, hm2⟩ : ∃ m, F.length = m := ⟨_, rfl⟩
  have HMl := hid_ hm2
  have h4m := enc_four b hmb
  rw [hFq, hm2] at h4m
  have hE2 := addr_Encode_yes b bx bc hmb h2 (fun W L' h => hrb.ip.mono h.below)
  rw [hFq, hm2] at hE2
  clear hmb hFq hm2
  go_wp2_with fail
  refine hE2.mono ?_
  rintro _ w3 ⟨p2, k2, rfl, h3⟩
  clear hE2 c0 c1 c2 c3
  have h4 := OwnB.ofNew (l := []) (n := 0) (h3.alloc (.cells #[] 5 (0, 0))) rfl rfl (by omega)
  go_wp2_with (first | (at_builtin; refine wpList_append_b (w0 := w) rfl _ _ 23 rfl rfl h4 rfl (slSrc (OwnB.rd (Sat.front [_, _] h4))) E n rfl HN.out (by omega) ?_))
  intro a3 k3 w4 h5
  have hlen : (E ++ F).length = n + m := by rw [List.length_append, HN.out, HMl.out]
  go_wp2_with (first | (at_builtin; refine wpList_append_b (w0 := w) rfl _ _ 23 rfl rfl h5 rfl (slSrc (OwnB.rd (Sat.front [_] h5))) (E ++ F) (n + m) (by rfl) hlen (by omega) ?_))
  intro a4 k4 w5 h6
  obtain ⟨pg, po, pk, he, -, -, -, -⟩ := OwnS.cells (by unfold OwnB at h6; exact h6) (by rw [hlen]; omega)
  obtain ⟨pa, pc, he2, hpc, hpm⟩ := OwnS.form (by unfold OwnB at h6; exact h6)
  injection he with he3 he4 he5
  injection he2 with he6 he7 he8
  subst he3 he5
  subst he8
  rw [hlen] at hpc
  clear he4 he6 he7
  obtain ⟨V, hVr, hVd⟩ := slc_from (b := pg) (o := po) (len := n + m) (c := k4) (n := n) rfl (by omega) hpc hpm
  have hD := addr_Decode h6 (fun W L' h => by
    have h8 := OwnB.rd (Sat.front L' h)
    exact h8)
  rw [show decA (E ++ F) = (0, a, n) by rw [← HE.out, dec_enc HM.out, HE.out, HN.out]] at hD
  go_wp2_with fail
  refine hD.mono ?_
  rintro _ w6 ⟨x, c, rfl, h7⟩
  dsimp only at h7 ⊢
  clear hD h2 h3 h4 h5 h6
  have h8 := h7.alloc (.cells #[.int .i64 a.kind, .slice x a.ip.length c, .string a.name, .int .i64 a.port] 25 (0, 0))
  have hD2 := addr_Decode (b := F) h8 (fun W L' h => by
    have h9 := hVd W (E ++ F) hlen (OwnB.rd (Sat.front (L' ++ [_, _]) (by rw [List.append_assoc]; exact h)))
    rw [List.drop_left' HN.out] at h9
    exact h9)
  rw [show decA F = (0, b, m) by rw [← HMl.out, ← HF.out]; have h := dec_enc HMb.out []; rw [List.append_nil] at h; exact h] at hD2
  go_wp2_with fail
  refine hD2.mono ?_
  rintro _ w7 ⟨y, d, rfl, h9⟩
  dsimp only at h9 ⊢
  obtain ⟨g2, hg2⟩ : ∃ g2, w6.heap.size = g2 := ⟨_, rfl⟩
  obtain ⟨g3, hg3⟩ : ∃ g3, w7.heap.size = g3 := ⟨_, rfl⟩
  have h10 := h9.alloc (.cells #[.int .i64 b.kind, .slice y b.ip.length d, .string b.name, .int .i64 b.port] 25 (0, 0))
  obtain ⟨W8, hW8⟩ : ∃ W8, w7.alloc (.cells #[.int .i64 b.kind, .slice y b.ip.length d, .string b.name, .int .i64 b.port] 25 (0, 0)) = W8 := ⟨_, rfl⟩
  rw [hW8, hg2, hg3] at h10
  clear hD2 h7 h8 h9 hVr hVd
  go_upto_region 10 with fail
  (try rw [hW8])
  (try rw [hg2])
  (try rw [hg3])
  clear hW8 hg2 hg3
  obtain ⟨d0, d1, d2, d3⟩ := four (Sat.front [_, _] h10)
  obtain ⟨c0, c1, c2, c3⟩ := four (Sat.front [_, _, _, _, _, _, _, _] h10)
  have hS := same_self a x ax c ac (OwnB.rd (Sat.front [_, _, _] h10)) (hra.ip.mono h10.below)
  have hS2 : ∀ W, Below W8.heap.size W8 W → Calls Tryd.prog 11 #[.agg #[.int .i64 b.kind, .slice y b.ip.length d, .string b.name, .int .i64 b.port], .agg #[.int .i64 b.kind, .slice bx b.ip.length bc, .string b.name, .int .i64 b.port]] W fun e w' => e = .returned (.bool true) ∧ Below W.heap.size W w' :=
    fun W hW => same_self b y bx d bc (OwnB.rd (Sat.front [_] (h10.under hW))) (hrb.ip.mono (h10.under hW).below)
  have f10 : ∀ W, Below W8.heap.size W8 W → _ := fun W hW => four (h10.under hW)
  have e10 : ∀ W, Below W8.heap.size W8 W → _ := fun W hW => four (Sat.front [_, _, _, _, _, _, _] (h10.under hW))
  have H10 := hid_ h10
  clear h10
  go_wp2_with (first
    | (go_at_call 8; refine (hAw _ _ ((H10.out.under hb9).under hb11)).mono ?_; rintro _ w12 ⟨rfl, h12⟩)
    | (go_at_call 11; refine (hS2 _ hb9).mono ?_; rintro _ w11 ⟨rfl, hb11⟩)
    | (go_at_call 11; refine hS.mono ?_; rintro _ w9 ⟨rfl, hb9⟩; obtain ⟨x0, x1, x2, x3⟩ := f10 _ hb9; obtain ⟨y0, y1, y2, y3⟩ := e10 _ hb9))
  go_ret
  exact ⟨rfl, h12.below⟩
end
end Go.Proofs.YtanihjibjjpdbaaDoor
