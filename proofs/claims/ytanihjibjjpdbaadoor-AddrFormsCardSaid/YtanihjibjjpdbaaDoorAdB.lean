/- The law AddrBack, walked. -/
import Derived.Test.YtanihjibjjpdbaaDoorAdU
import Derived.Test.YtanihjibjjpdbaaDoorVw
import Derived.Test.YtanihjibjjpdbaaDoorAdG
import Derived.Test.YtanihjibjjpdbaaDoorAdH
import Derived.Test.YtanihjibjjpdbaaDoorOpnZ
import Derived.Test.YtanihjibjjpdbaaDoorRefSa
namespace Go.Proofs.YtanihjibjjpdbaaDoor
open Go Go.RowKit
set_option linter.unusedVariables false
set_option linter.unusedSimpArgs false

theorem sameAd_self (a : AdM) : sameAd a a = true := by simp [sameAd]
section
variable {w0 w : World} {L : List Assn}
/-- A cut s[:n] of bytes. -/
theorem slc_to {b o len c n : Nat} {ni : Int} (hni : ni = (n : Int)) (h : n ≤ len) (hc : len ≤ c) (hm : c ≤ maxLen) :
    ∃ V, (∀ W : World, (Instr.slice 23 (.slice (some ⟨b, o, none⟩) len c) none (some (.int .i64 ni)) none).run Tryd.prog W = .ok V W) ∧
      ∀ (W : World) (l : List UInt8), l.length = len → RdB W (.slice (some ⟨b, o, none⟩) len c) l → RdB W V (l.take n) := by
  subst hni
  have e : Tryd.prog.elem 23 = 5 := rfl
  have hs : ∀ W : World, (sizeOf 5).run Tryd.prog W = .ok 1 W := fun W => by kernel_rfl
  by_cases h1 : c = 0
  · refine ⟨.slice (some ⟨b, o, none⟩) 0 0, fun W => ?_, fun W l hl hr => ?_⟩
    · rw [run_slice_h (P := Tryd.prog) (w := W) (t := 23) (ht := Tryd.underlying23) (h0 := by omega) (h2 := by omega), e, hs]
      simp only [Result.andThen_ok]
      unfold sliced
      obtain rfl : n = 0 := by omega
      subst h1
      rfl
    · have : l.take n = [] := by rw [show n = 0 by omega]; rfl
      rw [this]
      exact RdB.emp (Nat.zero_le _)
  · refine ⟨.slice (some ⟨b, o, none⟩) n c, fun W => ?_, fun W l hl hr => ?_⟩
    · rw [run_slice_h (P := Tryd.prog) (w := W) (t := 23) (ht := Tryd.underlying23) (h0 := by omega) (h2 := by omega), e, hs]
      simp only [Result.andThen_ok]
      unfold sliced
      rw [Int.toNat_natCast, if_neg h1, Option.map_some, addr_add]
      simp
    · subst hl
      have h2 := RdB.cut (lo := 0) (hi := n) hr (Nat.zero_le _) h
      rw [List.drop_zero, Nat.sub_zero] at h2
      exact h2
theorem TabOk.pos {w : World} (h : TabOk w) : 0 < w.heap.size := by
  have h1 := h.cell gPow 0 (by decide)
  unfold World.cell? at h1
  by_cases h0 : 0 < w.heap.size
  · exact h0
  · rw [Array.getElem?_eq_none (by simpa using h0)] at h1
    cases h1
set_option maxRecDepth 100000 in
set_option maxHeartbeats 4000000 in
theorem ad_back_law (v u z : Value) (w : World) (ht : TabOk w) (hv : IsAddr w v) (hu : IsBytes w u) (hz : IsInt w z) :
    Calls Tryd.prog 5 #[v, u, z] w fun e w' => e = .returned (.bool true) ∧ Below w.heap.size w w' := by
  obtain ⟨a, ax, ac, rfl, hra⟩ := hv
  obtain ⟨more, hmore⟩ := hu
  obtain ⟨cut, rfl, -⟩ := hz
  obtain ⟨ma, mc, rfl, hmc, hmm, -⟩ := hmore.form
  unfold adA
  have hpos := ht.pos
  have hs := (Sat.refl w).alloc (.cells #[.int .i64 a.kind, .slice ax a.ip.length ac, .string a.name, .int .i64 a.port] 25 (0, 0))
  have hAw : ∀ (W : World) (M : List Assn), Sat w W M → Calls Tryd.prog 8 #[] W fun e w' => e = .returned (.bool true) ∧ Sat w w' M := fun W M h => ad_awake ht hpos h
  by_cases l1 : 50 < a.ip.length
  · have q : decide ((50 : Int) < (a.ip.length : Int)) = true := by simp; omega
    clear l1
    go_enter Tryd.func5, Tryd.ntmps5
    go_wp2_with fail
    refine (hAw _ _ hs).mono ?_
    rintro _ w2 ⟨rfl, h2⟩
    go_wp2_with fail
    go_ret
    exact ⟨rfl, h2.below⟩
  have q : decide ((50 : Int) < (a.ip.length : Int)) = false := by simp; omega
  by_cases l2 : 200 < a.name.size
  · have q2 : decide ((200 : Int) < (a.name.size : Int)) = true := by simp; omega
    clear l1 l2
    go_enter Tryd.func5, Tryd.ntmps5
    go_wp2_with fail
    refine (hAw _ _ hs).mono ?_
    rintro _ w2 ⟨rfl, h2⟩
    go_wp2_with fail
    go_ret
    exact ⟨rfl, h2.below⟩
  have q2 : decide ((200 : Int) < (a.name.size : Int)) = false := by simp; omega
  by_cases l3 : 300 < more.length
  · have q3 : decide ((300 : Int) < (more.length : Int)) = true := by simp; omega
    clear l1 l2 l3
    go_enter Tryd.func5, Tryd.ntmps5
    go_wp2_with fail
    refine (hAw _ _ hs).mono ?_
    rintro _ w2 ⟨rfl, h2⟩
    go_wp2_with fail
    go_ret
    exact ⟨rfl, h2.below⟩
  have q3 : decide ((300 : Int) < (more.length : Int)) = false := by simp; omega
  have HM3 := hid_ (show more.length ≤ 300 by omega)
  clear l1 l2 l3
  by_cases hm : a.may = true
  case neg =>
    have hm0 : a.may = false := by simpa using hm
    have HM := hid_ hm0
    have hE := addr_Encode_no a ax ac hra.name hra.ip.len hm0 hs
    clear hm hm0
    go_enter Tryd.func5, Tryd.ntmps5
    go_wp2_with fail
    refine hE.mono ?_
    rintro _ w2 ⟨rfl, h2⟩
    have c0 : w2.cell? ⟨w.heap.size, 0, none⟩ = some (.int .i64 a.kind) := h2.cell 0 rfl
    have c1 : w2.cell? ⟨w.heap.size, 1, none⟩ = some (.slice ax a.ip.length ac) := h2.cell 1 rfl
    have c2 : w2.cell? ⟨w.heap.size, 2, none⟩ = some (.string a.name) := h2.cell 2 rfl
    have c3 : w2.cell? ⟨w.heap.size, 3, none⟩ = some (.int .i64 a.port) := h2.cell 3 rfl
    clear hE
    go_wp2_with (first | (go_at_call 10; refine (addr_May a ax ac hra.name hra.ip.len).mono ?_; rintro _ w3 ⟨rfl, hb3⟩; rw [HM.out]; have h3 := h2.under hb3) | (go_at_call 8; refine (hAw _ _ h3).mono ?_; rintro _ w4 ⟨rfl, h4⟩))
    go_ret
    exact ⟨rfl, h4.below⟩
  have HM := hid_ hm
  obtain ⟨E, hEq⟩ : ∃ E, a.enc = E := ⟨_, rfl⟩
  have HE := hid_ hEq
  obtain ⟨n, hn⟩ : ∃ n, E.length = n := ⟨_, rfl⟩
  have HN := hid_ hn
  have h4n := enc_four a hm
  rw [hEq, hn] at h4n
  have hE := addr_Encode_yes a ax ac hm hs (fun W L' h => hra.ip.mono h.below)
  rw [hEq, hn] at hE
  clear hm hEq hn
  go_enter Tryd.func5, Tryd.ntmps5
  go_wp2_with fail
  refine hE.mono ?_
  rintro _ w2 ⟨p, k, rfl, h2⟩
  clear hE
  have h3 := OwnB.ofNew (l := []) (n := 0) (h2.alloc (.cells #[] 5 (0, 0))) rfl rfl (by omega)
  go_wp2_with (first | (at_builtin; refine wpList_append_b (w0 := w) rfl _ _ 23 rfl rfl h3 rfl (slSrc (OwnB.rd (Sat.front [_] h3))) E n rfl HN.out (by omega) ?_))
  intro a3 k3 w3 h4
  have hlen : (E ++ more).length = n + more.length := by rw [List.length_append, HN.out]
  have HM3' := HM3.out
  go_wp2_with (first | (at_builtin; refine wpList_append_b (w0 := w) rfl _ _ 23 rfl rfl h4 rfl (slSrc (hmore.later h4)) (E ++ more) (n + more.length) rfl hlen (by omega) ?_))
  intro a4 k4 w4 h5
  have hD : Calls Tryd.prog 13 #[.slice a4 (n + more.length) k4] w4 (DecOk w _ (decA (E ++ more))) := addr_Decode h5 (fun W L' h => by
    have h8 := OwnB.rd (Sat.front L' h)
    exact h8)
  rw [← HE.out, dec_enc HM.out, HE.out, HN.out] at hD
  go_wp2_with fail
  refine hD.mono ?_
  rintro _ w5 ⟨x, c, rfl, h6⟩
  dsimp only at h6 ⊢
  clear hD h2 h3 h4 h5
  have h7 := h6.alloc (.cells #[.int .i64 a.kind, .slice x a.ip.length c, .string a.name, .int .i64 a.port] 25 (0, 0))
  obtain ⟨W6, hW6⟩ : ∃ W6, w5.alloc (.cells #[.int .i64 a.kind, .slice x a.ip.length c, .string a.name, .int .i64 a.port] 25 (0, 0)) = W6 := ⟨_, rfl⟩
  obtain ⟨g2, hg2⟩ : ∃ g2, w5.heap.size = g2 := ⟨_, rfl⟩
  rw [hW6, hg2] at h7
  have d0 : W6.cell? ⟨g2, 0, none⟩ = some (.int .i64 a.kind) := h7.cell 0 rfl
  have d1 : W6.cell? ⟨g2, 1, none⟩ = some (.slice x a.ip.length c) := h7.cell 1 rfl
  have d2 : W6.cell? ⟨g2, 2, none⟩ = some (.string a.name) := h7.cell 2 rfl
  have d3 : W6.cell? ⟨g2, 3, none⟩ = some (.int .i64 a.port) := h7.cell 3 rfl
  have hB := Sat.front [_, _, _, _] h7
  have c0 : W6.cell? ⟨w.heap.size, 0, none⟩ = some (.int .i64 a.kind) := hB.cell 0 rfl
  have c1 : W6.cell? ⟨w.heap.size, 1, none⟩ = some (.slice ax a.ip.length ac) := hB.cell 1 rfl
  have c2 : W6.cell? ⟨w.heap.size, 2, none⟩ = some (.string a.name) := hB.cell 2 rfl
  have c3 : W6.cell? ⟨w.heap.size, 3, none⟩ = some (.int .i64 a.port) := hB.cell 3 rfl
  have hS : Calls Tryd.prog 14 #[.agg #[.int .i64 a.kind, .slice x a.ip.length c, .string a.name, .int .i64 a.port], .agg #[.int .i64 a.kind, .slice ax a.ip.length ac, .string a.name, .int .i64 a.port]] W6 fun e w' => e = .returned (.bool true) ∧ Below W6.heap.size W6 w' := by
    have h := ref_SameAddr a a x ax c ac (OwnB.rd h7.drop) (hra.ip.mono h7.below)
    rw [sameAd_self] at h
    exact h
  have hOwn := Sat.front [_, _, _] h7
  obtain ⟨pg, po, pk, he, -, -, -, -⟩ := OwnS.cells (by unfold OwnB at hOwn; exact hOwn) (by rw [HN.out]; omega)
  obtain ⟨pa, pc, he2, hpc, hpm⟩ := OwnS.form (by unfold OwnB at hOwn; exact hOwn)
  injection he with he3 he4 he5
  injection he2 with he6 he7 he8
  subst he3 he5
  subst he8
  rw [HN.out] at hpc
  clear he4 he6 he7 hOwn
  have hCb := um_bd cut (m := (n : Int)) (by omega) (by omega)
  obtain ⟨C, hC⟩ : ∃ C, wrap64 ((IntKind.u64.wrap cut).tmod (n : Int)) = C := ⟨_, rfl⟩
  rw [hC] at hCb
  obtain ⟨j, hj⟩ : ∃ j : Nat, C = (j : Int) := ⟨C.toNat, by omega⟩
  have hjn : j < n := by omega
  obtain ⟨V, hVr, hVd⟩ := slc_to (b := pg) (o := po) (len := n) (c := k) (n := j) hj (by omega) hpc hpm
  have hun : IntKind.u64.wrap (n : Int) = (n : Int) := by rw [IntKind.wrap_u64]; omega
  have hn0 : ((n : Int) == 0) = false := by simp; omega
  have hn4 : decide ((n : Int) < 4) = false := by simp; omega
  have HJ := hid_ hjn
  clear hjn hj hCb h6
  go_upto_region 7 with fail
  (try rw [hW6])
  (try rw [hg2])
  clear hW6 hg2
  go_wp2_with (first | (go_at_call 14; refine hS.mono ?_; rintro _ w7 ⟨rfl, hb7⟩; have h8 := h7.under hb7))
  obtain ⟨d, hd⟩ : ∃ d, decA (E.take j) = d := ⟨_, rfl⟩
  have hd1 : d.1 = 2 := by
    rw [← hd, ← HE.out]
    exact dec_short HM.out (by rw [HE.out, HN.out]; exact HJ.out)
  have hD2 := addr_Decode h8 (fun W L' h => hVd W E HN.out (OwnB.rd (Sat.front (L' ++ [_, _, _]) (by rw [List.append_assoc]; exact h))))
  rw [hd] at hD2
  refine hD2.mono ?_
  rintro _ w8 ⟨x2, cc2, rfl, h9⟩
  rw [hd1]
  clear hD2 hd hd1 h7 hB c0 c1 c2 c3 d0 d1 d2 d3 hS hVr hVd
  have h10 := h9.alloc (.cells #[.int .i64 d.2.1.kind, .slice x2 d.2.1.ip.length cc2, .string d.2.1.name, .int .i64 d.2.1.port] 25 (0, 0))
  go_wp2_with (go_at_call 8; refine (hAw _ _ h10).mono ?_; rintro _ w9 ⟨rfl, h11⟩)
  go_ret
  exact ⟨rfl, h11.below⟩
end
end Go.Proofs.YtanihjibjjpdbaaDoor
