/- The document's Pack, and its join; walked. -/
import Derived.Test.YtkejadhkebjdcaaMpk
namespace Go.Proofs.Ytkejadhkebjdcaa
open Go Go.RowKit
set_option linter.unusedVariables false
set_option linter.unusedSimpArgs false
section
variable {w0 w w' : World} {L L' : List Assn}
set_option maxRecDepth 100000 in
set_option maxHeartbeats 1000000 in
theorem jo_join {nb : Nat} {v1 v2 : Value} {l1 l2 : List UInt8} (hl : l1.length + l2.length ≤ 1000000) (hs : Sat w0 w (Blk nb (.cells #[v1, v2] 37 (0, 0)) :: L)) (h1 : Vw w0 L v1 l1) (h2 : Vw w0 L v2 l2) :
    Calls Try.prog 74 #[.slice (some ⟨nb, 0, none⟩) 2 2] w fun e w' => ∃ a c, e = .returned (.slice a (l1.length + l2.length) c) ∧ Sat w0 w' (OwnB 5 (.slice a (l1.length + l2.length) c) (l1 ++ l2) :: L) := by
  have hst := Sat.swap (OwnB.nilI (t := 5) hs)
  go_enter Try.func74, Try.ntmps74
  go_wp2_with fail
  go_loopw [3, 8] (fun v3 vi wr => ∃ (i : Nat) (acc : List UInt8), vi = .int .i64 i ∧ (i = 0 ∧ acc = [] ∨ i = 1 ∧ acc = l1 ∨ i = 2 ∧ acc = l1 ++ l2) ∧ Sat w0 wr (OwnB 5 v3 acc :: Blk nb (.cells #[v1, v2] 37 (0, 0)) :: L)) (fun _ vi _ => 2 - (intOf vi).toNat)
  case atStart => exact ⟨0, [], rfl, .inl ⟨rfl, rfl⟩, hst.swap⟩
  case round =>
    obtain ⟨i, acc, rfl, hc, h3⟩ := hrel
    have q0 : wr.cell? ⟨nb, 0, none⟩ = some v1 := h3.drop.cell 0 rfl
    have q1 : wr.cell? ⟨nb, 1, none⟩ = some v2 := h3.drop.cell 1 rfl
    rcases hc with ⟨rfl, rfl⟩ | ⟨rfl, rfl⟩ | ⟨rfl, rfl⟩
    · have hr := h1 wr [_, _] h3
      go_wp2_with (at_builtin; refine wpList_append_b (w0 := w0) rfl _ _ 37 rfl rfl h3 rfl (slSrc hr) l1 l1.length rfl rfl (by omega) ?_)
      intro a' c' w4 h4
      go_wp2_with fail
      go_roundw
      case rel => exact ⟨1, l1, rfl, .inr (.inl ⟨rfl, rfl⟩), h4⟩
      case measure => simp [intOf]
    · have hr := h2 wr [_, _] h3
      go_wp2_with (at_builtin; refine wpList_append_b (w0 := w0) rfl _ _ 37 rfl rfl h3 rfl (slSrc hr) (acc ++ l2) (acc.length + l2.length) rfl (by simp) (by omega) ?_)
      intro a' c' w4 h4
      go_wp2_with fail
      go_roundw
      case rel => exact ⟨2, acc ++ l2, rfl, .inr (.inr ⟨rfl, rfl⟩), h4⟩
      case measure => simp [intOf]
    · obtain ⟨a', c', hf, -⟩ := OwnB.slice h3
      rw [List.length_append] at hf
      subst hf
      go_wp2_with fail
      go_ret
      exact ⟨a', c', rfl, h3.swap.drop⟩
theorem jo_Join {nb : Nat} {v1 v2 : Value} {l1 l2 : List UInt8} (hl : l1.length + l2.length ≤ 1000000) (hs : Sat w0 w (Blk nb (.cells #[v1, v2] 37 (0, 0)) :: L)) (h1 : Vw w0 L v1 l1) (h2 : Vw w0 L v2 l2) :
    Calls Try.prog 52 #[.slice (some ⟨nb, 0, none⟩) 2 2] w fun e w' => ∃ a c, e = .returned (.slice a (l1.length + l2.length) c) ∧ Sat w0 w' (OwnB 5 (.slice a (l1.length + l2.length) c) (l1 ++ l2) :: L) := by
  have H := jo_join hl hs h1 h2
  go_enter Try.func52, Try.ntmps52
  go_wp2_with fail
  refine H.mono ?_
  rintro _ w1 ⟨a, c, rfl, h3⟩
  go_wp2_with fail
  go_ret
  exact ⟨a, c, rfl, h3⟩
set_option maxRecDepth 100000 in
set_option maxHeartbeats 4000000 in
theorem ref_Pack {a : Option Addr} {c n : Nat} {l : List FrX} (hn : l.length = n) (h60 : n ≤ 60) (ha : RdL 9 frXC RdX w0 a c l) (hs : Sat w0 w L) :
    Calls Try.prog 25 #[.slice a n c] w (PackOk w0 L (packM (l.map FrX.f))) := by
  have HN := hid_ hn
  clear hn
  go_enter Try.func25, Try.ntmps25
  go_wp2_with fail
  go_loopg [3, 4, 11] n (fun gg v3 v4 v11 wr => ∃ i : Nat, i ≤ n ∧ n - i ≤ gg ∧ v11 = .int .i64 i ∧ Sat w0 wr (OwnB 5 v4 (packL ((l.map FrX.f).take i)).2 :: Bodies v3 (packL ((l.map FrX.f).take i)).1 :: L))
  case atStart => exact ⟨0, Nat.zero_le _, by omega, rfl, OwnB.nilI (OwnL.nilI hs)⟩
  case round =>
    obtain ⟨i, hi, hgg, rfl, h2⟩ := hrel
    clear hs
    obtain ⟨a5, c5, rfl, -⟩ := OwnB.slice h2
    obtain ⟨a6, c6, rfl, -, -⟩ := OwnL.form h2.drop
    by_cases hlt : i < n
    · obtain ⟨y, hy⟩ : ∃ y, l[i]? = some y := ⟨_, List.getElem?_eq_getElem (by rw [HN.out]; exact hlt)⟩
      obtain ⟨bq, oq, rfl, hf, hrx⟩ := RdL.at (RdFrames.mono ha h2.below) hy
      have hrx0 : RdX w0 y := (RdL.at ha hy).choose_spec.choose_spec.2.2
      obtain ⟨x0, x1, x2, x3, x4, x5, x6, x7, x8⟩ := hf.nine
      have HT := hid_ (take_snoc_mu (show (l.map FrX.f)[i]? = some y.f by rw [List.getElem?_map, hy]; rfl))
      have hpl := packL_len ((l.map FrX.f).take i)
      have hti : ((l.map FrX.f).take i).length ≤ 60 := by rw [List.length_take]; omega
      have z1 : 0 ≤ (i : Int) ∧ (i : Int) < (n : Int) := by omega
      have h3 := h2.alloc (frO y.f y.ip y.d)
      clear hy hf
      obtain ⟨f, x, z, c', k⟩ := y
      unfold FrX.ip FrX.d at *
      dsimp only at *
      obtain ⟨P, hP⟩ : ∃ P, packL ((l.map FrX.f).take i) = P := ⟨_, rfl⟩
      rw [hP] at hpl h3 ⊢
      have hb1 : P.1.length ≤ 60 := by omega
      have hb2 : P.2.length ≤ 4096 := hpl.2
      have HP := hid_ hP
      obtain ⟨mb, hmb⟩ : ∃ mb, f.may = mb := ⟨_, rfl⟩
      clear hP h2 hpl hti
      obtain ⟨B, Q⟩ := P
      dsimp only at *
      unfold frO at h3
      cases mb
      · have HE := hid_ (ref_EncodeFrame_no f x z c' k hmb (hrx0.mono h3.below) h3)
        have HX := hid_ (show packL ((l.map FrX.f).take (i + 1)) = (B, Q) by rw [HT.out, packL_snoc, HP.out, packS_no hmb])
        unfold frV at HE
        clear hmb
        go_wp2_with fail
        refine HE.out.mono ?_
        rintro _ w4 ⟨rfl, h4⟩
        go_wp2_with fail
        go_roundg (n - (i + 1))
        case measure => omega
        case rel => exact ⟨i + 1, by omega, by omega, by go_num, by rw [HX.out]; exact h4.drop⟩
      · have HE := hid_ (ref_EncodeFrame_yes f x z c' k hmb h3 (fun W L' h => hrx0.mono h.below))
        have hel := enc_le hmb
        have HY := hid_ (show packL ((l.map FrX.f).take (i + 1)) = packS (B, Q) f by rw [HT.out, packL_snoc, HP.out])
        have HM := hid_ hmb
        unfold frV at HE
        clear hmb
        go_wp2_with fail
        refine HE.out.mono ?_
        rintro _ w4 ⟨a4, k4, rfl, h4⟩
        have h4 : Sat w0 w4 [OwnB 5 (.slice a4 f.enc.length k4) f.enc, OwnB 5 (.slice a5 Q.length c5) Q, Bodies (.slice a6 B.length c6) B, Star L] := by
          have h5 := Sat.d2 h4
          exact Sat.back [_, _, _] (Sat.star (L1 := L) (L2 := [_, _, _]) (Sat.perm (List.perm_append_comm (l₁ := [_, _, _]) (l₂ := L)) h5))
        obtain ⟨i0, hi0, hz0, hz1, hz2⟩ := binfo
        by_cases hov : 4096 < Q.length + f.enc.length
        · have q : decide ((4096 : Int) < (Q.length : Int) + (f.enc.length : Int)) = true := by simp; omega
          have HX := hid_ (show packL ((l.map FrX.f).take (i + 1)) = (B ++ [Q], f.enc) by rw [HY.out, packS_new HM.out hov])
          have h5 := h4.alloc (.cells #[.slice a5 Q.length c5] 37 (0, 0))
          have b5 := (Sat.blk h5).1
          have h6 : Sat w0 _ [Bodies (.slice a6 B.length c6) B, BodE Q [.slice a5 Q.length c5], OwnB 5 (.slice a4 f.enc.length k4) f.enc, Star L] := Sat.re [2, 1, 0, 3] [_, _, _, _] (Sat.back [_] (BodE.mk (Sat.front [_] h5.drop)))
          go_wp2_with (at_builtin; refine wpList_append_one (w0 := w0) (e := 37) (sz := 1) (El := BodE) rfl _ _ 48 48 rfl Try.underlying48 hi0 hz0 hz1 hz2 rfl Q rfl h6 rfl (src_blk (t := 37) (cs := [.slice a5 Q.length c5]) Try.underlying48 b5 rfl (by simp [Value.oneCell'])) (by simp only [maxLen]; omega) (by omega) ?_)
          intro a8 c8 w8 h8
          have h9 := h8.alloc (.cells #[.slice none 0 0, .slice a4 f.enc.length k4] 37 (0, 0))
          have HJ := hid_ (jo_Join (l1 := []) (l2 := f.enc) (by simp; omega) h9 (fun W _ _ => RdB.nil W) (fun W L' hs => OwnB.rd (Sat.front (L' ++ [_]) (by rw [List.append_assoc]; exact hs))))
          simp only [List.length_nil, Nat.zero_add, List.nil_append] at HJ
          go_wp2_with fail
          refine HJ.out.mono ?_
          rintro _ w10 ⟨a10, c10, rfl, h10⟩
          go_wp2_with fail
          go_roundg (n - (i + 1))
          case measure => omega
          case rel =>
            refine ⟨i + 1, by omega, by omega, by go_num, ?_⟩
            rw [HX.out]
            simp only [List.length_append, List.length_singleton]
            exact h10.fin2
        · have q : decide ((4096 : Int) < (Q.length : Int) + (f.enc.length : Int)) = false := by simp; omega
          have HX := hid_ (show packL ((l.map FrX.f).take (i + 1)) = (B, Q ++ f.enc) by rw [HY.out, packS_on HM.out hov])
          have h9 := h4.alloc (.cells #[.slice a5 Q.length c5, .slice a4 f.enc.length k4] 37 (0, 0))
          have HJ := hid_ (jo_Join (l1 := Q) (l2 := f.enc) (by omega) h9 (fun W L' hs => OwnB.rd (Sat.front (L' ++ [_]) (by rw [List.append_assoc]; exact hs))) (fun W L' hs => OwnB.rd (Sat.front L' hs)))
          go_wp2_with fail
          refine HJ.out.mono ?_
          rintro _ w10 ⟨a10, c10, rfl, h10⟩
          have h10 := Sat.d2 h10
          go_wp2_with fail
          go_roundg (n - (i + 1))
          case measure => omega
          case rel =>
            refine ⟨i + 1, by omega, by omega, by go_num, ?_⟩
            rw [HX.out]
            have h11 := h10.fin2'
            simpa using h11
    · obtain rfl : i = n := by omega
      have htl : (l.map FrX.f).take i = l.map FrX.f := List.take_of_length_le (by rw [List.length_map, HN.out]; exact Nat.le_refl _)
      have hpl := packL_len (l.map FrX.f)
      rw [List.length_map, HN.out] at hpl
      rw [htl] at h2 ⊢
      obtain ⟨P, hP⟩ : ∃ P, packL (l.map FrX.f) = P := ⟨_, rfl⟩
      rw [hP] at hpl h2 ⊢
      have HP := hid_ hP
      clear hP htl
      obtain ⟨B, Q⟩ := P
      dsimp only at *
      have hb1 : B.length ≤ 60 := by omega
      by_cases h0 : 0 < Q.length
      · have q : decide ((0 : Int) < (Q.length : Int)) = true := decide_eq_true (by omega)
        have HX := hid_ (show packM (l.map FrX.f) = B ++ [Q] by unfold packM; rw [HP.out]; exact if_pos h0)
        have h5 := h2.alloc (.cells #[.slice a5 Q.length c5] 37 (0, 0))
        have b5 := (Sat.blk h5).1
        have h6 := Sat.swap (BodE.mk h5.drop)
        obtain ⟨i0, hi0, hz0, hz1, hz2⟩ := binfo
        go_wp2_with (at_builtin; refine wpList_append_one (w0 := w0) (e := 37) (sz := 1) (El := BodE) rfl _ _ 48 48 rfl Try.underlying48 hi0 hz0 hz1 hz2 rfl Q rfl h6 rfl (src_blk (t := 37) (cs := [.slice a5 Q.length c5]) Try.underlying48 b5 rfl (by simp [Value.oneCell'])) (by simp only [maxLen]; omega) (by omega) ?_)
        intro a8 c8 w8 h8
        go_wp2_with fail
        try rw [Exit.noGoto_ret]
        go_ret
        rw [HX.out]
        exact ⟨a8, c8, by simp, by simpa using h8⟩
      · have q : decide ((0 : Int) < (Q.length : Int)) = false := decide_eq_false (by omega)
        have HX := hid_ (show packM (l.map FrX.f) = B by unfold packM; rw [HP.out]; exact if_neg h0)
        go_wp2_with fail
        try rw [Exit.noGoto_ret]
        go_ret
        rw [HX.out]
        exact ⟨a6, c6, rfl, h2.drop⟩
end
end Go.Proofs.Ytkejadhkebjdcaa
