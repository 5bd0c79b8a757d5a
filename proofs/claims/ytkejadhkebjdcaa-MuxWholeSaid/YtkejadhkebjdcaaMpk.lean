/- (mux) Pack: frames as bodies; walked. -/
import Derived.WalkMore
import Derived.Test.YtkejadhkebjdcaaOpnF
import Derived.Test.YtkejadhkebjdcaaFrL
import Derived.Test.YtkejadhkebjdcaaFrW
import Derived.Test.YtkejadhkebjdcaaRefFe
namespace Go.Proofs.Ytkejadhkebjdcaa
open Go Go.RowKit
set_option linter.unusedVariables false
set_option linter.unusedSimpArgs false

/-! ### What is packed, in plain lists -/
def packS (s : List (List UInt8) × List UInt8) (f : FrM) : List (List UInt8) × List UInt8 :=
  if f.may then (if 4096 < s.2.length + f.enc.length then (s.1 ++ [s.2], f.enc) else (s.1, s.2 ++ f.enc)) else s
def packL (l : List FrM) : List (List UInt8) × List UInt8 := l.foldl packS ([], [])
def packM (l : List FrM) : List (List UInt8) := if 0 < (packL l).2.length then (packL l).1 ++ [(packL l).2] else (packL l).1
theorem packL_nil : packL [] = ([], []) := rfl
theorem packL_snoc (l : List FrM) (f : FrM) : packL (l ++ [f]) = packS (packL l) f := by unfold packL; simp
theorem packS_no {s : List (List UInt8) × List UInt8} {f : FrM} (h : f.may = false) : packS s f = s := by unfold packS; simp [h]
theorem packS_new {s : List (List UInt8) × List UInt8} {f : FrM} (h : f.may = true) (hl : 4096 < s.2.length + f.enc.length) : packS s f = (s.1 ++ [s.2], f.enc) := by unfold packS; rw [if_pos h, if_pos hl]
theorem packS_on {s : List (List UInt8) × List UInt8} {f : FrM} (h : f.may = true) (hl : ¬ 4096 < s.2.length + f.enc.length) : packS s f = (s.1, s.2 ++ f.enc) := by unfold packS; rw [if_pos h, if_neg hl]
theorem enc_le {f : FrM} (h : f.may = true) : f.enc.length ≤ 4005 := by have := tail_len h; have := enc_len3 f; omega
theorem packL_len (l : List FrM) : (packL l).1.length ≤ l.length ∧ (packL l).2.length ≤ 4096 := by
  rw [← List.reverse_reverse l]
  induction l.reverse with
  | nil => simp [packL_nil]
  | cons f r ih =>
    rw [List.reverse_cons, packL_snoc, List.length_append]
    cases hm : f.may
    · rw [packS_no hm]; simp at ih ⊢; omega
    · have he := enc_le hm
      by_cases hl : 4096 < (packL r.reverse).2.length + f.enc.length
      · rw [packS_new hm hl]; simp at ih ⊢; omega
      · rw [packS_on hm hl]; simp at ih ⊢; omega
theorem packM_len (l : List FrM) : (packM l).length ≤ l.length + 1 := by
  have := packL_len l
  unfold packM
  split <;> simp <;> omega
theorem take_snoc_mu {α : Type} {l : List α} {i : Nat} {y : α} (h : l[i]? = some y) : l.take (i + 1) = l.take i ++ [y] := by
  have hi : i < l.length := (List.getElem?_eq_some_iff.1 h).1
  rw [List.take_succ_eq_append_getElem hi]
  have h2 : l[i]? = some l[i] := List.getElem?_eq_getElem hi
  rw [h2] at h
  injection h with h
  rw [h]

/-! ### Bodies in memory -/
def BodE (x : List UInt8) (cs : List Value) : Assn := fun h => ∃ v : Value, cs = [v] ∧ OwnB 5 v x h
abbrev Bodies (v : Value) (l : List (List UInt8)) : Assn := OwnL 37 1 BodE v l
theorem binfo : ∃ i, Try.prog.info? 37 = some i ∧ i.zero = some (.slice none 0 0) ∧ i.size = 1 ∧ i.bytes = 24 := info_at (by kernel_rfl)
section
variable {w0 w w' : World} {L L' : List Assn}
theorem BodE.mk {v : Value} {x : List UInt8} (h : Sat w0 w (OwnB 5 v x :: L)) : Sat w0 w (BodE x [v] :: L) := h.imp (fun _ hh => ⟨v, rfl, hh⟩)
theorem BodE.opn {x : List UInt8} {cs : List Value} (h : Sat w0 w (BodE x cs :: L)) : ∃ v, cs = [v] ∧ Sat w0 w (OwnB 5 v x :: L) := by
  obtain ⟨v, h1⟩ := Sat.ex (F := fun (v : Value) h => cs = [v] ∧ OwnB 5 v x h) h
  obtain ⟨h2, h3⟩ := Sat.pure (p := cs = [v]) (A := OwnB 5 v x) h1
  exact ⟨v, h2, h3⟩
theorem Bodies.at {a : Option Addr} {n c : Nat} {l : List (List UInt8)} (h : Sat w0 w (Bodies (.slice a n c) l :: L)) {i : Nat} {x : List UInt8} (hi : l[i]? = some x) :
    ∃ b o v, a = some ⟨b, o, none⟩ ∧ w.cell? ⟨b, o + i, none⟩ = some v ∧ RdB w v x := by
  obtain ⟨b, off, cap, cs, L', hv, _, _, hc, h1⟩ := OwnL.at h hi
  obtain ⟨v, rfl, h2⟩ := BodE.opn h1
  injection hv with ha
  have h3 := hc 0 v rfl
  rw [Nat.add_zero, Nat.mul_one] at h3
  exact ⟨b, off, v, ha, h3, OwnB.rd h2⟩
theorem Sat.fin2 {A B C : Assn} (h : Sat w0 w [A, B, C, Star L]) : Sat w0 w (A :: B :: L) :=
  Sat.perm (List.perm_append_comm (l₁ := L) (l₂ := [A, B])) (Sat.unstar (Sat.re [2, 0, 1] [_, _, _] (L := []) (Sat.re [2, 0, 1, 3] [_, _, _, _] (L := []) h).drop))
theorem Sat.fin2' {A B C : Assn} (h : Sat w0 w [A, C, B, Star L]) : Sat w0 w (A :: B :: L) := Sat.fin2 (Sat.re [0, 2, 1, 3] [_, _, _, _] (L := []) h)
def PackOk (w0 : World) (L : List Assn) (q : List (List UInt8)) (e : Ending) (w' : World) : Prop :=
  ∃ a c, e = .returned (.slice a q.length c) ∧ Sat w0 w' (Bodies (.slice a q.length c) q :: L)

set_option maxRecDepth 100000 in
set_option maxHeartbeats 4000000 in
theorem mux_Pack {a : Option Addr} {c n : Nat} {l : List FrX} (hn : l.length = n) (h60 : n ≤ 60) (ha : RdL 9 frXC RdX w0 a c l) (hs : Sat w0 w L) :
    Calls Try.prog 24 #[.slice a n c] w (PackOk w0 L (packM (l.map FrX.f))) := by
  have HN := hid_ hn
  clear hn
  go_enter Try.func24, Try.ntmps24
  go_wp2_with fail
  go_step3
  go_wp2_with fail
  go_step3
  go_wp2_with fail
  go_loopg [3, 4, 11] n (fun gg v3 v4 v11 wr => ∃ i : Nat, i ≤ n ∧ n - i ≤ gg ∧ v11 = .int .i64 i ∧ Sat w0 wr (OwnB 5 v4 (packL ((l.map FrX.f).take i)).2 :: Bodies v3 (packL ((l.map FrX.f).take i)).1 :: L))
  case atStart => exact ⟨0, Nat.zero_le _, by omega, rfl, OwnB.nilI (OwnL.nilI hs)⟩
  case round =>
    obtain ⟨i, hi, hgg, rfl, h2⟩ := hrel
    clear hs
    obtain ⟨a5, c5, rfl, -⟩ := OwnB.slice h2
    obtain ⟨a6, c6, rfl, -, -⟩ := OwnL.form h2.drop
    by_cases hlt : i < n
    · obtain ⟨y, hy⟩ : ∃ y, l[i]? = some y := ⟨_, List.getElem?_eq_getElem (by rw [HN.out]; exact hlt)⟩
      obtain ⟨bq, oq, rfl, hf, hrx⟩ := RdL.at (RdFrames.mono ha h2.below) hy
      have hrx0 : RdX w0 y := (RdL.at ha hy).choose_spec.choose_spec.2.2
      obtain ⟨x0, x1, x2, x3, x4, x5, x6, x7, x8⟩ := hf.nine
      have HT := hid_ (take_snoc_mu (show (l.map FrX.f)[i]? = some y.f by rw [List.getElem?_map, hy]; rfl))
      have hpl := packL_len ((l.map FrX.f).take i)
      have hti : ((l.map FrX.f).take i).length ≤ 60 := by rw [List.length_take]; omega
      have z1 : 0 ≤ (i : Int) ∧ (i : Int) < (n : Int) := by omega
      have h3 := h2.alloc (frO y.f y.ip y.d)
      clear hy hf
      obtain ⟨f, x, z, c', k⟩ := y
      unfold FrX.ip FrX.d at *
      dsimp only at *
      obtain ⟨P, hP⟩ : ∃ P, packL ((l.map FrX.f).take i) = P := ⟨_, rfl⟩
      rw [hP] at hpl h3 ⊢
      have hb1 : P.1.length ≤ 60 := by omega
      have hb2 : P.2.length ≤ 4096 := hpl.2
      have HP := hid_ hP
      obtain ⟨mb, hmb⟩ : ∃ mb, f.may = mb := ⟨_, rfl⟩
      clear hP h2 hpl hti
      obtain ⟨B, Q⟩ := P
      dsimp only at *
      unfold frO at h3
      cases mb
      · have HE := hid_ (frame_Encode_no f x z c' k hmb (hrx0.mono h3.below) h3)
        have HX := hid_ (show packL ((l.map FrX.f).take (i + 1)) = (B, Q) by rw [HT.out, packL_snoc, HP.out, packS_no hmb])
        unfold frV at HE
        clear hmb
        go_wp2_with fail
        refine HE.out.mono ?_
        rintro _ w4 ⟨rfl, h4⟩
        go_wp2_with fail
        go_roundg (n - (i + 1))
        case measure => omega
        case rel => exact ⟨i + 1, by omega, by omega, by go_num, by rw [HX.out]; exact h4.drop⟩
      · have HE := hid_ (frame_Encode_yes f x z c' k hmb h3 (fun W L' h => hrx0.mono h.below))
        have hel := enc_le hmb
        have HY := hid_ (show packL ((l.map FrX.f).take (i + 1)) = packS (B, Q) f by rw [HT.out, packL_snoc, HP.out])
        have HM := hid_ hmb
        unfold frV at HE
        clear hmb
        go_wp2_with fail
        refine HE.out.mono ?_
        rintro _ w4 ⟨a4, k4, rfl, h4⟩
        have h4 : Sat w0 w4 [OwnB 5 (.slice a4 f.enc.length k4) f.enc, OwnB 5 (.slice a5 Q.length c5) Q, Bodies (.slice a6 B.length c6) B, Star L] := by
          have h5 := Sat.d2 h4
          exact Sat.back [_, _, _] (Sat.star (L1 := L) (L2 := [_, _, _]) (Sat.perm (List.perm_append_comm (l₁ := [_, _, _]) (l₂ := L)) h5))
        obtain ⟨i0, hi0, hz0, hz1, hz2⟩ := binfo
        by_cases hov : 4096 < Q.length + f.enc.length
        · have q : decide ((4096 : Int) < (Q.length : Int) + (f.enc.length : Int)) = true := by simp; omega
          have HX := hid_ (show packL ((l.map FrX.f).take (i + 1)) = (B ++ [Q], f.enc) by rw [HY.out, packS_new HM.out hov])
          have h5 := h4.alloc (.cells #[.slice a5 Q.length c5] 37 (0, 0))
          have b5 := (Sat.blk h5).1
          have h6 : Sat w0 _ [Bodies (.slice a6 B.length c6) B, BodE Q [.slice a5 Q.length c5], OwnB 5 (.slice a4 f.enc.length k4) f.enc, Star L] := Sat.re [2, 1, 0, 3] [_, _, _, _] (Sat.back [_] (BodE.mk (Sat.front [_] h5.drop)))
          go_wp2_with (at_builtin; refine wpList_append_one (w0 := w0) (e := 37) (sz := 1) (El := BodE) rfl _ _ 48 48 rfl Try.underlying48 hi0 hz0 hz1 hz2 rfl Q rfl h6 rfl (src_blk (t := 37) (cs := [.slice a5 Q.length c5]) Try.underlying48 b5 rfl (by simp [Value.oneCell'])) (by simp only [maxLen]; omega) (by omega) ?_)
          intro a8 c8 w8 h8
          have h9 := OwnB.nilI (t := 5) h8
          have r9 := OwnB.rd (Sat.front [_, _] h9)
          go_wp2_with (at_builtin; refine wpList_append_b (w0 := w0) rfl _ _ 37 rfl rfl h9 rfl (slSrc r9) f.enc f.enc.length rfl rfl (by omega) ?_)
          intro a10 c10 w10 h10
          go_wp2_with fail
          go_roundg (n - (i + 1))
          case measure => omega
          case rel =>
            refine ⟨i + 1, by omega, by omega, by go_num, ?_⟩
            rw [HX.out]
            simp only [List.length_append, List.length_singleton]
            exact h10.fin2
        · have q : decide ((4096 : Int) < (Q.length : Int) + (f.enc.length : Int)) = false := by simp; omega
          have HX := hid_ (show packL ((l.map FrX.f).take (i + 1)) = (B, Q ++ f.enc) by rw [HY.out, packS_on HM.out hov])
          have h9 := h4.swap
          have r9 := OwnB.rd h4
          go_wp2_with (at_builtin; refine wpList_append_b (w0 := w0) rfl _ _ 37 rfl rfl h9 rfl (slSrc r9) (Q ++ f.enc) (Q.length + f.enc.length) rfl (by simp) (by omega) ?_)
          intro a10 c10 w10 h10
          go_wp2_with fail
          go_roundg (n - (i + 1))
          case measure => omega
          case rel =>
            refine ⟨i + 1, by omega, by omega, by go_num, ?_⟩
            rw [HX.out]
            have h11 := h10.fin2'
            simpa using h11
    · obtain rfl : i = n := by omega
      have htl : (l.map FrX.f).take i = l.map FrX.f := List.take_of_length_le (by rw [List.length_map, HN.out]; exact Nat.le_refl _)
      have hpl := packL_len (l.map FrX.f)
      rw [List.length_map, HN.out] at hpl
      rw [htl] at h2 ⊢
      obtain ⟨P, hP⟩ : ∃ P, packL (l.map FrX.f) = P := ⟨_, rfl⟩
      rw [hP] at hpl h2 ⊢
      have HP := hid_ hP
      clear hP htl
      obtain ⟨B, Q⟩ := P
      dsimp only at *
      have hb1 : B.length ≤ 60 := by omega
      by_cases h0 : 0 < Q.length
      · have q : decide ((0 : Int) < (Q.length : Int)) = true := decide_eq_true (by omega)
        have HX := hid_ (show packM (l.map FrX.f) = B ++ [Q] by unfold packM; rw [HP.out]; exact if_pos h0)
        have h5 := h2.alloc (.cells #[.slice a5 Q.length c5] 37 (0, 0))
        have b5 := (Sat.blk h5).1
        have h6 := Sat.swap (BodE.mk h5.drop)
        obtain ⟨i0, hi0, hz0, hz1, hz2⟩ := binfo
        go_wp2_with (at_builtin; refine wpList_append_one (w0 := w0) (e := 37) (sz := 1) (El := BodE) rfl _ _ 48 48 rfl Try.underlying48 hi0 hz0 hz1 hz2 rfl Q rfl h6 rfl (src_blk (t := 37) (cs := [.slice a5 Q.length c5]) Try.underlying48 b5 rfl (by simp [Value.oneCell'])) (by simp only [maxLen]; omega) (by omega) ?_)
        intro a8 c8 w8 h8
        go_wp2_with fail
        try rw [Exit.noGoto_ret]
        go_ret
        rw [HX.out]
        exact ⟨a8, c8, by simp, by simpa using h8⟩
      · have q : decide ((0 : Int) < (Q.length : Int)) = false := decide_eq_false (by omega)
        have HX := hid_ (show packM (l.map FrX.f) = B by unfold packM; rw [HP.out]; exact if_neg h0)
        go_wp2_with fail
        try rw [Exit.noGoto_ret]
        go_ret
        rw [HX.out]
        exact ⟨a6, c6, rfl, h2.drop⟩
end
end Go.Proofs.Ytkejadhkebjdcaa
