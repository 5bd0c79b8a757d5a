/- The law FrameDecodes, walked. -/
import Derived.Test.YtlkkmnbglememaaFrHa
namespace Go.Proofs.Ytlkkmnbglememaa
open Go Go.RowKit Go.ChangeShapes Go.WideShapes Go.Deep
set_option linter.unusedVariables false
set_option linter.unusedSimpArgs false

section
variable {w0 w : World} {L : List Assn}
set_option maxRecDepth 100000 in
set_option maxHeartbeats 4000000 in
theorem frame_decodes_law (v u t r z : Value) (w : World) (hv : IsFrames w v) (hu : IsInts w u) (ht : IsByte w t) (hr : IsInt w r) (hz : IsBytes w z) :
    Calls Try.prog 4 #[v, u, t, r, z] w fun e w' => e = .returned (.bool true) ∧ Below w.heap.size w w' := by
  obtain ⟨al, cl, l, rfl, hl⟩ := hv
  obtain ⟨ap, cp, ps, rfl, hps⟩ := hu
  obtain ⟨xb, rfl, hxb⟩ := ht
  obtain ⟨ct, rfl, _⟩ := hr
  obtain ⟨raw, hraw⟩ := hz
  obtain ⟨ar, cr, rfl, hcr, hcm, -⟩ := hraw.form
  have hs := Sat.refl w
  have hln : l.length ≤ maxLen := Nat.le_trans hl.1 hl.2.1
  have hpn : ps.length ≤ maxLen := Nat.le_trans hps.1 hps.2.1
  obtain ⟨n, hn⟩ : ∃ n, l.length = n := ⟨_, rfl⟩
  have HN := hid_ hn
  rw [hn] at hln ⊢
  clear hn
  have hrl := hraw.len
  unfold maxLen at hrl hln hpn
  have hL := hid_ (frame_Light (a := al) (n := n) (c := cl) (by unfold maxLen; exact hln) hs (fun W L' h i hi => by
    obtain ⟨y, hy⟩ : ∃ y, l[i]? = some y := ⟨_, List.getElem?_eq_getElem (by rw [HN.out]; exact hi)⟩
    obtain ⟨b, o, e, h1, _⟩ := RdL.at (RdFrames.mono hl h.below) hy
    exact ⟨b, o, y.f, _, _, e, h1⟩))
  have HRAW := hid_ hraw
  clear hcr hcm
  go_enter Try.func4, Try.ntmps4
  go_wp2_with fail
  refine hL.out.mono ?_
  rintro _ w1 ⟨k, rfl, hk0, hk60, h1⟩
  clear hL
  by_cases hk : 0 < k
  · have q : decide (0 < k) = true := by simpa using hk
    go_wp2_with fail
    refine (frame_awake h1).mono ?_
    rintro _ w2 ⟨rfl, h2⟩
    go_wp2_with fail
    go_ret
    exact ⟨rfl, h2.below⟩
  obtain rfl : k = 0 := by omega
  have hn60 := hk60 rfl
  clear hk hk0 hk60
  by_cases hr5 : 500 < raw.length
  · have q : decide ((500 : Int) < (raw.length : Int)) = true := by simp; omega
    go_wp2_with fail
    refine (frame_awake h1).mono ?_
    rintro _ w2 ⟨rfl, h2⟩
    go_wp2_with fail
    go_ret
    exact ⟨rfl, h2.below⟩
  have q : decide ((500 : Int) < (raw.length : Int)) = false := by simp; omega
  go_wp2_with fail
  go_loopg [11, 36] n (fun gg v11 v36 wr => ∃ (i : Nat) (q : List UInt8), i ≤ n ∧ n - i ≤ gg ∧ v36 = .int .i64 i ∧ q.length ≤ i * 4005 ∧ Sat w wr [OwnB 5 v11 q])
  case atStart => exact ⟨0, [], Nat.zero_le _, by omega, rfl, Nat.zero_le _, OwnB.nilI h1⟩
  case round =>
    obtain ⟨i, P, hi, hgg, rfl, hb0, h2⟩ := hrel
    clear h1
    obtain ⟨a5, c5, rfl, -⟩ := OwnB.slice h2
    have hb1 : P.length ≤ 240300 := by omega
    by_cases hlt : i < n
    · obtain ⟨y, hy⟩ : ∃ y, l[i]? = some y := ⟨_, List.getElem?_eq_getElem (by rw [HN.out]; exact hlt)⟩
      obtain ⟨b, o, rfl, hf, hrx⟩ := RdL.at (RdFrames.mono hl h2.below) hy
      have hrx0 : RdX w y := (RdL.at hl hy).choose_spec.choose_spec.2.2
      obtain ⟨x0, x1, x2, x3, x4, x5, x6, x7, x8⟩ := hf.nine
      have z1 : 0 ≤ (i : Int) ∧ (i : Int) < (n : Int) := by omega
      have h3 := h2.alloc (frO y.f y.ip y.d)
      clear hy hf
      obtain ⟨f, x, z, c, k⟩ := y
      unfold FrX.ip FrX.d at *
      dsimp only at *
      obtain ⟨mb, hmb⟩ : ∃ mb, f.may = mb := ⟨_, rfl⟩
      cases mb
      · have HE := hid_ (ref_EncodeFrame_no f x z c k hmb (hrx0.mono h3.below) h3)
        unfold frO at h3 HE
        unfold frV at HE
        clear hmb h2
        go_wp2_with fail
        refine HE.out.mono ?_
        rintro _ w4 ⟨rfl, h4⟩
        replace h4 := h4.drop
        go_wp2_with (at_builtin; refine wpList_append_b (w0 := w) rfl _ _ 22 rfl rfl h4 rfl (slSrc (RdB.nil _)) P P.length (List.append_nil P) rfl (by omega) ?_)
        intro a6 k6 w6 h6
        go_wp2_with fail
        go_roundg (n - (i + 1))
        case measure => omega
        case rel => exact ⟨i + 1, P, by omega, by omega, by go_num, by omega, h6⟩
      · have HE := hid_ (ref_EncodeFrame_yes f x z c k hmb h3 (fun W L' h => hrx0.mono h.below))
        have hfl := tail_len hmb
        have hfl2 := enc_len3 f
        have hfl3 : f.enc.length ≤ 4005 := by omega
        unfold frO at h3 HE
        unfold frV at HE
        clear hmb hfl hfl2 h2
        go_wp2_with fail
        refine HE.out.mono ?_
        rintro _ w4 ⟨a4, k4, rfl, h4⟩
        go_wp2_with (at_builtin; refine wpList_append_b (w0 := w) rfl _ _ 22 rfl rfl (Sat.front [_, _] h4) rfl (slSrc (OwnB.rd h4)) _ (P.length + f.enc.length) rfl (by simp) (by omega) ?_)
        intro a6 k6 w6 h6
        go_wp2_with fail
        go_roundg (n - (i + 1))
        case measure => omega
        case rel => exact ⟨i + 1, P ++ f.enc, by omega, by omega, by go_num, by rw [List.length_append]; omega, h6.d2.d2⟩
    · obtain rfl : i = n := by omega
      clear hlt hi hgg hb0
      by_cases hP0 : 0 < P.length
      · have q0 : decide ((0 : Int) < (P.length : Int)) = true := decide_eq_true (by omega)
        have q0n : decide (0 < P.length) = true := decide_eq_true hP0
        obtain ⟨b5, o5, c5', he5, -, -, -, -⟩ := (OwnB.rd h2).at (i := 0) hP0
        injection he5 with he6 he8 he7
        subst he6 he7
        clear he8
        obtain ⟨m, hm⟩ : ∃ m, P.length = m := ⟨_, rfl⟩
        have HM := hid_ hm
        rw [hm] at h2 hb1 hP0 q0 q0n ⊢
        clear hm
        have sm : IntKind.u64.wrap (m : Int) = (m : Int) := u64_in (by omega) (by omega)
        have hmI : 0 ≤ (m : Int) ∧ (m : Int) ≤ 240300 := by omega
        have hm0 : (0 : Int) < (m : Int) := by omega
        have hmne : ¬ m = 0 := by omega
        have hmz : ((m : Int) == 0) = false := by rw [beq_eq_false_iff_ne]; omega
        go_wp2_with fail
        go_loopg [55] ps.length (fun gg v55 wr => ∃ (j : Nat) (q : List UInt8), j ≤ ps.length ∧ ps.length - j ≤ gg ∧ v55 = .int .i64 j ∧ q.length = m ∧ Sat w wr [OwnB 5 (.slice (some ⟨b5, o5, none⟩) m c5) q])
        case atStart => exact ⟨0, P, Nat.zero_le _, by omega, rfl, HM.out, h2⟩
        case round =>
          obtain ⟨j, Q, hj, hgg, rfl, hq, h3⟩ := hrel
          clear h2
          by_cases hjl : j < ps.length
          · obtain ⟨pp, hpp⟩ : ∃ y, ps[j]? = some y := ⟨_, List.getElem?_eq_getElem hjl⟩
            obtain ⟨b7, o7, rfl, hlt7, hc7, -⟩ := (RdL.mono hps h3.below (fun _ _ => trivial)).2.2 j pp hpp
            have e7 : wr.cell? ⟨b7, o7 + j, none⟩ = some (.int .i64 pp) := by
              have := hc7 0 (.int .i64 pp) rfl
              rw [Nat.mul_one, Nat.add_zero] at this
              exact this
            have z1 : 0 ≤ (j : Int) ∧ (j : Int) < (ps.length : Int) := by omega
            clear hc7 hpp hlt7
            by_cases hj3 : j < 3
            · have q3 : decide ((j : Int) < 3) = true := decide_eq_true (by omega)
              have hum := um_bd pp (m := (m : Int)) (by omega) (by omega)
              obtain ⟨R, hR⟩ := Int.eq_ofNat_of_zero_le hum.1
              rw [hR] at hum
              have hRm : R < m := by omega
              obtain ⟨bb, oo, cc, he, _, _, hcc, hff⟩ := OwnS.cells h3 (by omega)
              injection he with he1 hem hec
              injection he1 with he1
              injection he1 with he1 he2 hen
              subst he1 he2
              clear hem hec hen
              have cx := hcc R _ (bytesC_get (a := Q) (i := R) (by omega))
              have fx := hff (o5 + R)
              obtain ⟨yb, hyb⟩ : ∃ y : Nat, (Q.getD R 0).toNat = y := ⟨_, rfl⟩
              have hyb2 : yb < 256 := by rw [← hyb]; exact UInt8.toNat_lt _
              rw [hyb] at cx
              obtain ⟨cb, hcb⟩ := xor_u8 hyb2 hxb
              have h3' := h3
              unfold OwnB at h3'
              rw [hq] at h3'
              have hput := OwnS.put (o := R) h3' (vs := [.int .u8 (cb.toNat : Int)]) (by show R + 1 ≤ m * 1; omega)
              have hset := bytesC_set Q R cb (by omega)
              rw [show R + [(Value.int .u8 (cb.toNat : Int))].length = R + 1 from rfl, hset] at hput
              obtain ⟨cn, hcn⟩ : ∃ z : Nat, cb.toNat = z := ⟨_, rfl⟩
              rw [hcn] at hcb hput
              have zR : 0 ≤ (R : Int) ∧ (R : Int) < (m : Int) := by omega
              have HQ := hid_ hq
              clear hcc hff hyb hcn h3' hum hq hset
              go_wp2_with fail
              go_roundg (ps.length - (j + 1))
              case measure => omega
              case rel =>
                refine ⟨j + 1, Q.set R cb, by omega, by omega, by go_num, by rw [List.length_set, HQ.out], ?_⟩
                unfold OwnB
                rw [List.length_set, HQ.out]
                exact hput
            · have q3 : decide ((j : Int) < 3) = false := decide_eq_false (by omega)
              have HQ := hid_ hq
              clear hq
              go_wp2_with fail
              go_roundg (ps.length - (j + 1))
              case measure => omega
              case rel => exact ⟨j + 1, Q, by omega, by omega, by go_num, HQ.out, h3⟩
          · obtain rfl : j = ps.length := by omega
            clear hjl hgg hj
            have hum := um_bd ct (m := (m : Int)) (by omega) (by omega)
            obtain ⟨R, hR⟩ := Int.eq_ofNat_of_zero_le hum.1
            rw [hR] at hum
            obtain ⟨kk, hkk⟩ : ∃ kk : Nat, (m : Int) - (R : Int) = (kk : Int) := ⟨m - R, by omega⟩
            have hkb : kk ≤ m ∧ 0 < kk := by omega
            obtain ⟨a0, c0, e0, hle, -⟩ := OwnS.form h3
            injection e0 with e1 em e2
            subst e1 e2
            clear em
            have b0 : 0 ≤ (kk : Int) ∧ (kk : Int) ≤ (c5 : Int) := by omega
            have HV := hid_ (fun (W : World) (L' : List Assn) (hW : Sat w W (L' ++ [OwnB 5 (.slice (some ⟨b5, o5, none⟩) m c5) Q])) => (show RdB W (.slice (some ⟨b5, o5, none⟩) kk c5) (Q.take kk) from by
              have h := RdB.begins (n := kk) (by have := OwnB.rd (Sat.front L' hW); rw [← hq] at this; exact this) rfl (by rw [List.length_take]; omega)
              rw [List.length_take, Nat.min_eq_left (by omega)] at h
              exact h))
            obtain ⟨K, hK⟩ : ∃ K, Q.take kk = K := ⟨_, rfl⟩
            have hKl : K.length = kk := by rw [← hK, List.length_take]; omega
            rw [hK] at HV
            subst hKl
            clear hK hum hq
            go_wp2_with fail
            try clear hkk
            try clear hR
            try clear sm
            try clear hmz
            try clear hmne
            try clear q0
            try clear q0n
            try clear b0
            try clear hm0
            try clear hmI
            go_loopg [88] 2 (fun gg v88 wr => ∃ s : Nat, s ≤ 2 ∧ 2 - s ≤ gg ∧ v88 = .int .i64 s ∧ Sat w wr [OwnB 5 (.slice (some ⟨b5, o5, none⟩) m c5) Q])
            case atStart => exact ⟨0, by omega, by omega, rfl, h3⟩
            case round =>
              obtain ⟨s, hs2, hgg, rfl, h4⟩ := hrel
              by_cases s2 : s = 2
              · subst s2
                go_wp2_with fail
                refine (frame_awake h4).mono ?_
                rintro _ w5 ⟨rfl, h5⟩
                go_wp2_with fail
                go_ret
                exact ⟨rfl, h5.below⟩
              by_cases s0 : s = 0
              · subst s0
                have HD1 := hid_ (frame_Decode (v := .slice (some ⟨b5, o5, none⟩) K.length c5) (b := K) (by omega) h4 (fun W L' h => HV.out W L' h))
                go_wp2_with fail
                simp [Instr.index, go_sem, run_underlying Try.underlying37, asIntOf, Oper.upon]
                go_wp2_with fail
                refine HD1.out.mono ?_
                rintro _ w5 ⟨a8, c8, rfl, h5⟩
                have HD2 := hid_ (ref_DecodeFrames (v := .slice (some ⟨b5, o5, none⟩) K.length c5) (b := K) (by omega) h5 (fun W L' h => HV.out W (L' ++ [_]) (by rw [List.append_assoc]; exact h)))
                clear HD1 h4
                go_wp2_with fail
                refine HD2.out.mono ?_
                rintro _ w6 ⟨a9, c9, rfl, h6⟩
                obtain ⟨⟨er, ql⟩, hx⟩ : ∃ x, decF (K) = x := ⟨_, rfl⟩
                rw [hx] at h6 ⊢
                dsimp only at h6
                have hql := (OwnL.form h6.drop)
                obtain ⟨_, _, e9, hq9, hq10⟩ := hql
                have HSF := hid_ (ref_SameFrames (w := w6) (a := a8) (b := a9) (n := ql.length) (c := c8) (d := c9) (l := ql) rfl (by omega) (FramesA.rd h6.drop) (FramesA.rd h6))
                clear HD2 hx e9 hq9 hq10
                go_wp2_with fail
                refine HSF.out.mono ?_
                rintro _ w7 ⟨rfl, hb7⟩
                have h7 := (h6.under hb7).drop.drop
                clear HSF h6 hb7 h5
                go_wp2_with fail
                go_roundg (2 - (0 + 1))
                case measure => omega
                case rel => exact ⟨0 + 1, by omega, by omega, by go_num, h7⟩
              obtain rfl : s = 1 := by omega
              have HD1 := hid_ (frame_Decode (v := .slice ar raw.length cr) (b := raw) (by omega) h4 (fun W L' h => HRAW.out.mono h.below))
              go_wp2_with fail
              simp [Instr.index, go_sem, run_underlying Try.underlying37, asIntOf, Oper.upon]
              go_wp2_with fail
              refine HD1.out.mono ?_
              rintro _ w5 ⟨a8, c8, rfl, h5⟩
              have HD2 := hid_ (ref_DecodeFrames (v := .slice ar raw.length cr) (b := raw) (by omega) h5 (fun W L' h => HRAW.out.mono h.below))
              clear HD1 h4
              go_wp2_with fail
              refine HD2.out.mono ?_
              rintro _ w6 ⟨a9, c9, rfl, h6⟩
              obtain ⟨⟨er, ql⟩, hx⟩ : ∃ x, decF (raw) = x := ⟨_, rfl⟩
              rw [hx] at h6 ⊢
              dsimp only at h6
              have hql := (OwnL.form h6.drop)
              obtain ⟨_, _, e9, hq9, hq10⟩ := hql
              have HSF := hid_ (ref_SameFrames (w := w6) (a := a8) (b := a9) (n := ql.length) (c := c8) (d := c9) (l := ql) rfl (by omega) (FramesA.rd h6.drop) (FramesA.rd h6))
              clear HD2 hx e9 hq9 hq10
              go_wp2_with fail
              refine HSF.out.mono ?_
              rintro _ w7 ⟨rfl, hb7⟩
              have h7 := (h6.under hb7).drop.drop
              clear HSF h6 hb7 h5
              go_wp2_with fail
              go_roundg (2 - (1 + 1))
              case measure => omega
              case rel => exact ⟨1 + 1, by omega, by omega, by go_num, h7⟩
      · obtain rfl : P = [] := List.eq_nil_of_length_eq_zero (by omega)
        have HV := hid_ (fun (W : World) (L' : List Assn) (hW : Sat w W (L' ++ [OwnB 5 (.slice a5 ([] : List UInt8).length c5) []])) => OwnB.rd (Sat.front L' hW))
        have hkb : ([] : List UInt8).length ≤ 240300 := Nat.zero_le _
        go_wp2_with fail
        go_loopg [88] 2 (fun gg v88 wr => ∃ s : Nat, s ≤ 2 ∧ 2 - s ≤ gg ∧ v88 = .int .i64 s ∧ Sat w wr [OwnB 5 (.slice a5 ([] : List UInt8).length c5) []])
        case atStart => exact ⟨0, by omega, by omega, rfl, h2⟩
        case round =>
          obtain ⟨s, hs2, hgg, rfl, h4⟩ := hrel
          by_cases s2 : s = 2
          · subst s2
            go_wp2_with fail
            refine (frame_awake h4).mono ?_
            rintro _ w5 ⟨rfl, h5⟩
            go_wp2_with fail
            go_ret
            exact ⟨rfl, h5.below⟩
          by_cases s0 : s = 0
          · subst s0
            have HD1 := hid_ (frame_Decode (v := .slice a5 ([] : List UInt8).length c5) (b := []) (by omega) h4 (fun W L' h => HV.out W L' h))
            go_wp2_with fail
            simp [Instr.index, go_sem, run_underlying Try.underlying37, asIntOf, Oper.upon]
            go_wp2_with fail
            refine HD1.out.mono ?_
            rintro _ w5 ⟨a8, c8, rfl, h5⟩
            have HD2 := hid_ (ref_DecodeFrames (v := .slice a5 ([] : List UInt8).length c5) (b := []) (by omega) h5 (fun W L' h => HV.out W (L' ++ [_]) (by rw [List.append_assoc]; exact h)))
            clear HD1 h4
            go_wp2_with fail
            refine HD2.out.mono ?_
            rintro _ w6 ⟨a9, c9, rfl, h6⟩
            obtain ⟨⟨er, ql⟩, hx⟩ : ∃ x, decF ([]) = x := ⟨_, rfl⟩
            rw [hx] at h6 ⊢
            dsimp only at h6
            have hql := (OwnL.form h6.drop)
            obtain ⟨_, _, e9, hq9, hq10⟩ := hql
            have HSF := hid_ (ref_SameFrames (w := w6) (a := a8) (b := a9) (n := ql.length) (c := c8) (d := c9) (l := ql) rfl (by omega) (FramesA.rd h6.drop) (FramesA.rd h6))
            clear HD2 hx e9 hq9 hq10
            go_wp2_with fail
            refine HSF.out.mono ?_
            rintro _ w7 ⟨rfl, hb7⟩
            have h7 := (h6.under hb7).drop.drop
            clear HSF h6 hb7 h5
            go_wp2_with fail
            go_roundg (2 - (0 + 1))
            case measure => omega
            case rel => exact ⟨0 + 1, by omega, by omega, by go_num, h7⟩
          obtain rfl : s = 1 := by omega
          have HD1 := hid_ (frame_Decode (v := .slice ar raw.length cr) (b := raw) (by omega) h4 (fun W L' h => HRAW.out.mono h.below))
          go_wp2_with fail
          simp [Instr.index, go_sem, run_underlying Try.underlying37, asIntOf, Oper.upon]
          go_wp2_with fail
          refine HD1.out.mono ?_
          rintro _ w5 ⟨a8, c8, rfl, h5⟩
          have HD2 := hid_ (ref_DecodeFrames (v := .slice ar raw.length cr) (b := raw) (by omega) h5 (fun W L' h => HRAW.out.mono h.below))
          clear HD1 h4
          go_wp2_with fail
          refine HD2.out.mono ?_
          rintro _ w6 ⟨a9, c9, rfl, h6⟩
          obtain ⟨⟨er, ql⟩, hx⟩ : ∃ x, decF (raw) = x := ⟨_, rfl⟩
          rw [hx] at h6 ⊢
          dsimp only at h6
          have hql := (OwnL.form h6.drop)
          obtain ⟨_, _, e9, hq9, hq10⟩ := hql
          have HSF := hid_ (ref_SameFrames (w := w6) (a := a8) (b := a9) (n := ql.length) (c := c8) (d := c9) (l := ql) rfl (by omega) (FramesA.rd h6.drop) (FramesA.rd h6))
          clear HD2 hx e9 hq9 hq10
          go_wp2_with fail
          refine HSF.out.mono ?_
          rintro _ w7 ⟨rfl, hb7⟩
          have h7 := (h6.under hb7).drop.drop
          clear HSF h6 hb7 h5
          go_wp2_with fail
          go_roundg (2 - (1 + 1))
          case measure => omega
          case rel => exact ⟨1 + 1, by omega, by omega, by go_num, h7⟩

end
end Go.Proofs.Ytlkkmnbglememaa
