/- The law AclFirst, walked. -/
import Derived.Deep.DeepCutAuto
import Derived.Test.YtmnjaaeljpleeaaAclU
namespace Go.Proofs.Ytmnjaaeljpleeaa
open Go Go.RowKit
set_option linter.unusedVariables false
set_option linter.unusedSimpArgs false

theorem infoRu : ∃ i, Try.prog.info? 30 = some i ∧ i.zero = some (.agg #[.int .i64 0, .bool false, .slice none 0 0, .int .i64 0, .string ByteArray.empty, .int .i64 0, .int .i64 0]) ∧ i.size = 7 ∧ i.bytes = 80 := info_at (by kernel_rfl)
set_option maxRecDepth 100000 in
set_option maxHeartbeats 16000000 in
theorem acl_first_law (v0 v1 v2 : Value) (w : World) (h0 : IsRules w v0) (h1 : IsRules w v1) (h2 : IsAddr w v2) :
    Calls Try.prog 3 #[v0, v1, v2] w fun e w' => e = .returned (.bool true) ∧ Below w.heap.size w w' := by
  obtain ⟨la, lc, rs, rfl, hr⟩ := h0
  obtain ⟨ma, mc, more, rfl, hm⟩ := h1
  obtain ⟨a, ax, ac, rfl, ha⟩ := h2
  unfold adA
  obtain ⟨i0, hi0, hz0, hz1, hz2⟩ := infoRu
  have hlle := hr.le
  have hmle := hm.le
  have hlc := hr.cap
  have hmc := hm.cap
  have hb1 := (Sat.refl w).alloc (.cells #[.int .i64 a.kind, .slice ax a.ip.length ac, .string a.name, .int .i64 a.port] 25 (0, 0))
  have hbx : ∀ W, Sat w W [Blk w.heap.size (.cells #[.int .i64 a.kind, .slice ax a.ip.length ac, .string a.name, .int .i64 a.port] 25 (0, 0))] → W.cell? ⟨w.heap.size, 0, none⟩ = some (.int .i64 a.kind) ∧ W.cell? ⟨w.heap.size, 1, none⟩ = some (.slice ax a.ip.length ac) ∧ W.cell? ⟨w.heap.size, 2, none⟩ = some (.string a.name) ∧ W.cell? ⟨w.heap.size, 3, none⟩ = some (.int .i64 a.port) := fun W h => boxA h
  go_enter Try.func3, Try.ntmps3
  go_wp2_with fail
  refine (acl_light la lc rs a ax ac (hr.mono hb1.below) (ha.mono hb1.below)).mono ?_
  rintro _ w1 ⟨b1, rfl, hl1, hw1⟩
  have s1 := hb1.under hw1
  obtain ⟨x0, x1, x2, x3⟩ := hbx _ s1
  clear hw1 hb1
  cases b1
  · go_wp2_with fail
    refine (acl_awake s1).mono ?_
    rintro _ wz ⟨rfl, hz⟩
    go_wp2_with fail
    go_ret
    exact ⟨rfl, hz.below⟩
  have hrl : rs.length ≤ 40 := hl1 rfl
  clear hl1
  go_wp2_with fail
  refine (acl_light ma mc more a ax ac (hm.mono s1.below) (ha.mono s1.below)).mono ?_
  rintro _ w2 ⟨b2, rfl, hl2, hw2⟩
  have s2 := s1.under hw2
  clear x0 x1 x2 x3
  obtain ⟨x0, x1, x2, x3⟩ := hbx _ s2
  clear hw2 s1
  cases b2
  · go_wp2_with fail
    refine (acl_awake s2).mono ?_
    rintro _ wz ⟨rfl, hz⟩
    go_wp2_with fail
    go_ret
    exact ⟨rfl, hz.below⟩
  have hml : more.length ≤ 40 := hl2 rfl
  clear hl2
  have hF := acl_First la lc rs a ax ac (hr.mono s2.below) (ha.mono s2.below)
  have hfc := first_cases rs a
  rcases hfc with ⟨f1, f2, f3⟩ | ⟨k, rk, hk, hrk, f1, f2, hhit, f3⟩
  · rw [f1] at hF
    have HN := hid_ f3
    have HA := hid_ f2
    clear f1 f2 f3
    go_wp2_with fail
    refine hF.mono ?_
    rintro _ w3 ⟨rfl, hw3⟩
    have s3 := s2.under hw3
    clear x0 x1 x2 x3 s2 hw3 hF
    have g0 : ¬ (rs.length : Int) ≤ -1 := by omega
    go_wp2_with fail
    go_loopw [35] (fun vi wr => ∃ i : Nat, i ≤ rs.length ∧ vi = .int .i64 i ∧ Sat w wr [Blk w.heap.size (.cells #[.int .i64 a.kind, .slice ax a.ip.length ac, .string a.name, .int .i64 a.port] 25 (0, 0))]) (fun vi _ => rs.length - (intOf vi).toNat)
    case atStart => exact ⟨0, by omega, rfl, s3⟩
    case round =>
      obtain ⟨i, hi, rfl, hb⟩ := hrel
      clear s3
      by_cases hlt : i < rs.length
      · have z1 : (i : Int) < (rs.length : Int) := by omega
        obtain ⟨b, off, x, c, hla, hbl, hc, hru⟩ := hr.at_ i rs[i] (List.getElem?_eq_getElem hlt)
        subst hla
        obtain ⟨r, hrr⟩ : ∃ r, rs[i] = r := ⟨_, rfl⟩
        have hri : rs[i]? = some r := by rw [List.getElem?_eq_getElem hlt, hrr]
        rw [hrr] at hc hru
        have hcw : ∀ j u, (ruC r (.slice x r.net.length c))[j]? = some u → wr.cell? ⟨b, off + i * 7 + j, none⟩ = some u := fun j u hj => (hb.below.cell (p := ⟨b, off + i * 7 + j, none⟩) hbl).trans (hc j u hj)
        have q0 : wr.cell? ⟨b, off + i * 7, none⟩ = some (.int .i64 r.kind) := hcw 0 _ rfl
        have q1 := hcw 1 _ rfl
        have q2 := hcw 2 _ rfl
        have q3 := hcw 3 _ rfl
        have q4 := hcw 4 _ rfl
        have q5 := hcw 5 _ rfl
        have q6 := hcw 6 _ rfl
        have s5 := hb.alloc_ (.cells #[.int .i64 r.kind, .bool r.allow, .slice x r.net.length c, .int .i64 r.bits, .string r.name, .int .i64 r.low, .int .i64 r.high] 30 (0, 0))
        obtain ⟨x0, x1, x2, x3⟩ := hbx _ s5
        have hbw := s5.below
        clear hc hcw hrr
        have hh := hid_ (none_hits HN.out i r hri)
        have g1 : ¬ (i : Int) < -1 := by omega
        have g2 : ((i : Int) == -1) = false := by rw [beq_eq_false_iff_ne]; omega
        go_wp2_with fail
        refine (acl_Match r a x ax c ac (hru.mono (by first | exact hbw | exact hbw)) (ha.mono hbw)).mono ?_
        rintro _ w5 ⟨rfl, h5⟩
        rw [hh.out]
        have s6 := s5.under h5
        go_wp2_with fail
        go_roundw
        case rel => first | exact ⟨i + 1, by omega, by go_num, s6⟩ | exact ⟨_, _, _, _, ⟨i + 1, by omega, by go_num⟩, rfl, rfl, rfl, rfl⟩
        case measure => simp [intOf]; omega
      · have z1 : ¬ (i : Int) < (rs.length : Int) := by omega
        clear hi hlt
        have h6 : Sat w _ (OwnS 30 7 (.slice (some ⟨wr.heap.size, 0, none⟩) 0 0) 0 [] :: _) := OwnS.ofBlk (hb.alloc (.cells #[] 30 (0, 0))) (Nat.le_refl _) (Nat.zero_le _) (by simp) (by simp)
        obtain ⟨css1, k1, k2, k3, k4⟩ := hr.src (hb.alloc_ (.cells #[] 30 (0, 0))).below
        go_wp2_with (at_builtin; refine wpList_append_sat (w0 := w) (e := 30) (sz := 7) (bytes := 80) rfl _ _ 22 22 rfl Try.underlying22 hi0 hz0 hz1 hz2 rfl rfl h6 rfl k4 ?c3 ?c4 ?c5)
        case c3 => simp only [maxLen]; omega
        case c4 => omega
        intro a1 c1 w6 h7 _
        obtain ⟨css2, k5, k6, k7, k8⟩ := hm.src h7.below
        go_wp2_with (at_builtin; refine wpList_append_sat (w0 := w) (e := 30) (sz := 7) (bytes := 80) rfl _ _ 22 22 rfl Try.underlying22 hi0 hz0 hz1 hz2 rfl rfl h7 rfl k8 ?d3 ?d4 ?d5)
        case d3 => simp only [maxLen]; omega
        case d4 => omega
        intro a2 c2 w7 h8 _
        clear h6 h7 k4 k8
        have hb78 : Below w.heap.size w w7 := h8.below
        have s8 : Sat w w7 [Blk w.heap.size (.cells #[.int .i64 a.kind, .slice ax a.ip.length ac, .string a.name, .int .i64 a.port] 25 (0, 0))] := h8.drop
        have hall : RdRus w7 a2 c2 (rs ++ more) := by
          have e1 : css1.flatten ++ css2.flatten = (css1 ++ css2).flatten := by simp
          rw [e1, ← List.length_append] at h8
          refine RdRus.own (v := undef) h8 (by simp [k1, k5]) (fun cs hcs => ?_) (fun i r cs hri hci => ?_)
          · rcases List.mem_append.1 hcs with h | h
            · exact k2 cs h
            · exact k6 cs h
          · by_cases hil : i < rs.length
            · rw [List.getElem?_append_left hil] at hri
              rw [List.getElem?_append_left (by omega)] at hci
              obtain ⟨x, c, e, hru⟩ := k3 i r cs hri hci
              exact ⟨x, c, e, hru.mono hb78⟩
            · rw [List.getElem?_append_right (by omega)] at hri
              rw [List.getElem?_append_right (by omega), k1] at hci
              obtain ⟨x, c, e, hru⟩ := k7 _ r cs hri hci
              exact ⟨x, c, e, hru.mono hb78⟩
        have hall2 : (rs ++ more).length = rs.length + more.length := List.length_append
        clear h8 k1 k2 k3 k5 k6 k7
        have hA1 : ∀ W, Below w7.heap.size w7 W → Calls Try.prog 12 #[.slice la rs.length lc, .agg #[.int .i64 a.kind, .slice ax a.ip.length ac, .string a.name, .int .i64 a.port]] W fun e W' => e = .returned (.bool false) ∧ Below W.heap.size W W' := by
          intro W hb
          have h := acl_Allows la lc rs a ax ac ((hr.mono hb78).mono hb) ((ha.mono hb78).mono hb)
          rw [HA.out] at h
          exact h
        obtain ⟨am, ham⟩ : ∃ am, allowsM more a = am := ⟨_, rfl⟩
        have hA2 : ∀ W, Below w7.heap.size w7 W → Calls Try.prog 12 #[.slice a2 (rs.length + more.length) c2, .agg #[.int .i64 a.kind, .slice ax a.ip.length ac, .string a.name, .int .i64 a.port]] W fun e W' => e = .returned (.bool am) ∧ Below W.heap.size W W' := by
          intro W hb
          have h := acl_Allows a2 c2 (rs ++ more) a ax ac (hall.mono hb) ((ha.mono hb78).mono hb)
          rw [allows_none HN.out, ham, hall2] at h
          exact h
        have hA3 : ∀ W, Below w7.heap.size w7 W → Calls Try.prog 12 #[.slice ma more.length mc, .agg #[.int .i64 a.kind, .slice ax a.ip.length ac, .string a.name, .int .i64 a.port]] W fun e W' => e = .returned (.bool am) ∧ Below W.heap.size W W' := by
          intro W hb
          have h := acl_Allows ma mc more a ax ac ((hm.mono hb78).mono hb) ((ha.mono hb78).mono hb)
          rw [ham] at h
          exact h
        have mk : ∀ W, Below w7.heap.size w7 W → (W.cell? ⟨w.heap.size, 0, none⟩ = some (.int .i64 a.kind) ∧ W.cell? ⟨w.heap.size, 1, none⟩ = some (.slice ax a.ip.length ac) ∧ W.cell? ⟨w.heap.size, 2, none⟩ = some (.string a.name) ∧ W.cell? ⟨w.heap.size, 3, none⟩ = some (.int .i64 a.port)) := fun W hb => hbx W (s8.under hb)
        have mkz := hbx
        have t0 : Below w7.heap.size w7 w7.drew := (Below.refl _ _).drew
        clear hall hall2 ham
        go_upto_region 14 with fail
        go_region_held3 (fun W => W.cell? ⟨w.heap.size, 0, none⟩ = some (.int .i64 a.kind) ∧ W.cell? ⟨w.heap.size, 1, none⟩ = some (.slice ax a.ip.length ac) ∧ W.cell? ⟨w.heap.size, 2, none⟩ = some (.string a.name) ∧ W.cell? ⟨w.heap.size, 3, none⟩ = some (.int .i64 a.port))
          (first | with_reducible exact mkz _ hz | with_reducible exact mk _ t4 | with_reducible exact mk _ t3 | with_reducible exact mk _ t2 | with_reducible exact mk _ t1 | with_reducible exact mk _ t0)
          (first | (go_at_call 12; with_reducible refine (hA1 _ ?_).mono ?_; (first | with_reducible exact t5 | with_reducible exact t4 | with_reducible exact t3 | with_reducible exact t2 | with_reducible exact t1 | with_reducible exact t0); rintro _ wn ⟨rfl, hn⟩; (first | have t4 := below_up t3 hn (Nat.le_refl _) | have t3 := below_up t2 hn (Nat.le_refl _) | have t2 := below_up t1 hn (Nat.le_refl _) | have t1 := below_up t0 hn (Nat.le_refl _))) | (go_at_call 12; with_reducible refine (hA2 _ ?_).mono ?_; (first | with_reducible exact t5 | with_reducible exact t4 | with_reducible exact t3 | with_reducible exact t2 | with_reducible exact t1 | with_reducible exact t0); rintro _ wn ⟨rfl, hn⟩; (first | have t4 := below_up t3 hn (Nat.le_refl _) | have t3 := below_up t2 hn (Nat.le_refl _) | have t2 := below_up t1 hn (Nat.le_refl _) | have t1 := below_up t0 hn (Nat.le_refl _))) | (go_at_call 12; with_reducible refine (hA3 _ ?_).mono ?_; (first | with_reducible exact t5 | with_reducible exact t4 | with_reducible exact t3 | with_reducible exact t2 | with_reducible exact t1 | with_reducible exact t0); rintro _ wn ⟨rfl, hn⟩; (first | have t4 := below_up t3 hn (Nat.le_refl _) | have t3 := below_up t2 hn (Nat.le_refl _) | have t2 := below_up t1 hn (Nat.le_refl _) | have t1 := below_up t0 hn (Nat.le_refl _))) | (go_at_call 9; refine (acl_awake (s8.under (by first | exact t3 | exact t2 | exact t1))).mono ?_; rintro _ wz ⟨rfl, hz⟩))
        all_goals
          go_wp2_with fail
          go_ret
          exact ⟨rfl, hz.below⟩
  · obtain ⟨lb, lo, xk, ck, rfl, hlb, hlc2, hruk⟩ := hr.at_ k rk hrk
    rw [f1] at hF
    have HK := hid_ f3
    have HA := hid_ f2
    have HH := hid_ hhit
    have HRK := hid_ hrk
    clear f1 f2 f3 hhit hrk
    go_wp2_with fail
    refine hF.mono ?_
    rintro _ w3 ⟨rfl, hw3⟩
    have s3 := s2.under hw3
    clear x0 x1 x2 x3 s2 hw3 hF
    have g0 : ¬ (rs.length : Int) ≤ (k : Int) := by omega
    have g00 : ¬ (k : Int) < -1 := by omega
    go_wp2_with fail
    go_loopw [35] (fun vi wr => ∃ i : Nat, i ≤ rs.length ∧ vi = .int .i64 i ∧ Sat w wr [Blk w.heap.size (.cells #[.int .i64 a.kind, .slice ax a.ip.length ac, .string a.name, .int .i64 a.port] 25 (0, 0))]) (fun vi _ => rs.length - (intOf vi).toNat)
    case atStart => exact ⟨0, by omega, rfl, s3⟩
    case round =>
      obtain ⟨i, hi, rfl, hb⟩ := hrel
      clear s3
      by_cases hlt : i < rs.length
      · have z1 : (i : Int) < (rs.length : Int) := by omega
        obtain ⟨b, off, x, c, hla, hbl, hc, hru⟩ := hr.at_ i rs[i] (List.getElem?_eq_getElem hlt)
        injection hla with hla
        injection hla with hl1 hl2
        subst hl1 hl2
        obtain ⟨r, hrr⟩ : ∃ r, rs[i] = r := ⟨_, rfl⟩
        have hri : rs[i]? = some r := by rw [List.getElem?_eq_getElem hlt, hrr]
        rw [hrr] at hc hru
        have hcw : ∀ j u, (ruC r (.slice x r.net.length c))[j]? = some u → wr.cell? ⟨lb, lo + i * 7 + j, none⟩ = some u := fun j u hj => (hb.below.cell (p := ⟨lb, lo + i * 7 + j, none⟩) hbl).trans (hc j u hj)
        have q0 : wr.cell? ⟨lb, lo + i * 7, none⟩ = some (.int .i64 r.kind) := hcw 0 _ rfl
        have q1 := hcw 1 _ rfl
        have q2 := hcw 2 _ rfl
        have q3 := hcw 3 _ rfl
        have q4 := hcw 4 _ rfl
        have q5 := hcw 5 _ rfl
        have q6 := hcw 6 _ rfl
        have s5 := hb.alloc_ (.cells #[.int .i64 r.kind, .bool r.allow, .slice x r.net.length c, .int .i64 r.bits, .string r.name, .int .i64 r.low, .int .i64 r.high] 30 (0, 0))
        obtain ⟨x0, x1, x2, x3⟩ := hbx _ s5
        have hbw := s5.below
        clear hc hcw hrr
        have g3 : ¬ (k : Int) < 0 := by omega
        rcases Nat.lt_trichotomy i k with hik | hik | hik
        · have hh := hid_ (before_hits HK.out i r hik hri)
          have g1 : (i : Int) < (k : Int) := by omega
          have g2 : ((i : Int) == (k : Int)) = false := by rw [beq_eq_false_iff_ne]; omega
          clear hik
          go_wp2_with fail
          refine (acl_Match r a x ax c ac (hru.mono hbw) (ha.mono hbw)).mono ?_
          rintro _ w5 ⟨rfl, h5⟩
          rw [hh.out]
          have s6 := s5.under h5
          go_wp2_with fail
          go_roundw
          case rel => first | exact ⟨i + 1, by omega, by go_num, s6⟩ | exact ⟨_, _, _, _, ⟨i + 1, by omega, by go_num⟩, rfl, rfl, rfl, rfl⟩
          case measure => simp [intOf]; omega
        · have hr1 : r = rk := by
            rw [hik, HRK.out] at hri
            injection hri with hri
            exact hri.symm
          have hh := hid_ (show r.hit a = true by rw [hr1]; exact HH.out)
          have g1 : ¬ (i : Int) < (k : Int) := by omega
          have g2 : ((i : Int) == (k : Int)) = true := by rw [hik]; exact beq_self_eq_true _
          clear hr1 hik
          go_wp2_with fail
          refine (acl_Match r a x ax c ac (hru.mono hbw) (ha.mono hbw)).mono ?_
          rintro _ w5 ⟨rfl, h5⟩
          rw [hh.out]
          have s6 := s5.under h5
          go_wp2_with fail
          go_roundw
          case rel => first | exact ⟨i + 1, by omega, by go_num, s6⟩ | exact ⟨_, _, _, _, ⟨i + 1, by omega, by go_num⟩, rfl, rfl, rfl, rfl⟩
          case measure => simp [intOf]; omega
        · have g1 : ¬ (i : Int) < (k : Int) := by omega
          have g2 : ((i : Int) == (k : Int)) = false := by rw [beq_eq_false_iff_ne]; omega
          clear hik
          go_wp2_with fail
          go_roundw
          case rel => first | exact ⟨i + 1, by omega, by go_num, s5⟩ | exact ⟨_, _, _, _, ⟨i + 1, by omega, by go_num⟩, rfl, rfl, rfl, rfl⟩
          case measure => simp [intOf]; omega
      · have z1 : ¬ (i : Int) < (rs.length : Int) := by omega
        clear hi hlt
        have h6 : Sat w _ (OwnS 30 7 (.slice (some ⟨wr.heap.size, 0, none⟩) 0 0) 0 [] :: _) := OwnS.ofBlk (hb.alloc (.cells #[] 30 (0, 0))) (Nat.le_refl _) (Nat.zero_le _) (by simp) (by simp)
        obtain ⟨css1, k1, k2, k3, k4⟩ := hr.src (hb.alloc_ (.cells #[] 30 (0, 0))).below
        go_wp2_with (at_builtin; refine wpList_append_sat (w0 := w) (e := 30) (sz := 7) (bytes := 80) rfl _ _ 22 22 rfl Try.underlying22 hi0 hz0 hz1 hz2 rfl rfl h6 rfl k4 ?e3 ?e4 ?e5)
        case e3 => simp only [maxLen]; omega
        case e4 => omega
        intro a1 c1 w6 h7 _
        obtain ⟨css2, k5, k6, k7, k8⟩ := hm.src h7.below
        go_wp2_with (at_builtin; refine wpList_append_sat (w0 := w) (e := 30) (sz := 7) (bytes := 80) rfl _ _ 22 22 rfl Try.underlying22 hi0 hz0 hz1 hz2 rfl rfl h7 rfl k8 ?f3 ?f4 ?f5)
        case f3 => simp only [maxLen]; omega
        case f4 => omega
        intro a2 c2 w7 h8 _
        clear h6 h7 k4 k8
        have hb78 : Below w.heap.size w w7 := h8.below
        have s8 : Sat w w7 [Blk w.heap.size (.cells #[.int .i64 a.kind, .slice ax a.ip.length ac, .string a.name, .int .i64 a.port] 25 (0, 0))] := h8.drop
        have hall : RdRus w7 a2 c2 (rs ++ more) := by
          have e1 : css1.flatten ++ css2.flatten = (css1 ++ css2).flatten := by simp
          rw [e1, ← List.length_append] at h8
          refine RdRus.own (v := undef) h8 (by simp [k1, k5]) (fun cs hcs => ?_) (fun i r cs hri hci => ?_)
          · rcases List.mem_append.1 hcs with h | h
            · exact k2 cs h
            · exact k6 cs h
          · by_cases hil : i < rs.length
            · rw [List.getElem?_append_left hil] at hri
              rw [List.getElem?_append_left (by omega)] at hci
              obtain ⟨x, c, e, hru⟩ := k3 i r cs hri hci
              exact ⟨x, c, e, hru.mono hb78⟩
            · rw [List.getElem?_append_right (by omega)] at hri
              rw [List.getElem?_append_right (by omega), k1] at hci
              obtain ⟨x, c, e, hru⟩ := k7 _ r cs hri hci
              exact ⟨x, c, e, hru.mono hb78⟩
        have hall2 : (rs ++ more).length = rs.length + more.length := List.length_append
        clear h8 k1 k2 k3 k5 k6 k7
        obtain ⟨al, hal⟩ : ∃ al, rk.allow = al := ⟨_, rfl⟩
        have hA1 : ∀ W, Below w7.heap.size w7 W → Calls Try.prog 12 #[.slice (some ⟨lb, lo, none⟩) rs.length lc, .agg #[.int .i64 a.kind, .slice ax a.ip.length ac, .string a.name, .int .i64 a.port]] W fun e W' => e = .returned (.bool al) ∧ Below W.heap.size W W' := by
          intro W hb
          have h := acl_Allows _ lc rs a ax ac ((hr.mono hb78).mono hb) ((ha.mono hb78).mono hb)
          rw [HA.out, hal] at h
          exact h
        have hA2 : ∀ W, Below w7.heap.size w7 W → Calls Try.prog 12 #[.slice a2 (rs.length + more.length) c2, .agg #[.int .i64 a.kind, .slice ax a.ip.length ac, .string a.name, .int .i64 a.port]] W fun e W' => e = .returned (.bool al) ∧ Below W.heap.size W W' := by
          intro W hb
          have h := acl_Allows a2 c2 (rs ++ more) a ax ac (hall.mono hb) ((ha.mono hb78).mono hb)
          rw [allows_some HRK.out HH.out, HA.out, hal, hall2] at h
          exact h
        have hA3 : ∀ W, Below w7.heap.size w7 W → Calls Try.prog 12 #[.slice (some ⟨lb, lo + k * 7, none⟩) (rs.length - k) (lc - k), .agg #[.int .i64 a.kind, .slice ax a.ip.length ac, .string a.name, .int .i64 a.port]] W fun e W' => e = .returned (.bool al) ∧ Below W.heap.size W W' := by
          intro W hb
          have h := acl_Allows _ (lc - k) (rs.drop k) a ax ac (((hr.mono hb78).mono hb).cut (by omega)) ((ha.mono hb78).mono hb)
          rw [allows_drop HRK.out HH.out, hal, List.length_drop] at h
          exact h
        have hMy : ∀ W, Calls Try.prog 13 #[.agg #[.int .i64 a.kind, .slice ax a.ip.length ac, .string a.name, .int .i64 a.port]] W fun e W' => e = .returned (.bool true) ∧ Below W.heap.size W W' := by
          intro W
          have h := ref_MayAddr (w := W) a ax ac ha.name ha.ip.len
          rw [hit_may HH.out] at h
          exact h
        have hsl : ∀ W : World, (Instr.slice 22 (.slice (some ⟨lb, lo, none⟩) rs.length lc) (some (.int .i64 (k : Int))) none none).run Try.prog W = .ok (.slice (some ⟨lb, lo + k * 7, none⟩) (rs.length - k) (lc - k)) W := by
          intro W
          have e : Try.prog.elem 22 = 30 := rfl
          have hs : (sizeOf 30).run Try.prog W = .ok 7 W := by kernel_rfl
          rw [run_slice_l (P := Try.prog) (w := W) (t := 22) (ht := Try.underlying22) (h0 := by omega) (h1 := by omega), e, hs]
          simp only [Result.andThen_ok]
          unfold sliced
          rw [Int.toNat_natCast, if_neg (by omega), Option.map_some, addr_add]
        have qk : w7.cell? ⟨lb, lo + k * 7 + 1, none⟩ = some (.bool al) := by
          rw [hb78.cell (p := ⟨lb, lo + k * 7 + 1, none⟩) hlb, ← hal]
          exact hlc2 1 _ rfl
        have mk : ∀ W, Below w7.heap.size w7 W → (W.cell? ⟨w.heap.size, 0, none⟩ = some (.int .i64 a.kind) ∧ W.cell? ⟨w.heap.size, 1, none⟩ = some (.slice ax a.ip.length ac) ∧ W.cell? ⟨w.heap.size, 2, none⟩ = some (.string a.name) ∧ W.cell? ⟨w.heap.size, 3, none⟩ = some (.int .i64 a.port) ∧ W.cell? ⟨lb, lo + k * 7 + 1, none⟩ = some (.bool al)) := fun W hb => by
          obtain ⟨y0, y1, y2, y3⟩ := hbx W (s8.under hb)
          exact ⟨y0, y1, y2, y3, cell_later hb qk⟩
        have mkz : ∀ W, Sat w W [Blk w.heap.size (.cells #[.int .i64 a.kind, .slice ax a.ip.length ac, .string a.name, .int .i64 a.port] 25 (0, 0))] → (W.cell? ⟨w.heap.size, 0, none⟩ = some (.int .i64 a.kind) ∧ W.cell? ⟨w.heap.size, 1, none⟩ = some (.slice ax a.ip.length ac) ∧ W.cell? ⟨w.heap.size, 2, none⟩ = some (.string a.name) ∧ W.cell? ⟨w.heap.size, 3, none⟩ = some (.int .i64 a.port) ∧ W.cell? ⟨lb, lo + k * 7 + 1, none⟩ = some (.bool al)) := fun W h => by
          obtain ⟨y0, y1, y2, y3⟩ := hbx W h
          refine ⟨y0, y1, y2, y3, ?_⟩
          rw [h.below.cell (p := ⟨lb, lo + k * 7 + 1, none⟩) hlb, ← hal]
          exact hlc2 1 _ rfl
        have t0 : Below w7.heap.size w7 w7.drew := (Below.refl _ _).drew
        have g5 : ¬ (k : Int) < 0 := by omega
        have g6 : (0 : Int) ≤ (k : Int) ∧ (k : Int) < (rs.length : Int) := by omega
        clear hall hall2 hal
        go_upto_region 15 with fail
        go_region_held3 (fun W => W.cell? ⟨w.heap.size, 0, none⟩ = some (.int .i64 a.kind) ∧ W.cell? ⟨w.heap.size, 1, none⟩ = some (.slice ax a.ip.length ac) ∧ W.cell? ⟨w.heap.size, 2, none⟩ = some (.string a.name) ∧ W.cell? ⟨w.heap.size, 3, none⟩ = some (.int .i64 a.port) ∧ W.cell? ⟨lb, lo + k * 7 + 1, none⟩ = some (.bool al))
          (first | with_reducible exact mkz _ hz | with_reducible exact mk _ t5 | with_reducible exact mk _ t4 | with_reducible exact mk _ t3 | with_reducible exact mk _ t2 | with_reducible exact mk _ t1 | with_reducible exact mk _ t0)
          (first | (go_at_call 12; with_reducible refine (hA1 _ ?_).mono ?_; (first | with_reducible exact t5 | with_reducible exact t4 | with_reducible exact t3 | with_reducible exact t2 | with_reducible exact t1 | with_reducible exact t0); rintro _ wn ⟨rfl, hn⟩; (first | have t4 := below_up t3 hn (Nat.le_refl _) | have t3 := below_up t2 hn (Nat.le_refl _) | have t2 := below_up t1 hn (Nat.le_refl _) | have t1 := below_up t0 hn (Nat.le_refl _))) | (go_at_call 12; with_reducible refine (hA2 _ ?_).mono ?_; (first | with_reducible exact t5 | with_reducible exact t4 | with_reducible exact t3 | with_reducible exact t2 | with_reducible exact t1 | with_reducible exact t0); rintro _ wn ⟨rfl, hn⟩; (first | have t4 := below_up t3 hn (Nat.le_refl _) | have t3 := below_up t2 hn (Nat.le_refl _) | have t2 := below_up t1 hn (Nat.le_refl _) | have t1 := below_up t0 hn (Nat.le_refl _))) | (go_at_call 12; with_reducible refine (hA3 _ ?_).mono ?_; (first | with_reducible exact t5 | with_reducible exact t4 | with_reducible exact t3 | with_reducible exact t2 | with_reducible exact t1 | with_reducible exact t0); rintro _ wn ⟨rfl, hn⟩; (first | have t4 := below_up t3 hn (Nat.le_refl _) | have t3 := below_up t2 hn (Nat.le_refl _) | have t2 := below_up t1 hn (Nat.le_refl _) | have t1 := below_up t0 hn (Nat.le_refl _))) | (go_at_call 13; refine (hMy _).mono ?_; rintro _ wn ⟨rfl, hn⟩; (first | have t5 := below_up t4 hn (Nat.le_refl _) | have t4 := below_up t3 hn (Nat.le_refl _))) | (go_at_call 9; refine (acl_awake (s8.under (by first | exact t5 | exact t4 | exact t3 | exact t2 | exact t1))).mono ?_; rintro _ wz ⟨rfl, hz⟩))
        all_goals
          go_wp2_with fail
          go_ret
          exact ⟨rfl, hz.below⟩
end Go.Proofs.Ytmnjaaeljpleeaa
