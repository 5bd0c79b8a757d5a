/- The law AclNets, its walk under way. -/
import Derived.Deep.DeepCutAuto
import Derived.Test.YtmnjaaeljpleeaaAclY
namespace Go.Proofs.Ytmnjaaeljpleeaa
open Go Go.RowKit
set_option linter.unusedVariables false
set_option linter.unusedSimpArgs false

section
variable {w0 w : World} {L : List Assn}
theorem netN_len {X : List UInt8} {n k : Nat} (h : X.length = n) : (netN n X k).net.length = n := (netL_len _ _ _).trans h
theorem match_n {X Y : List UInt8} {n k : Nat} {kd m : Int} {s : Bool} {a y : Option Addr} {c d : Nat} (hX : X.length = n) (hY : Y.length = n) (ht : Hid ((netN n X k).hit (toN kd Y m) = s)) (hr : RdB w (.slice a n c) (netN n X k).net) (ha : RdB w (.slice y n d) Y) :
    Calls Try.prog 11 #[.agg #[.int .i64 1, .bool false, .slice a n c, .int .i64 k, .string ByteArray.empty, .int .i64 0, .int .i64 65535], .agg #[.int .i64 kd, .slice y n d, .string ByteArray.empty, .int .i64 m]] w fun e w' => e = .returned (.bool s) ∧ Below w.heap.size w w' := by
  rw [← ht.out]
  have h := acl_Match (netN n X k) (toN kd Y m) a y c d ⟨by rw [netN_len hX]; exact hr, Nat.zero_le _⟩ ⟨by rw [show (toN kd Y m).ip.length = n from hY]; exact ha, Nat.zero_le _⟩
  rw [netN_len hX, show (toN kd Y m).ip.length = n from hY] at h
  exact h
theorem may_n {X : List UInt8} {n k : Nat} {a : Option Addr} {c : Nat} (hX : X.length = n) (ht : Hid ((netN n X k).may = true)) (hr : RdB w (.slice a n c) (netN n X k).net) :
    Calls Try.prog 14 #[.agg #[.int .i64 1, .bool false, .slice a n c, .int .i64 k, .string ByteArray.empty, .int .i64 0, .int .i64 65535]] w fun e w' => e = .returned (.bool true) ∧ Below w.heap.size w w' := by
  rw [← ht.out]
  have h := acl_May (netN n X k) a c (by rw [netN_len hX]; exact hr) (Nat.zero_le _)
  rw [netN_len hX] at h
  exact h
set_option maxRecDepth 100000 in
set_option maxHeartbeats 4000000 in
theorem acl_nets_law (v u t r z : Value) (w : World) (hv : IsBytes w v) (hu : IsInt w u) (ht : IsInt w t) (hr : IsInt w r) (hz : IsBool w z) :
    Calls Try.prog 4 #[v, u, t, r, z] w fun e w' => e = .returned (.bool true) ∧ Below w.heap.size w w' := by
  obtain ⟨p, hp⟩ := hv
  obtain ⟨n0, rfl, _⟩ := hu
  obtain ⟨n1, rfl, _⟩ := ht
  obtain ⟨n2, rfl, _⟩ := hr
  obtain ⟨six, rfl⟩ := hz
  have hs := Sat.refl w
  obtain ⟨i0, hi0, hz0, hz1, hz2⟩ := infoB8
  have b2 := um_bd n2 (m := 65536) (by omega) (by omega)
  obtain ⟨m, hm⟩ : ∃ m, wrap64 ((IntKind.u64.wrap n2).tmod 65536) = m := ⟨_, rfl⟩
  rw [hm] at b2
  cases six
  · have hmk : ∀ w : World, (Instr.makeSlice 23 (.int .i64 4) (.int .i64 4)).run Try.prog w = .ok (.slice (some ⟨w.heap.size, 0, none⟩) 4 4) (w.alloc (.cells (bytesC (zerosB 4)).toArray 5 (0, 0))) := mk_u8 4 (by omega)
    have b0 := um_bd n0 (m := 33) (by omega) (by omega)
    have b1 := um_bd n1 (m := 32) (by omega) (by omega)
    obtain ⟨kb, hkb⟩ := Int.eq_ofNat_of_zero_le b0.1
    obtain ⟨tb, htb⟩ := Int.eq_ofNat_of_zero_le b1.1
    rw [hkb] at b0
    rw [htb] at b1
    go_enter Try.func4, Try.ntmps4
    have h1 := OwnB.mk (by omega) (Sat.swap (hs.alloc2 (.cells (bytesC (zerosB 4)).toArray 5 (0, 0)) (.cells #[.int .i64 1, .slice (some ⟨w.heap.size, 0, none⟩) 4 4, .string ByteArray.empty, .int .i64 m] 25 (0, 0))))
    go_wp2_with (refine wpList_copy_bytes (w0 := w) (p := zerosB 4) rfl _ _ rfl (zerosB_length 4) rfl rfl h1 (hp.later h1) ?_)
    intro w4 h4
    replace h4 : Sat w w4 [OwnB 5 (.slice (some ⟨w.heap.size, 0, none⟩) 4 4) (manyB 4 p), Blk (w.heap.size + 1) (.cells #[.int .i64 1, .slice (some ⟨w.heap.size, 0, none⟩) 4 4, .string ByteArray.empty, .int .i64 m] 25 (0, 0))] := h4
    go_wp2_with fail
    go_quiet (fail)
    replace h4 := Sat.drewN h4 nq
    generalize w4.drewN nq = w5 at *
    obtain ⟨X, hX⟩ : ∃ X, manyB 4 p = X := ⟨_, rfl⟩
    have hXl : X.length = 4 := by rw [← hX]; exact many_len 4 p
    have HXl := hid_ hXl
    rw [hX] at h4
    generalize w.heap.size = xb at *
    have c1 : w5.cell? ⟨xb + 1, 1, none⟩ = some (.slice (some ⟨xb, 0, none⟩) 4 4) := (Sat.swap h4).cell 1 rfl
    have hlt : xb + 1 < w5.heap.size := (Sat.swap h4).lt
    have hne : ¬ xb + 1 = w5.heap.size := by omega
    have h5 := h4.alloc (.cells #[] 5 (0, 0))
    have h6 : Sat w _ (OwnS 5 1 (.slice (some ⟨w5.heap.size, 0, none⟩) 0 0) 0 [] :: _) := OwnS.ofBlk h5 (Nat.le_refl _) (Nat.zero_le _) (by simp) (by simp)
    have hr6 := OwnB.rd h5.drop
    clear hX
    go_wp2_with (at_builtin; refine wpList_append_sat (w0 := w) (e := 5) (sz := 1) rfl _ _ 23 23 rfl Try.underlying23 hi0 hz0 hz1 hz2 rfl rfl h6 rfl (RdB.src (l := X) Try.underlying23 hr6) ?c3 ?c4 ?c5)
    case c3 => simp only [maxLen]; omega
    case c4 => omega
    intro a' c' w7 h7 _
    replace h7 : Sat w w7 [OwnB 5 (.slice a' 4 c') X, OwnB 5 (.slice (some ⟨xb, 0, none⟩) 4 4) X, Blk (xb + 1) (.cells #[.int .i64 1, .slice (some ⟨xb, 0, none⟩) 4 4, .string ByteArray.empty, .int .i64 m] 25 (0, 0))] := by
      unfold OwnB at h7 ⊢
      rw [HXl.out] at h7 ⊢
      exact h7
    have h8 := h7.alloc (.cells #[.int .i64 1, .bool false, .slice a' 4 c', .int .i64 kb, .string ByteArray.empty, .int .i64 0, .int .i64 65535] 30 (0, 0))
    obtain ⟨qb, hqb⟩ : ∃ qb, w7.heap.size = qb := ⟨_, rfl⟩
    rw [hqb] at h8
    clear h6 h5 h4 hr6 c1 hlt hne
    go_wp2_with fail
    go_loopg [14] 33 (fun gg v14 wr => ∃ i : Nat, kb ≤ i ∧ i ≤ 32 ∧ 32 - i ≤ gg ∧ v14 = .int .i64 i ∧
      Sat w wr [OwnB 5 (.slice a' 4 c') (netL X kb (i - kb)), Blk qb (.cells #[.int .i64 1, .bool false, .slice a' 4 c', .int .i64 kb, .string ByteArray.empty, .int .i64 0, .int .i64 65535] 30 (0, 0)), OwnB 5 (.slice (some ⟨xb, 0, none⟩) 4 4) X, Blk (xb + 1) (.cells #[.int .i64 1, .slice (some ⟨xb, 0, none⟩) 4 4, .string ByteArray.empty, .int .i64 m] 25 (0, 0))])
    case atStart => exact ⟨kb, by omega, by omega, by omega, rfl, by rw [Nat.sub_self]; exact h8.swap⟩
    case round =>
      obtain ⟨i, hi1, hi2, hgg, rfl, h5⟩ := hrel
      clear h8 h7 hXl
      have g2 : wr.cell? ⟨qb, 2, none⟩ = some (.slice a' 4 c') := (Sat.front [_] h5).cell 2 rfl
      by_cases hlt : i < 32
      · obtain ⟨N, hN⟩ : ∃ N, netL X kb (i - kb) = N := ⟨_, rfl⟩
        have HN := hid_ hN
        have hNl : N.length = 4 := by rw [← hN, netL_len]; exact HXl.out
        rw [hN] at h5
        clear hN
        obtain ⟨k, hk⟩ : ∃ k, i / 8 = k := ⟨_, rfl⟩
        obtain ⟨s, hs8⟩ : ∃ s, i % 8 = s := ⟨_, rfl⟩
        obtain ⟨b, o, cc, he, hge, hlt2, hcc, hff⟩ := OwnS.cells h5 (by omega)
        injection he with e1 e2 e3
        subst e1
        clear e2 e3
        have cx : wr.cell? ⟨b, o + k, none⟩ = some (.int .u8 (N.getD k 0).toNat) := hcc k _ (bytesC_get (by omega))
        have fx := hff (o + k)
        obtain ⟨x, hx⟩ : ∃ x, (N.getD k 0) = x := ⟨_, rfl⟩
        rw [hx] at cx
        obtain ⟨y, hy⟩ : ∃ y : Nat, x.toNat = y := ⟨_, rfl⟩
        rw [hy] at cx
        have d1 : Int.tdiv (i : Int) 8 = (k : Int) := by rw [Int.tdiv_eq_ediv_of_nonneg (by omega)]; omega
        have d2 : Int.tmod (i : Int) 8 = (s : Int) := by rw [Int.tmod_eq_emod_of_nonneg (by omega)]; omega
        have hk4 : (0 : Int) ≤ (k : Int) ∧ (k : Int) < 4 := by omega
        have hs7 : s ≤ 7 := by omega
        have hlti : (i : Int) < 32 := by omega
        have hz := andNot_clr hy hs7
        have h5' := h5
        unfold OwnB at h5'
        rw [hNl] at h5'
        have hput := OwnS.put (o := k) h5' (vs := [.int .u8 ((clrU x s).toNat : Int)]) (by show k + 1 ≤ 4 * 1; omega)
        have hset := bytesC_set N k (clrU x s) (by omega)
        rw [show k + [(Value.int .u8 ((clrU x s).toNat : Int))].length = k + 1 from rfl, hset] at hput
        have hnext : netL X kb (i + 1 - kb) = N.set k (clrU x s) := by
          rw [show i + 1 - kb = (i - kb) + 1 by omega, netL_succ, show kb + (i - kb) = i by omega, HN.out]
          unfold clrL
          rw [hk, hs8, hx]
        have HX := hid_ hnext
        obtain ⟨z, hzz⟩ : ∃ z : Nat, (clrU x s).toNat = z := ⟨_, rfl⟩
        rw [hzz] at hz hput
        clear hcc hff hk hs8 hx hy hset hnext hzz HN h5'
        go_wp2_with fail
        go_roundg (32 - (i + 1))
        case measure => omega
        case rel =>
          refine ⟨i + 1, by omega, by omega, by omega, by go_num, ?_⟩
          rw [HX.out]
          unfold OwnB
          rw [List.length_set, hNl]
          exact hput
      · obtain rfl : i = 32 := by omega
        have M1 := hid_ (netN_may (n := 4) (k := kb) (by omega) HXl.out (by omega))
        have T1 := hid_ (nets_self (n := 4) (k := kb) (kd := 1) (.inl ⟨rfl, rfl⟩) HXl.out (by omega) b2.1 (by omega))
        have T2 := hid_ (nets_turned (n := 4) (k := kb) (t := tb) (kd := 1) (.inl ⟨rfl, rfl⟩) HXl.out (by omega) (by omega) b2.1 (by omega))
        have HYl := hid_ ((trnL_len X tb).trans HXl.out)
        have hB := Sat.front [_, _, _] h5
        obtain ⟨z0, z1, z2, z3⟩ : wr.cell? ⟨xb + 1, 0, none⟩ = some (.int .i64 1) ∧ wr.cell? ⟨xb + 1, 1, none⟩ = some (.slice (some ⟨xb, 0, none⟩) 4 4) ∧ wr.cell? ⟨xb + 1, 2, none⟩ = some (.string ByteArray.empty) ∧ wr.cell? ⟨xb + 1, 3, none⟩ = some (.int .i64 m) := boxA (a := toN 1 X m) hB
        have hlt3 : xb + 1 < wr.heap.size := hB.lt
        have hne3 : ¬ wr.heap.size = xb + 1 := by omega
        have hne4 : ¬ xb + 1 = wr.heap.size := by omega
        have h6 := h5.alloc2 (.cells #[.int .i64 1, .slice (some ⟨xb, 0, none⟩) 4 4, .string ByteArray.empty, .int .i64 m] 25 (0, 0)) (.cells #[] 5 (0, 0))
        have z5 := (Sat.front [_, _, _, _, _] h6).cell 1 (v := .slice (some ⟨xb, 0, none⟩) 4 4) rfl
        have h7 : Sat w _ (OwnS 5 1 (.slice (some ⟨wr.heap.size + 1, 0, none⟩) 0 0) 0 [] :: _) := OwnS.ofBlk h6 (Nat.le_refl _) (Nat.zero_le _) (by simp) (by simp)
        have hr7 := OwnB.rd (Sat.front [_, _, _, _] h6)
        go_wp2_with (at_builtin; refine wpList_append_sat (w0 := w) (e := 5) (sz := 1) rfl _ _ 23 23 rfl Try.underlying23 hi0 hz0 hz1 hz2 rfl rfl h7 rfl (RdB.src (l := X) Try.underlying23 hr7) ?d3 ?d4 ?d5)
        case d3 => simp only [maxLen, HXl.out]; omega
        case d4 => rw [HXl.out]; omega
        intro a2 c2 w9 h9 _
        rw [HXl.out] at h9 ⊢
        clear h5 h6 h7 z0 z1 z2 z3 z5 hB hr7 hlt3 hne3 hne4
        generalize wr.heap.size = q2 at *
        have f1 : w9.frozen? ⟨q2, 1, none⟩ = false := (Sat.front [_] h9).frozen 1
        have g1 : w9.cell? ⟨q2, 1, none⟩ = some (.slice (some ⟨xb, 0, none⟩) 4 4) := (Sat.front [_] h9).cell 1 rfl
        have h10 := (Sat.front [_] h9).set 1 (.slice a2 4 c2)
        simp only [List.setIfInBounds_toArray, List.set_cons_zero, List.set_cons_succ] at h10
        go_upto_region 16 with fail
        generalize w9.setCell ⟨q2, 1, none⟩ (.slice a2 4 c2) = w10 at *
        have g2 : w10.cell? ⟨q2, 1, none⟩ = some (.slice a2 4 c2) := h10.cell 1 rfl
        clear f1 g1 h9
        obtain ⟨k, hk⟩ : ∃ k, tb / 8 = k := ⟨_, rfl⟩
        obtain ⟨s, hs8⟩ : ∃ s, tb % 8 = s := ⟨_, rfl⟩
        obtain ⟨b, o, cc, he, hge, hlt2, hcc, hff⟩ := OwnS.cells h10.swap (by omega)
        injection he with e1 e2 e3
        subst e1
        clear e2 e3
        have cx : w10.cell? ⟨b, o + k, none⟩ = some (.int .u8 (X.getD k 0).toNat) := hcc k _ (bytesC_get (by rw [HXl.out]; omega))
        have fx := hff (o + k)
        obtain ⟨x, hx⟩ : ∃ x, (X.getD k 0) = x := ⟨_, rfl⟩
        rw [hx] at cx
        obtain ⟨y, hy⟩ : ∃ y : Nat, x.toNat = y := ⟨_, rfl⟩
        rw [hy] at cx
        have d1 : Int.tdiv (tb : Int) 8 = (k : Int) := by rw [Int.tdiv_eq_ediv_of_nonneg (by omega)]; omega
        have d2 : Int.tmod (tb : Int) 8 = (s : Int) := by rw [Int.tmod_eq_emod_of_nonneg (by omega)]; omega
        have hk4 : (0 : Int) ≤ (k : Int) ∧ (k : Int) < 4 := by omega
        have hs7 : s ≤ 7 := by omega
        have hz := xor_trn hy hs7
        have hput := OwnS.put (o := k) h10.swap (vs := [.int .u8 ((trnU x s).toNat : Int)]) (by show k + 1 ≤ 4 * 1; omega)
        have hset := bytesC_set X k (trnU x s) (by rw [HXl.out]; omega)
        rw [show k + [(Value.int .u8 ((trnU x s).toNat : Int))].length = k + 1 from rfl, hset] at hput
        have hnext := hid_ (show trnL X tb = X.set k (trnU x s) by unfold trnL; rw [hk, hs8, hx])
        obtain ⟨z, hzz⟩ : ∃ z : Nat, (trnU x s).toNat = z := ⟨_, rfl⟩
        rw [hzz] at hz hput
        clear hcc hff hk hs8 hx hy hset hzz h10
        go_upto_region 17 with fail
        replace hput : Sat w (w10.setCell ⟨b, o + k, none⟩ (.int .u8 z)) [OwnB 5 (.slice (some ⟨b, o, none⟩) 4 c2) (trnL X tb), Blk q2 (.cells #[.int .i64 1, .slice (some ⟨b, o, none⟩) 4 c2, .string ByteArray.empty, .int .i64 m] 25 (0, 0)), OwnB 5 (.slice a' 4 c') (netL X kb (32 - kb)), Blk qb (.cells #[.int .i64 1, .bool false, .slice a' 4 c', .int .i64 kb, .string ByteArray.empty, .int .i64 0, .int .i64 65535] 30 (0, 0)), OwnB 5 (.slice (some ⟨xb, 0, none⟩) 4 4) X, Blk (xb + 1) (.cells #[.int .i64 1, .slice (some ⟨xb, 0, none⟩) 4 4, .string ByteArray.empty, .int .i64 m] 25 (0, 0))] := by
          have hh : OwnB 5 (.slice (some ⟨b, o, none⟩) 4 c2) (trnL X tb) = OwnS 5 1 (.slice (some ⟨b, o, none⟩) 4 c2) 4 (bytesC (X.set k (trnU x s))) := by
            unfold OwnB
            rw [hnext.out, List.length_set, HXl.out]
          rw [hh]
          exact hput
        generalize w10.setCell ⟨b, o + k, none⟩ (.int .u8 z) = w11 at *
        clear g2 fx cx hnext hz d1 d2 hk4 hge hlt2
        have facts : ∀ W, Sat w W [OwnB 5 (.slice (some ⟨b, o, none⟩) 4 c2) (trnL X tb), Blk q2 (.cells #[.int .i64 1, .slice (some ⟨b, o, none⟩) 4 c2, .string ByteArray.empty, .int .i64 m] 25 (0, 0)), OwnB 5 (.slice a' 4 c') (netL X kb (32 - kb)), Blk qb (.cells #[.int .i64 1, .bool false, .slice a' 4 c', .int .i64 kb, .string ByteArray.empty, .int .i64 0, .int .i64 65535] 30 (0, 0)), OwnB 5 (.slice (some ⟨xb, 0, none⟩) 4 4) X, Blk (xb + 1) (.cells #[.int .i64 1, .slice (some ⟨xb, 0, none⟩) 4 4, .string ByteArray.empty, .int .i64 m] 25 (0, 0))] →
            (W.cell? ⟨qb, 0, none⟩ = some (.int .i64 1) ∧ W.cell? ⟨qb, 1, none⟩ = some (.bool false) ∧ W.cell? ⟨qb, 2, none⟩ = some (.slice a' 4 c') ∧ W.cell? ⟨qb, 3, none⟩ = some (.int .i64 kb) ∧ W.cell? ⟨qb, 4, none⟩ = some (.string ByteArray.empty) ∧ W.cell? ⟨qb, 5, none⟩ = some (.int .i64 0) ∧ W.cell? ⟨qb, 6, none⟩ = some (.int .i64 65535)) ∧
            (W.cell? ⟨q2, 0, none⟩ = some (.int .i64 1) ∧ W.cell? ⟨q2, 1, none⟩ = some (.slice (some ⟨b, o, none⟩) 4 c2) ∧ W.cell? ⟨q2, 2, none⟩ = some (.string ByteArray.empty) ∧ W.cell? ⟨q2, 3, none⟩ = some (.int .i64 m)) ∧
            (W.cell? ⟨xb + 1, 0, none⟩ = some (.int .i64 1) ∧ W.cell? ⟨xb + 1, 1, none⟩ = some (.slice (some ⟨xb, 0, none⟩) 4 4) ∧ W.cell? ⟨xb + 1, 2, none⟩ = some (.string ByteArray.empty) ∧ W.cell? ⟨xb + 1, 3, none⟩ = some (.int .i64 m)) ∧
            RdB W (.slice (some ⟨b, o, none⟩) 4 c2) (trnL X tb) ∧ RdB W (.slice a' 4 c') (netL X kb (32 - kb)) ∧ RdB W (.slice (some ⟨xb, 0, none⟩) 4 4) X := fun W h =>
          ⟨boxR (Sat.front [_, _, _] h), boxA (a := toN 1 (trnL X tb) m) (Sat.front [_] h), boxA (a := toN 1 X m) (Sat.front [_, _, _, _, _] h), OwnB.rd h, OwnB.rd (Sat.front [_, _] h), OwnB.rd (Sat.front [_, _, _, _] h)⟩
        obtain ⟨⟨x0, x1, x2, x3, x4, x5, x6⟩, ⟨y0, y1, y2, y3⟩, ⟨z0, z1, z2, z3⟩, rB, rA, rY⟩ := facts _ hput
        go_wp2_with fail
        refine (may_n HXl.out M1 rA).mono ?_
        rintro _ w12 ⟨rfl, hb12⟩
        have h12 := hput.under hb12
        clear x0 x1 x2 x3 x4 x5 x6 y0 y1 y2 y3 z0 z1 z2 z3
        obtain ⟨⟨x0, x1, x2, x3, x4, x5, x6⟩, ⟨y0, y1, y2, y3⟩, ⟨z0, z1, z2, z3⟩, rB, rA, rY⟩ := facts _ h12
        go_wp2_with fail
        refine (match_n HXl.out HXl.out T1 rA rY).mono ?_
        rintro _ w13 ⟨rfl, hb13⟩
        have h13 := h12.under hb13
        clear x0 x1 x2 x3 x4 x5 x6 y0 y1 y2 y3 z0 z1 z2 z3
        obtain ⟨⟨x0, x1, x2, x3, x4, x5, x6⟩, ⟨y0, y1, y2, y3⟩, ⟨z0, z1, z2, z3⟩, rB, rA, rY⟩ := facts _ h13
        by_cases hkt : kb ≤ tb
        · have zk : (kb : Int) ≤ (tb : Int) := by omega
          rw [decide_eq_true hkt] at T2
          clear hkt
          go_wp2_with fail
          refine (match_n HXl.out HYl.out T2 rA rB).mono ?_
          rintro _ w14 ⟨rfl, hb14⟩
          have h14 := h13.under hb14
          clear x0 x1 x2 x3 x4 x5 x6 y0 y1 y2 y3 z0 z1 z2 z3
          go_wp2_with fail
          refine (acl_awake h14).mono ?_
          rintro _ w15 ⟨rfl, h15⟩
          go_wp2_with fail
          go_ret
          exact ⟨rfl, h15.below⟩
        · have zk : ¬ (kb : Int) ≤ (tb : Int) := by omega
          rw [decide_eq_false hkt] at T2
          have HKT := hid_ hkt
          clear hkt
          go_wp2_with fail
          refine (match_n HXl.out HYl.out T2 rA rB).mono ?_
          rintro _ w14 ⟨rfl, hb14⟩
          have h14 := h13.under hb14
          clear x0 x1 x2 x3 x4 x5 x6 y0 y1 y2 y3 z0 z1 z2 z3
          go_wp2_with fail
          refine (acl_awake h14).mono ?_
          rintro _ w15 ⟨rfl, h15⟩
          go_wp2_with fail
          go_ret
          exact ⟨by show Ending.returned (.bool (!decide (kb ≤ tb))) = _; rw [decide_eq_false HKT.out]; rfl, h15.below⟩
  · have hmk : ∀ w : World, (Instr.makeSlice 23 (.int .i64 16) (.int .i64 16)).run Try.prog w = .ok (.slice (some ⟨w.heap.size, 0, none⟩) 16 16) (w.alloc (.cells (bytesC (zerosB 16)).toArray 5 (0, 0))) := mk_u8 16 (by omega)
    have b0 := um_bd n0 (m := 129) (by omega) (by omega)
    have b1 := um_bd n1 (m := 128) (by omega) (by omega)
    obtain ⟨kb, hkb⟩ := Int.eq_ofNat_of_zero_le b0.1
    obtain ⟨tb, htb⟩ := Int.eq_ofNat_of_zero_le b1.1
    rw [hkb] at b0
    rw [htb] at b1
    go_enter Try.func4, Try.ntmps4
    have h1 := OwnB.mk (by omega) (Sat.swap (hs.alloc2 (.cells (bytesC (zerosB 16)).toArray 5 (0, 0)) (.cells #[.int .i64 4, .slice (some ⟨w.heap.size, 0, none⟩) 16 16, .string ByteArray.empty, .int .i64 m] 25 (0, 0))))
    go_wp2_with (refine wpList_copy_bytes (w0 := w) (p := zerosB 16) rfl _ _ rfl (zerosB_length 16) rfl rfl h1 (hp.later h1) ?_)
    intro w4 h4
    replace h4 : Sat w w4 [OwnB 5 (.slice (some ⟨w.heap.size, 0, none⟩) 16 16) (manyB 16 p), Blk (w.heap.size + 1) (.cells #[.int .i64 4, .slice (some ⟨w.heap.size, 0, none⟩) 16 16, .string ByteArray.empty, .int .i64 m] 25 (0, 0))] := h4
    go_wp2_with fail
    go_quiet (fail)
    replace h4 := Sat.drewN h4 nq
    generalize w4.drewN nq = w5 at *
    obtain ⟨X, hX⟩ : ∃ X, manyB 16 p = X := ⟨_, rfl⟩
    have hXl : X.length = 16 := by rw [← hX]; exact many_len 16 p
    have HXl := hid_ hXl
    rw [hX] at h4
    generalize w.heap.size = xb at *
    have c1 : w5.cell? ⟨xb + 1, 1, none⟩ = some (.slice (some ⟨xb, 0, none⟩) 16 16) := (Sat.swap h4).cell 1 rfl
    have hlt : xb + 1 < w5.heap.size := (Sat.swap h4).lt
    have hne : ¬ xb + 1 = w5.heap.size := by omega
    have h5 := h4.alloc (.cells #[] 5 (0, 0))
    have h6 : Sat w _ (OwnS 5 1 (.slice (some ⟨w5.heap.size, 0, none⟩) 0 0) 0 [] :: _) := OwnS.ofBlk h5 (Nat.le_refl _) (Nat.zero_le _) (by simp) (by simp)
    have hr6 := OwnB.rd h5.drop
    clear hX
    go_wp2_with (at_builtin; refine wpList_append_sat (w0 := w) (e := 5) (sz := 1) rfl _ _ 23 23 rfl Try.underlying23 hi0 hz0 hz1 hz2 rfl rfl h6 rfl (RdB.src (l := X) Try.underlying23 hr6) ?e3 ?e4 ?e5)
    case e3 => simp only [maxLen]; omega
    case e4 => omega
    intro a' c' w7 h7 _
    replace h7 : Sat w w7 [OwnB 5 (.slice a' 16 c') X, OwnB 5 (.slice (some ⟨xb, 0, none⟩) 16 16) X, Blk (xb + 1) (.cells #[.int .i64 4, .slice (some ⟨xb, 0, none⟩) 16 16, .string ByteArray.empty, .int .i64 m] 25 (0, 0))] := by
      unfold OwnB at h7 ⊢
      rw [HXl.out] at h7 ⊢
      exact h7
    have h8 := h7.alloc (.cells #[.int .i64 1, .bool false, .slice a' 16 c', .int .i64 kb, .string ByteArray.empty, .int .i64 0, .int .i64 65535] 30 (0, 0))
    obtain ⟨qb, hqb⟩ : ∃ qb, w7.heap.size = qb := ⟨_, rfl⟩
    rw [hqb] at h8
    clear h6 h5 h4 hr6 c1 hlt hne
    go_wp2_with fail
    go_loopg [14] 129 (fun gg v14 wr => ∃ i : Nat, kb ≤ i ∧ i ≤ 128 ∧ 128 - i ≤ gg ∧ v14 = .int .i64 i ∧
      Sat w wr [OwnB 5 (.slice a' 16 c') (netL X kb (i - kb)), Blk qb (.cells #[.int .i64 1, .bool false, .slice a' 16 c', .int .i64 kb, .string ByteArray.empty, .int .i64 0, .int .i64 65535] 30 (0, 0)), OwnB 5 (.slice (some ⟨xb, 0, none⟩) 16 16) X, Blk (xb + 1) (.cells #[.int .i64 4, .slice (some ⟨xb, 0, none⟩) 16 16, .string ByteArray.empty, .int .i64 m] 25 (0, 0))])
    case atStart => exact ⟨kb, by omega, by omega, by omega, rfl, by rw [Nat.sub_self]; exact h8.swap⟩
    case round =>
      obtain ⟨i, hi1, hi2, hgg, rfl, h5⟩ := hrel
      clear h8 h7 hXl
      have g2 : wr.cell? ⟨qb, 2, none⟩ = some (.slice a' 16 c') := (Sat.front [_] h5).cell 2 rfl
      by_cases hlt : i < 128
      · obtain ⟨N, hN⟩ : ∃ N, netL X kb (i - kb) = N := ⟨_, rfl⟩
        have HN := hid_ hN
        have hNl : N.length = 16 := by rw [← hN, netL_len]; exact HXl.out
        rw [hN] at h5
        clear hN
        obtain ⟨k, hk⟩ : ∃ k, i / 8 = k := ⟨_, rfl⟩
        obtain ⟨s, hs8⟩ : ∃ s, i % 8 = s := ⟨_, rfl⟩
        obtain ⟨b, o, cc, he, hge, hlt2, hcc, hff⟩ := OwnS.cells h5 (by omega)
        injection he with e1 e2 e3
        subst e1
        clear e2 e3
        have cx : wr.cell? ⟨b, o + k, none⟩ = some (.int .u8 (N.getD k 0).toNat) := hcc k _ (bytesC_get (by omega))
        have fx := hff (o + k)
        obtain ⟨x, hx⟩ : ∃ x, (N.getD k 0) = x := ⟨_, rfl⟩
        rw [hx] at cx
        obtain ⟨y, hy⟩ : ∃ y : Nat, x.toNat = y := ⟨_, rfl⟩
        rw [hy] at cx
        have d1 : Int.tdiv (i : Int) 8 = (k : Int) := by rw [Int.tdiv_eq_ediv_of_nonneg (by omega)]; omega
        have d2 : Int.tmod (i : Int) 8 = (s : Int) := by rw [Int.tmod_eq_emod_of_nonneg (by omega)]; omega
        have hk4 : (0 : Int) ≤ (k : Int) ∧ (k : Int) < 16 := by omega
        have hs7 : s ≤ 7 := by omega
        have hlti : (i : Int) < 128 := by omega
        have hz := andNot_clr hy hs7
        have h5' := h5
        unfold OwnB at h5'
        rw [hNl] at h5'
        have hput := OwnS.put (o := k) h5' (vs := [.int .u8 ((clrU x s).toNat : Int)]) (by show k + 1 ≤ 16 * 1; omega)
        have hset := bytesC_set N k (clrU x s) (by omega)
        rw [show k + [(Value.int .u8 ((clrU x s).toNat : Int))].length = k + 1 from rfl, hset] at hput
        have hnext : netL X kb (i + 1 - kb) = N.set k (clrU x s) := by
          rw [show i + 1 - kb = (i - kb) + 1 by omega, netL_succ, show kb + (i - kb) = i by omega, HN.out]
          unfold clrL
          rw [hk, hs8, hx]
        have HX := hid_ hnext
        obtain ⟨z, hzz⟩ : ∃ z : Nat, (clrU x s).toNat = z := ⟨_, rfl⟩
        rw [hzz] at hz hput
        clear hcc hff hk hs8 hx hy hset hnext hzz HN h5'
        go_wp2_with fail
        go_roundg (128 - (i + 1))
        case measure => omega
        case rel =>
          refine ⟨i + 1, by omega, by omega, by omega, by go_num, ?_⟩
          rw [HX.out]
          unfold OwnB
          rw [List.length_set, hNl]
          exact hput
      · obtain rfl : i = 128 := by omega
        have M1 := hid_ (netN_may (n := 16) (k := kb) (by omega) HXl.out (by omega))
        have T1 := hid_ (nets_self (n := 16) (k := kb) (kd := 4) (.inr ⟨rfl, rfl⟩) HXl.out (by omega) b2.1 (by omega))
        have T2 := hid_ (nets_turned (n := 16) (k := kb) (t := tb) (kd := 4) (.inr ⟨rfl, rfl⟩) HXl.out (by omega) (by omega) b2.1 (by omega))
        have HYl := hid_ ((trnL_len X tb).trans HXl.out)
        have hB := Sat.front [_, _, _] h5
        obtain ⟨z0, z1, z2, z3⟩ : wr.cell? ⟨xb + 1, 0, none⟩ = some (.int .i64 4) ∧ wr.cell? ⟨xb + 1, 1, none⟩ = some (.slice (some ⟨xb, 0, none⟩) 16 16) ∧ wr.cell? ⟨xb + 1, 2, none⟩ = some (.string ByteArray.empty) ∧ wr.cell? ⟨xb + 1, 3, none⟩ = some (.int .i64 m) := boxA (a := toN 4 X m) hB
        have hlt3 : xb + 1 < wr.heap.size := hB.lt
        have hne3 : ¬ wr.heap.size = xb + 1 := by omega
        have hne4 : ¬ xb + 1 = wr.heap.size := by omega
        have h6 := h5.alloc2 (.cells #[.int .i64 4, .slice (some ⟨xb, 0, none⟩) 16 16, .string ByteArray.empty, .int .i64 m] 25 (0, 0)) (.cells #[] 5 (0, 0))
        have z5 := (Sat.front [_, _, _, _, _] h6).cell 1 (v := .slice (some ⟨xb, 0, none⟩) 16 16) rfl
        have h7 : Sat w _ (OwnS 5 1 (.slice (some ⟨wr.heap.size + 1, 0, none⟩) 0 0) 0 [] :: _) := OwnS.ofBlk h6 (Nat.le_refl _) (Nat.zero_le _) (by simp) (by simp)
        have hr7 := OwnB.rd (Sat.front [_, _, _, _] h6)
        go_wp2_with (at_builtin; refine wpList_append_sat (w0 := w) (e := 5) (sz := 1) rfl _ _ 23 23 rfl Try.underlying23 hi0 hz0 hz1 hz2 rfl rfl h7 rfl (RdB.src (l := X) Try.underlying23 hr7) ?f3 ?f4 ?f5)
        case f3 => simp only [maxLen, HXl.out]; omega
        case f4 => rw [HXl.out]; omega
        intro a2 c2 w9 h9 _
        rw [HXl.out] at h9 ⊢
        clear h5 h6 h7 z0 z1 z2 z3 z5 hB hr7 hlt3 hne3 hne4
        generalize wr.heap.size = q2 at *
        have f1 : w9.frozen? ⟨q2, 1, none⟩ = false := (Sat.front [_] h9).frozen 1
        have g1 : w9.cell? ⟨q2, 1, none⟩ = some (.slice (some ⟨xb, 0, none⟩) 16 16) := (Sat.front [_] h9).cell 1 rfl
        have h10 := (Sat.front [_] h9).set 1 (.slice a2 16 c2)
        simp only [List.setIfInBounds_toArray, List.set_cons_zero, List.set_cons_succ] at h10
        go_upto_region 16 with fail
        generalize w9.setCell ⟨q2, 1, none⟩ (.slice a2 16 c2) = w10 at *
        have g2 : w10.cell? ⟨q2, 1, none⟩ = some (.slice a2 16 c2) := h10.cell 1 rfl
        clear f1 g1 h9
        obtain ⟨k, hk⟩ : ∃ k, tb / 8 = k := ⟨_, rfl⟩
        obtain ⟨s, hs8⟩ : ∃ s, tb % 8 = s := ⟨_, rfl⟩
        obtain ⟨b, o, cc, he, hge, hlt2, hcc, hff⟩ := OwnS.cells h10.swap (by omega)
        injection he with e1 e2 e3
        subst e1
        clear e2 e3
        have cx : w10.cell? ⟨b, o + k, none⟩ = some (.int .u8 (X.getD k 0).toNat) := hcc k _ (bytesC_get (by rw [HXl.out]; omega))
        have fx := hff (o + k)
        obtain ⟨x, hx⟩ : ∃ x, (X.getD k 0) = x := ⟨_, rfl⟩
        rw [hx] at cx
        obtain ⟨y, hy⟩ : ∃ y : Nat, x.toNat = y := ⟨_, rfl⟩
        rw [hy] at cx
        have d1 : Int.tdiv (tb : Int) 8 = (k : Int) := by rw [Int.tdiv_eq_ediv_of_nonneg (by omega)]; omega
        have d2 : Int.tmod (tb : Int) 8 = (s : Int) := by rw [Int.tmod_eq_emod_of_nonneg (by omega)]; omega
        have hk4 : (0 : Int) ≤ (k : Int) ∧ (k : Int) < 16 := by omega
        have hs7 : s ≤ 7 := by omega
        have hz := xor_trn hy hs7
        have hput := OwnS.put (o := k) h10.swap (vs := [.int .u8 ((trnU x s).toNat : Int)]) (by show k + 1 ≤ 16 * 1; omega)
        have hset := bytesC_set X k (trnU x s) (by rw [HXl.out]; omega)
        rw [show k + [(Value.int .u8 ((trnU x s).toNat : Int))].length = k + 1 from rfl, hset] at hput
        have hnext := hid_ (show trnL X tb = X.set k (trnU x s) by unfold trnL; rw [hk, hs8, hx])
        obtain ⟨z, hzz⟩ : ∃ z : Nat, (trnU x s).toNat = z := ⟨_, rfl⟩
        rw [hzz] at hz hput
        clear hcc hff hk hs8 hx hy hset hzz h10
        go_upto_region 17 with fail
        replace hput : Sat w (w10.setCell ⟨b, o + k, none⟩ (.int .u8 z)) [OwnB 5 (.slice (some ⟨b, o, none⟩) 16 c2) (trnL X tb), Blk q2 (.cells #[.int .i64 4, .slice (some ⟨b, o, none⟩) 16 c2, .string ByteArray.empty, .int .i64 m] 25 (0, 0)), OwnB 5 (.slice a' 16 c') (netL X kb (128 - kb)), Blk qb (.cells #[.int .i64 1, .bool false, .slice a' 16 c', .int .i64 kb, .string ByteArray.empty, .int .i64 0, .int .i64 65535] 30 (0, 0)), OwnB 5 (.slice (some ⟨xb, 0, none⟩) 16 16) X, Blk (xb + 1) (.cells #[.int .i64 4, .slice (some ⟨xb, 0, none⟩) 16 16, .string ByteArray.empty, .int .i64 m] 25 (0, 0))] := by
          have hh : OwnB 5 (.slice (some ⟨b, o, none⟩) 16 c2) (trnL X tb) = OwnS 5 1 (.slice (some ⟨b, o, none⟩) 16 c2) 16 (bytesC (X.set k (trnU x s))) := by
            unfold OwnB
            rw [hnext.out, List.length_set, HXl.out]
          rw [hh]
          exact hput
        generalize w10.setCell ⟨b, o + k, none⟩ (.int .u8 z) = w11 at *
        clear g2 fx cx hnext hz d1 d2 hk4 hge hlt2
        have facts : ∀ W, Sat w W [OwnB 5 (.slice (some ⟨b, o, none⟩) 16 c2) (trnL X tb), Blk q2 (.cells #[.int .i64 4, .slice (some ⟨b, o, none⟩) 16 c2, .string ByteArray.empty, .int .i64 m] 25 (0, 0)), OwnB 5 (.slice a' 16 c') (netL X kb (128 - kb)), Blk qb (.cells #[.int .i64 1, .bool false, .slice a' 16 c', .int .i64 kb, .string ByteArray.empty, .int .i64 0, .int .i64 65535] 30 (0, 0)), OwnB 5 (.slice (some ⟨xb, 0, none⟩) 16 16) X, Blk (xb + 1) (.cells #[.int .i64 4, .slice (some ⟨xb, 0, none⟩) 16 16, .string ByteArray.empty, .int .i64 m] 25 (0, 0))] →
            (W.cell? ⟨qb, 0, none⟩ = some (.int .i64 1) ∧ W.cell? ⟨qb, 1, none⟩ = some (.bool false) ∧ W.cell? ⟨qb, 2, none⟩ = some (.slice a' 16 c') ∧ W.cell? ⟨qb, 3, none⟩ = some (.int .i64 kb) ∧ W.cell? ⟨qb, 4, none⟩ = some (.string ByteArray.empty) ∧ W.cell? ⟨qb, 5, none⟩ = some (.int .i64 0) ∧ W.cell? ⟨qb, 6, none⟩ = some (.int .i64 65535)) ∧
            (W.cell? ⟨q2, 0, none⟩ = some (.int .i64 4) ∧ W.cell? ⟨q2, 1, none⟩ = some (.slice (some ⟨b, o, none⟩) 16 c2) ∧ W.cell? ⟨q2, 2, none⟩ = some (.string ByteArray.empty) ∧ W.cell? ⟨q2, 3, none⟩ = some (.int .i64 m)) ∧
            (W.cell? ⟨xb + 1, 0, none⟩ = some (.int .i64 4) ∧ W.cell? ⟨xb + 1, 1, none⟩ = some (.slice (some ⟨xb, 0, none⟩) 16 16) ∧ W.cell? ⟨xb + 1, 2, none⟩ = some (.string ByteArray.empty) ∧ W.cell? ⟨xb + 1, 3, none⟩ = some (.int .i64 m)) ∧
            RdB W (.slice (some ⟨b, o, none⟩) 16 c2) (trnL X tb) ∧ RdB W (.slice a' 16 c') (netL X kb (128 - kb)) ∧ RdB W (.slice (some ⟨xb, 0, none⟩) 16 16) X := fun W h =>
          ⟨boxR (Sat.front [_, _, _] h), boxA (a := toN 4 (trnL X tb) m) (Sat.front [_] h), boxA (a := toN 4 X m) (Sat.front [_, _, _, _, _] h), OwnB.rd h, OwnB.rd (Sat.front [_, _] h), OwnB.rd (Sat.front [_, _, _, _] h)⟩
        obtain ⟨⟨x0, x1, x2, x3, x4, x5, x6⟩, ⟨y0, y1, y2, y3⟩, ⟨z0, z1, z2, z3⟩, rB, rA, rY⟩ := facts _ hput
        go_wp2_with fail
        refine (may_n HXl.out M1 rA).mono ?_
        rintro _ w12 ⟨rfl, hb12⟩
        have h12 := hput.under hb12
        clear x0 x1 x2 x3 x4 x5 x6 y0 y1 y2 y3 z0 z1 z2 z3
        obtain ⟨⟨x0, x1, x2, x3, x4, x5, x6⟩, ⟨y0, y1, y2, y3⟩, ⟨z0, z1, z2, z3⟩, rB, rA, rY⟩ := facts _ h12
        go_wp2_with fail
        refine (match_n HXl.out HXl.out T1 rA rY).mono ?_
        rintro _ w13 ⟨rfl, hb13⟩
        have h13 := h12.under hb13
        clear x0 x1 x2 x3 x4 x5 x6 y0 y1 y2 y3 z0 z1 z2 z3
        obtain ⟨⟨x0, x1, x2, x3, x4, x5, x6⟩, ⟨y0, y1, y2, y3⟩, ⟨z0, z1, z2, z3⟩, rB, rA, rY⟩ := facts _ h13
        by_cases hkt : kb ≤ tb
        · have zk : (kb : Int) ≤ (tb : Int) := by omega
          rw [decide_eq_true hkt] at T2
          clear hkt
          go_wp2_with fail
          refine (match_n HXl.out HYl.out T2 rA rB).mono ?_
          rintro _ w14 ⟨rfl, hb14⟩
          have h14 := h13.under hb14
          clear x0 x1 x2 x3 x4 x5 x6 y0 y1 y2 y3 z0 z1 z2 z3
          go_wp2_with fail
          refine (acl_awake h14).mono ?_
          rintro _ w15 ⟨rfl, h15⟩
          go_wp2_with fail
          go_ret
          exact ⟨rfl, h15.below⟩
        · have zk : ¬ (kb : Int) ≤ (tb : Int) := by omega
          rw [decide_eq_false hkt] at T2
          have HKT := hid_ hkt
          clear hkt
          go_wp2_with fail
          refine (match_n HXl.out HYl.out T2 rA rB).mono ?_
          rintro _ w14 ⟨rfl, hb14⟩
          have h14 := h13.under hb14
          clear x0 x1 x2 x3 x4 x5 x6 y0 y1 y2 y3 z0 z1 z2 z3
          go_wp2_with fail
          refine (acl_awake h14).mono ?_
          rintro _ w15 ⟨rfl, h15⟩
          go_wp2_with fail
          go_ret
          exact ⟨by show Ending.returned (.bool (!decide (kb ≤ tb))) = _; rw [decide_eq_false HKT.out]; rfl, h15.below⟩
end
end Go.Proofs.Ytmnjaaeljpleeaa
