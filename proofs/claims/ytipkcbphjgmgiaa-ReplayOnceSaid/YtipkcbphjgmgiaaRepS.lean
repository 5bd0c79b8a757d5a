/- The reference's Check, walked. -/
import Derived.Test.YtipkcbphjgmgiaaRepR
namespace Go.Proofs.Ytipkcbphjgmgiaa
open Go Go.RowKit
set_option linter.unusedVariables false
set_option linter.unusedSimpArgs false

section
variable {w0 w : World} {L : List Assn}
theorem run_append_seen {ty : TypeId} {v : Value} {l : List MsgM} {m : MsgM} (hs : Sat w0 w (Seens v l :: L)) {g : Nat} (hb : w.heap[g]? = some (.cells #[.int .i64 m.stamp, .string (strOf m.key)] 73 (0, 0))) (hll : l.length ≤ 300) :
    ∃ a' c' w', (Builtin.append_ #[42, 42] ty #[v, .slice (some ⟨g, 0, none⟩) 1 1]).run Try.prog w = .ok (.slice a' (l.length + 1) c') w' ∧ Sat w0 w' (Seens (.slice a' (l.length + 1) c') (l ++ [m]) :: L) := by
  obtain ⟨i0, hi0, hz0, hz1, hz2⟩ := info73
  obtain ⟨v', w', hr, h2, _⟩ := run_append_sat (P := Try.prog) (ty := ty) Try.underlying42 hi0 hz0 hz1 hz2 rfl hs (src_blk (c := 1) (cs := seenC m) Try.underlying42 hb rfl (by simp only [seenC, List.mem_cons, List.not_mem_nil, or_false]; rintro u (rfl | rfl) <;> rfl)) (by simp only [maxLen]; omega) (by omega)
  obtain ⟨a', c', rfl, _, _⟩ := OwnS.form h2
  refine ⟨a', c', w', hr, ?_⟩
  unfold Seens
  rw [List.length_append, flatS_append, flatS_one]
  exact h2
theorem wpList_append_seen {ops : Array Oper} {rest : List Oper} {o : Oper} {a : Act} {Q : Exit → Act → World → Prop} (hgd : o.guard = none) (s x : Operand)
    (ho : o.op = .call { callee := .builtin .append, args := #[s, x], argTypes := #[42, 42] })
    {v : Value} {l : List MsgM} (m : MsgM) (hv : a.eval s = v) (hs : Sat w0 w (Seens v l :: L)) {g : Nat} (hx : a.eval x = .slice (some ⟨g, 0, none⟩) 1 1) (hb : w.heap[g]? = some (.cells #[.int .i64 m.stamp, .string (strOf m.key)] 73 (0, 0))) (hll : l.length ≤ 300)
    (h : ∀ a' c' w', Sat w0 w' (Seens (.slice a' (l.length + 1) c') (l ++ [m]) :: L) → wpList Try.prog ops Q rest (a.put o.dst (.slice a' (l.length + 1) c')) w') : wpList Try.prog ops Q (o :: rest) a w := by
  refine wpList_plain hgd fun K hK => ?_
  obtain ⟨a', c', w', hr, h2⟩ := run_append_seen (ty := o.type) hs hb hll
  unfold Oper.wp execOp
  simp only [ho, resolve, invoke, builtin, Sem.run_bind, Sem.run_pure, Result.andThen_ok, List.map_toArray, List.map_cons, List.map_nil, hv, hx, hr]
  exact hK _ _ (h a' c' w' h2)
theorem step_append_seen {ops : Array Oper} {o : Oper} {a : Act} {K : Act → World → Prop} {Q : Exit → Act → World → Prop} (hgd : o.guard = none) (s x : Operand)
    (ho : o.op = .call { callee := .builtin .append, args := #[s, x], argTypes := #[42, 42] })
    {v : Value} {l : List MsgM} (m : MsgM) (hv : a.eval s = v) (hs : Sat w0 w (Seens v l :: L)) {g : Nat} (hx : a.eval x = .slice (some ⟨g, 0, none⟩) 1 1) (hb : w.heap[g]? = some (.cells #[.int .i64 m.stamp, .string (strOf m.key)] 73 (0, 0))) (hll : l.length ≤ 300)
    (h : ∀ a' c' w', Sat w0 w' (Seens (.slice a' (l.length + 1) c') (l ++ [m]) :: L) → K (a.put o.dst (.slice a' (l.length + 1) c')) w') :
    if Region.wanted o (yielded ops a.tmps) = true then o.wp Try.prog a w K Q else K (a.put o.dst undef) w := by
  rw [if_pos (by simp [Region.wanted, hgd])]
  obtain ⟨a', c', w', hr, h2⟩ := run_append_seen (ty := o.type) hs hb hll
  unfold Oper.wp execOp
  simp only [ho, resolve, invoke, builtin, Sem.run_bind, Sem.run_pure, Result.andThen_ok, List.map_toArray, List.map_cons, List.map_nil, hv, hx, hr]
  exact h a' c' w' h2

set_option maxHeartbeats 2000000 in
set_option maxRecDepth 100000 in
theorem ref_Check_good {f : Nat} {m : FltM} {now stamp : Int} {v : Value} {e : List UInt8} (hrd : ∀ (W : World) (A : Assn), Sat w0 W (A :: L) → RdB W v e) (hs : Sat w0 w (RFlt f m :: L)) (hb : FltM.bad now stamp e = false) :
    Calls Try.prog 25 #[.pointer (some ⟨f, 0, none⟩), .int .i64 now, .int .i64 stamp, v] w fun e' w' => e' = .returned (.int .i64 (m.says now stamp e)) ∧ Sat w0 w' (RFlt f (m.check now stamp e) :: L) := by
  have hr := hrd w _ hs
  have HB := hid_ hb
  unfold FltM.bad at hb
  rw [Bool.or_eq_false_iff, Bool.or_eq_false_iff] at hb
  obtain ⟨⟨b1, b2⟩, b3'⟩ := hb
  have hlen : e.length = 32 := by simpa using b3'
  obtain ⟨ae, ce, rfl, hce, _, _⟩ := hr.form
  have b3 : ((32 : Int) != 32) = false := rfl
  have hnow : now = timeC now := by simpa using b1
  have hstamp : stamp = timeC stamp := by simpa using b2
  have n1 := timeC_bd now
  have n2 := timeC_bd stamp
  rw [← hnow] at n1
  rw [← hstamp] at n2
  rw [tB_eq] at b1 b2
  have t1 := fun W => ref_Time (w := W) now
  have t2 := fun W => ref_Time (w := W) stamp
  rw [show tB now = true by simpa using b1] at t1
  rw [show tB stamp = true by simpa using b2] at t2
  have HL := hid_ hlen
  rw [hlen] at hr hrd ⊢
  clear b3' hlen hce hnow hstamp b1 b2
  obtain ⟨a, c, hok, hc, h1⟩ := RFlt.opn hs
  obtain ⟨⟨k1, k2⟩, ⟨k3, k4⟩, ⟨k5, k6⟩, k7⟩ := hok
  have f3 : w.cell? ⟨f, 3, none⟩ = some (.slice a m.l.length c) := h1.cell 3 rfl
  have e1 : IntKind.i64.wrap (now - m.window) = now - m.window := IntWalk.i64_in _ (by omega)
  have e2 : IntKind.i64.wrap (now + m.window) = now + m.window := IntWalk.i64_in _ (by omega)
  have hokY : ∀ l : List MsgM, l.length ≤ 256 → FltM.ok { m with l := l } := fun l hl => ⟨⟨k1, k2⟩, ⟨k3, k4⟩, ⟨k5, k6⟩, hl⟩
  obtain ⟨n, hn⟩ : ∃ n, m.l.length = n := ⟨_, rfl⟩
  have HN := hid_ hn
  rw [hn] at h1 hc k7 f3
  clear hn
  go_enter Try.func25, Try.ntmps25
  go_wp2_with fail
  refine (t1 _).mono ?_
  rintro _ _ ⟨rfl, rfl⟩
  go_wp2_with fail
  refine (t2 _).mono ?_
  rintro _ _ ⟨rfl, rfl⟩
  go_wp2_with fail
  go_loopg [9, 32] n (fun gg v9 v32 wr => ∃ (i : Nat) (K : List MsgM) (a' : Option Addr) (c' : Nat), i ≤ n ∧ n - i ≤ gg ∧ v32 = .int .i64 i ∧ v9 = .slice a' K.length c' ∧ K.length ≤ i ∧ Hid (K = (m.l.take i).filter fun x => !oldB now m.window x) ∧
    Sat w0 wr (Seens (.slice a' K.length c') K :: Blk f (.cells #[.int .i64 m.window, .int .i64 m.since, .int .i64 m.most, .slice a n c] 44 (0, 0)) :: Seens (.slice a n c) m.l :: L))
  case atStart => exact ⟨0, [], none, 0, by omega, by omega, rfl, rfl, by simp, hid_ (by simp), OwnS.nilI h1⟩
  case round =>
    obtain ⟨i, K, a', c', hi, hgg, rfl, rfl, hKl, hK, h2⟩ := hrel
    clear h1 f3 hs hr
    by_cases hlt : i < n
    · obtain ⟨x, hx⟩ : ∃ x, m.l[i]? = some x := ⟨_, List.getElem?_eq_getElem (by rw [HN.out]; exact hlt)⟩
      obtain ⟨b, o, rfl, q0, q1⟩ := Seens.at (Sat.front [_, _] h2) hx
      have HX := hid_ hx
      have f0 : wr.cell? ⟨f, 0, none⟩ = some (.int .i64 m.window) := (Sat.front [_] h2).cell 0 rfl
      have h3 := h2.alloc (.cells #[.int .i64 x.stamp, .string (strOf x.key)] 73 (0, 0))
      have hstep : (m.l.take (i + 1)).filter (fun x => !oldB now m.window x) = (m.l.take i).filter (fun x => !oldB now m.window x) ++ [x].filter (fun x => !oldB now m.window x) := by
        rw [List.take_add_one, List.filter_append, hx]
        rfl
      have HS := hid_ hstep
      clear hx hstep
      go_upto_region 7 with fail
      obtain ⟨gb, hgb⟩ : ∃ gb, wr.heap.size = gb := ⟨_, rfl⟩
      rw [hgb] at h3
      generalize wr.alloc (.cells #[.int .i64 x.stamp, .string (strOf x.key)] 73 (0, 0)) = w3 at *
      rw [hgb]
      clear hgb f0 q0 q1 h2
      have g0 : w3.cell? ⟨gb, 0, none⟩ = some (.int .i64 x.stamp) := h3.cell 0 rfl
      have g1 : w3.cell? ⟨gb, 1, none⟩ = some (.string (strOf x.key)) := h3.cell 1 rfl
      have f0 : w3.cell? ⟨f, 0, none⟩ = some (.int .i64 m.window) := (Sat.front [_, _] h3).cell 0 rfl
      cases d : decide (now - m.window ≤ x.stamp)
      · have hold : oldB now m.window x = true := by
          unfold oldB
          rw [decide_eq_false_iff_not] at d
          exact decide_eq_true (by omega)
        have HO := hid_ hold
        clear hold
        go_quiet (fail)
        go_wp2_with fail
        go_roundg (n - (i + 1))
        case measure => omega
        case rel =>
          refine ⟨i + 1, K, a', c', by omega, by omega, by go_num, rfl, by omega, hid_ ?_, (Sat.drewN h3 _).drop⟩
          rw [HS.out, ← hK.out]
          simp [HO.out]
      · have hold : oldB now m.window x = false := by
          unfold oldB
          rw [decide_eq_true_eq] at d
          exact decide_eq_false (by omega)
        have HO := hid_ hold
        clear hold
        go_quiet (fail)
        replace h3 := Sat.drewN h3 nq
        generalize w3.drewN nq = w4 at *
        clear g0 g1 f0
        have g0 : w4.cell? ⟨gb, 0, none⟩ = some (.int .i64 x.stamp) := h3.cell 0 rfl
        have g1 : w4.cell? ⟨gb, 1, none⟩ = some (.string (strOf x.key)) := h3.cell 1 rfl
        have h4 := h3.drop.alloc (.cells #[.int .i64 x.stamp, .string (strOf x.key)] 73 (0, 0))
        go_wp2_with (at_builtin; refine wpList_append_seen (w0 := w0) rfl _ _ rfl x rfl h4.swap rfl (Sat.blk h4).1 (by omega) ?_)
        intro a9 c9 w9 h9
        go_wp2_with fail
        go_roundg (n - (i + 1))
        case measure => omega
        case rel =>
          refine ⟨i + 1, K ++ [x], a9, c9, by omega, by omega, by go_num, by rw [List.length_append]; rfl, by rw [List.length_append]; simp; omega, hid_ ?_, ?_⟩
          · rw [HS.out, ← hK.out]
            simp [HO.out]
          · rw [List.length_append]
            exact Sat.drop (Sat.swap h9)
    · obtain rfl : i = n := by omega
      have hKY : K = m.young now := by
        rw [hK.out]
        unfold FltM.young
        rw [← HN.out, List.take_length]
      have HY := hid_ hKY.symm
      clear hK hKY
      have f3 : wr.cell? ⟨f, 3, none⟩ = some (.slice a i c) := (Sat.front [_] h2).cell 3 rfl
      have g3 := (Sat.front [_] h2).frozen 3
      have h3 := (Sat.front [_] h2).set 3 (.slice a' K.length c')
      simp only [List.setIfInBounds_toArray, List.set_cons_succ, List.set_cons_zero] at h3
      have h4 : Sat w0 (wr.setCell ⟨f, 3, none⟩ (.slice a' K.length c')) (Seens (.slice a' K.length c') K :: Blk f (.cells #[.int .i64 m.window, .int .i64 m.since, .int .i64 m.most, .slice a' K.length c'] 44 (0, 0)) :: L) := (Sat.re [2, 1, 0] [_, _, _] h3).drop
      clear h3
      have hgone : ∀ W, Sat w0 W (Seens (.slice a' K.length c') K :: Blk f (.cells #[.int .i64 m.window, .int .i64 m.since, .int .i64 m.most, .slice a' K.length c'] 44 (0, 0)) :: L) → Sat w0 W (RFlt f { m with l := K } :: L) := fun W h => RFlt.shut (hokY K (by omega)) h.swap
      go_upto_region 11 with fail
      generalize wr.setCell ⟨f, 3, none⟩ (.slice a' K.length c') = w5 at *
      clear h2 f3 g3
      have f0 : w5.cell? ⟨f, 0, none⟩ = some (.int .i64 m.window) := (Sat.front [_] h4).cell 0 rfl
      have f1 : w5.cell? ⟨f, 1, none⟩ = some (.int .i64 m.since) := (Sat.front [_] h4).cell 1 rfl
      have f3 : w5.cell? ⟨f, 3, none⟩ = some (.slice a' K.length c') := (Sat.front [_] h4).cell 3 rfl
      obtain ⟨k, hk⟩ : ∃ k, K.length = k := ⟨_, rfl⟩
      have HK := hid_ hk
      cases d1 : decide (stamp < now - m.window)
      · cases d2 : decide (now + m.window < stamp)
        · cases d3 : decide (stamp ≤ m.since)
          · have hfar : m.far now stamp = false := by unfold FltM.far; rw [d1, d2, d3]; rfl
            have HF := hid_ hfar
            clear hfar
            have hk256 : k ≤ 256 := by omega
            rw [hk] at h4 f3
            clear hk
            go_wp2_with fail
            go_loopg [85] k (fun gg v85 wr2 => ∃ j : Nat, j ≤ k ∧ k - j ≤ gg ∧ v85 = .int .i64 j ∧ Hid (∀ x ∈ K.take j, (x.key == e) = false) ∧ Sat w0 wr2 (Seens (.slice a' k c') K :: Blk f (.cells #[.int .i64 m.window, .int .i64 m.since, .int .i64 m.most, .slice a' k c'] 44 (0, 0)) :: L))
            case atStart => exact ⟨0, by omega, by omega, rfl, hid_ (by simp), h4⟩
            case round =>
              obtain ⟨j, hj, hgg2, rfl, hno, h5⟩ := hrel
              clear h4 f0 f1 f3
              by_cases hjt : j < k
              · obtain ⟨x, hx⟩ : ∃ x, K[j]? = some x := ⟨_, List.getElem?_eq_getElem (by rw [HK.out]; exact hjt)⟩
                obtain ⟨b, o, rfl, q0, q1⟩ := Seens.at h5 hx
                have HX := hid_ hx
                clear hx
                have h6 := h5.alloc_ (.cells #[.int .i64 x.stamp, .string (strOf x.key)] 73 (0, 0))
                have hre := hrd _ _ h6.drop
                have kc : (convert 45 9 (.slice ae 32 ce)).run Try.prog (wr.alloc (.cells #[.int .i64 x.stamp, .string (strOf x.key)] 73 (0, 0))) = .ok (.string (strOf e)) (wr.alloc (.cells #[.int .i64 x.stamp, .string (strOf x.key)] 73 (0, 0))) := conv_rd (P := Try.prog) (dst := 9) Try.underlying45 Try.underlying5 Try.underlying9 hre
                cases hq : (x.key == e)
                · have hne2 : ((strOf x.key).toList == (strOf e).toList) = false := by rw [ByteArray.toList_eq, ByteArray.toList_eq, strOf_toList, strOf_toList]; exact hq
                  have HQ := hid_ hq
                  clear hq
                  go_wp2_with fail
                  go_roundg (k - (j + 1))
                  case measure => omega
                  case rel =>
                    refine ⟨j + 1, by omega, by omega, by go_num, hid_ ?_, h6⟩
                    intro y hy
                    rw [List.take_add_one, HX.out] at hy
                    simp only [Option.toList, List.mem_append, List.mem_singleton] at hy
                    rcases hy with hy | rfl
                    · exact hno.out y hy
                    · exact HQ.out
                · have hne2 : ((strOf x.key).toList == (strOf e).toList) = true := by rw [ByteArray.toList_eq, ByteArray.toList_eq, strOf_toList, strOf_toList]; exact hq
                  have HQ := hid_ hq
                  clear hq
                  go_wp2_with fail
                  go_ret
                  obtain ⟨r1, r2⟩ := says_seen HB.out HF.out (by rw [HY.out]; exact List.any_eq_true.2 ⟨x, List.mem_of_getElem? HX.out, HQ.out⟩)
                  rw [r1, r2, HY.out]
                  rw [HK.out] at hgone
                  exact ⟨rfl, hgone _ h6⟩
              · obtain rfl : j = k := by omega
                have hany : K.any (fun x => x.key == e) = false := List.any_eq_false.2 (fun x hx => by rw [hno.out x (by rw [← HK.out, List.take_length]; exact hx)]; exact Bool.false_ne_true)
                have HA := hid_ hany
                clear hany hno
                have f2 : wr.cell? ⟨f, 2, none⟩ = some (.int .i64 m.most) := (Sat.front [_] h5).cell 2 rfl
                have f3 : wr.cell? ⟨f, 3, none⟩ = some (.slice a' j c') := (Sat.front [_] h5).cell 3 rfl
                cases d4 : decide (m.most ≤ (j : Int))
                · go_wp2_with fail
                  go_quiet (fail)
                  replace h5 := Sat.drewN h5 nq
                  generalize wr.drewN nq = w11 at *
                  clear f2 f3
                  have f3 : w11.cell? ⟨f, 3, none⟩ = some (.slice a' j c') := (Sat.front [_] h5).cell 3 rfl
                  have hre := hrd _ _ (Sat.drop h5.drew)
                  have kc : (convert 45 9 (.slice ae 32 ce)).run Try.prog w11.drew = .ok (.string (strOf e)) w11.drew := conv_rd (P := Try.prog) (dst := 9) Try.underlying45 Try.underlying5 Try.underlying9 hre
                  have h12 := h5.drew.alloc (.cells #[.int .i64 stamp, .string (strOf e)] 73 (0, 0))
                  have h12' := h5.alloc (.cells #[.int .i64 stamp, .string (strOf e)] 73 (0, 0))
                  have f32 : (w11.alloc (.cells #[.int .i64 stamp, .string (strOf e)] 73 (0, 0))).cell? ⟨f, 3, none⟩ = some (.slice a' j c') := (Sat.front [_, _] h12').cell 3 rfl
                  clear h12' hre
                  go_wp2_with fail
                  go_cut [] (fun wx => ∃ (a9 : Option Addr) (c9 : Nat), Sat w0 wx (Seens (.slice a9 (K.length + 1) c9) (K ++ [⟨e, stamp⟩]) :: Blk f (.cells #[.int .i64 m.window, .int .i64 m.since, .int .i64 m.most, .slice a9 (K.length + 1) c9] 44 (0, 0)) :: L))
                  case first =>
                    go_region_law (first | (refine step_append_seen (w0 := w0) rfl _ _ rfl ⟨e, stamp⟩ rfl h12.swap rfl (Sat.blk h12).1 (by rw [HK.out]; omega) ?_; intro a9 c9 w12 h13; have f3' : w12.cell? ⟨f, 3, none⟩ = some (.slice a' j c') := (Sat.front [_, _] h13).cell 3 rfl; have g3' := (Sat.front [_, _] h13).frozen 3))
                    all_goals
                      go_wp2_with fail
                      go_meet
                      have h14 := (Sat.front [_, _] h13).set 3 (.slice a9 (K.length + 1) c9)
                      simp only [List.setIfInBounds_toArray, List.set_cons_succ, List.set_cons_zero] at h14
                      exact ⟨a9, c9, (Sat.re [2, 1, 0] [_, _, _] h14).drop⟩
                  obtain ⟨a9, c9, h15⟩ := hcut
                  go_wp2_with fail
                  go_ret
                  rw [decide_eq_false_iff_not] at d4
                  obtain ⟨r1, r2⟩ := says_new HB.out HF.out (by rw [HY.out]; exact HA.out) (by rw [HY.out, HK.out]; exact d4)
                  rw [r1, r2, HY.out]
                  have h16 := h15.swap
                  exact ⟨rfl, RFlt.shut (v := .slice a9 (K.length + 1) c9) (hokY _ (by rw [List.length_append, HK.out]; simp; omega)) h16⟩
                · go_wp2_with fail
                  go_quiet (fail)
                  go_wp2_with fail
                  go_ret
                  rw [decide_eq_true_eq] at d4
                  obtain ⟨r1, r2⟩ := says_full HB.out HF.out (by rw [HY.out]; exact HA.out) (by rw [HY.out, HK.out]; exact d4)
                  rw [r1, r2, HY.out]
                  rw [HK.out] at hgone
                  exact ⟨rfl, hgone _ (Sat.drewN h5 _)⟩
          · have hfar : m.far now stamp = true := by unfold FltM.far; rw [d1, d2, d3]; rfl
            have HF := hid_ hfar
            clear hfar
            go_wp2_with fail
            go_ret
            obtain ⟨r1, r2⟩ := says_far HB.out HF.out
            rw [r1, r2, HY.out]
            exact ⟨rfl, hgone _ h4⟩
        · have hfar : m.far now stamp = true := by unfold FltM.far; rw [d1, d2]; rfl
          have HF := hid_ hfar
          clear hfar
          go_wp2_with fail
          go_ret
          obtain ⟨r1, r2⟩ := says_far HB.out HF.out
          rw [r1, r2, HY.out]
          exact ⟨rfl, hgone _ h4⟩
      · have hfar : m.far now stamp = true := by unfold FltM.far; rw [d1]; rfl
        have HF := hid_ hfar
        clear hfar
        go_wp2_with fail
        go_ret
        obtain ⟨r1, r2⟩ := says_far HB.out HF.out
        rw [r1, r2, HY.out]
        exact ⟨rfl, hgone _ h4⟩
end
end Go.Proofs.Ytipkcbphjgmgiaa
