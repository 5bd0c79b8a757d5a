/- The law ReplayPlays, walked. -/
import Derived.Deep.RegionLaw
import Derived.Deep.DeepCutAuto
import Derived.Test.YtipkcbphjgmgiaaRepS
import Derived.Test.YtipkcbphjgmgiaaOpnL
namespace Go.Proofs.Ytipkcbphjgmgiaa
open Go Go.RowKit Go.ChangeShapes Go.WideShapes Go.Deep
set_option linter.unusedVariables false
set_option linter.unusedSimpArgs false

def IsRCalls (W : World) (v : Value) : Prop := ∃ a cap l, v = .slice a (List.length l) cap ∧ RdL 4 rcallC RdRC W a cap l
section
variable {H : Type} {enc : TypeId × Value → H} {W : World} {base : Nat} {held : Bool} {v : Value} {d : DataW H} {p : List MemPlace}
theorem opnRCalls (hv : Value.okWide Try.prog W .any base 36 v) (h : DataW.Trod enc Try.prog W 0 (fun _ => true) held 36 v d p) : IsRCalls W v := by
  obtain ⟨a, len, cap, rfl⟩ := okWide_slice Try.underlying36 hv
  obtain ⟨fuel, hf⟩ := h
  obtain ⟨l, rfl, hl⟩ := openList (C := rcallC) (R := RdRC) (a := a) (len := len) (cap := cap) Try.underlying36 (sz := 4) (by kernel_rfl) (by decide) (fun fuel cs x h => cellsRC h)
    (fun y b off z v hv hc => by
      obtain rfl : v = .int .i64 y.now := by simpa [rcallC] using hv.symm
      unfold World.cell? at hc
      simp at hc
      split at hc <;> first | cases hc | (split at hc <;> cases hc)) hf
  exact ⟨a, cap, l, rfl, hl⟩
end
section
variable {w0 w : World} {L : List Assn}
theorem ref_Check {f : Nat} {m : FltM} {now stamp : Int} {v : Value} {e : List UInt8} (hrd : ∀ (W : World) (A : Assn), Sat w0 W (A :: L) → RdB W v e) (hs : Sat w0 w (RFlt f m :: L)) :
    Calls Try.prog 25 #[.pointer (some ⟨f, 0, none⟩), .int .i64 now, .int .i64 stamp, v] w fun e' w' => e' = .returned (.int .i64 (m.says now stamp e)) ∧ Sat w0 w' (RFlt f (m.check now stamp e) :: L) := by
  cases hb : FltM.bad now stamp e
  · exact ref_Check_good hrd hs hb
  · have e1 : m.says now stamp e = 1 := by unfold FltM.says; rw [hb]; rfl
    have e2 : m.check now stamp e = m := by unfold FltM.check; rw [hb]; rfl
    rw [e1, e2]
    exact ref_Check_bad (hrd _ _ hs) hs hb
theorem RFlt.len {f : Nat} {m : FltM} (h : Sat w0 w (RFlt f m :: L)) : ∃ a c, w.cell? ⟨f, 3, none⟩ = some (.slice a m.l.length c) ∧ w.cell? ⟨f, 1, none⟩ = some (.int .i64 m.since) := by
  obtain ⟨a, c, _, _, h1⟩ := RFlt.opn h
  exact ⟨a, c, h1.cell 3 rfl, h1.cell 1 rfl⟩

set_option maxRecDepth 100000 in
set_option maxHeartbeats 40000000 in
theorem replay_plays_law (v0 v1 v2 v3 : Value) (w : World) (h0 : IsIntR w v0) (h1 : IsIntR w v1) (h2 : IsIntR w v2) (h3 : IsRCalls w v3) :
    Calls Try.prog 7 #[v0, v1, v2, v3] w fun e w' => e = .returned (.bool true) ∧ Below w.heap.size w w' := by
  obtain ⟨n0, rfl, _⟩ := h0
  obtain ⟨n1, rfl, _⟩ := h1
  obtain ⟨n2, rfl, _⟩ := h2
  obtain ⟨al, cl, l, rfl, hl⟩ := h3
  have hs := Sat.refl w
  obtain ⟨n, hn⟩ : ∃ n, l.length = n := ⟨_, rfl⟩
  have HN := hid_ hn
  rw [hn]
  clear hn
  go_enter Try.func7, Try.ntmps7
  go_wp2_with fail
  refine (rep_New n0 n1 n2 hs).mono ?_
  rintro _ w1 ⟨f, rfl, q1⟩
  go_wp2_with fail
  refine (ref_NewFilter n0 n1 n2 q1).mono ?_
  rintro _ w2 ⟨g, rfl, q2⟩
  obtain ⟨a2, c2, _, g1⟩ := RFlt.len q2
  go_wp2_with fail
  go_quiet ((go_at_call 22; exact quiet_same (rep_Since (Sat.swap (Sat.drewN q2 _)))))
  go_wp2_with fail
  replace q2 := Sat.drewN q2 nq
  generalize w2.drewN nq = w3 at *
  clear g1 q1
  go_loopg [35] n (fun gg v35 wr => ∃ (i : Nat) (m : FltM), i ≤ n ∧ n - i ≤ gg ∧ v35 = .int .i64 i ∧ Sat w wr [RFlt g m, Flt f m])
  case atStart => exact ⟨0, _, by omega, by omega, rfl, q2⟩
  case round =>
    obtain ⟨i, m, hi, hgg, rfl, q3⟩ := hrel
    clear q2
    by_cases hlt : i < n
    · obtain ⟨x, hx⟩ : ∃ x, l[i]? = some x := ⟨_, List.getElem?_eq_getElem (by rw [HN.out]; exact hlt)⟩
      obtain ⟨b, o, rfl, hb, hc, hrd⟩ := hl.2.2 i x hx
      have hcell : ∀ j u, (rcallC x)[j]? = some u → wr.cell? ⟨b, o + i * 4 + j, none⟩ = some u := fun j u hj => (q3.below.cell (p := ⟨b, o + i * 4 + j, none⟩) hb).trans (hc j u hj)
      have p0 : wr.cell? ⟨b, o + i * 4, none⟩ = some (.int .i64 x.now) := hcell 0 _ rfl
      have p1 : wr.cell? ⟨b, o + i * 4 + 1, none⟩ = some (.int .i64 x.stamp) := hcell 1 _ rfl
      have p2 : wr.cell? ⟨b, o + i * 4 + 2, none⟩ = some (.slice x.x x.e.length x.c) := hcell 2 _ rfl
      have p3 : wr.cell? ⟨b, o + i * 4 + 3, none⟩ = some (.bool x.odd) := hcell 3 _ rfl
      have q4 := q3.alloc (.cells #[.int .i64 x.now, .int .i64 x.stamp, .slice x.x x.e.length x.c, .bool x.odd] 47 (0, 0))
      clear hcell hc hx
      go_upto_region 7 with fail
      obtain ⟨gb, hgb⟩ : ∃ gb, wr.heap.size = gb := ⟨_, rfl⟩
      rw [hgb] at q4
      generalize wr.alloc (.cells #[.int .i64 x.now, .int .i64 x.stamp, .slice x.x x.e.length x.c, .bool x.odd] 47 (0, 0)) = w4 at *
      rw [hgb]
      clear hgb p0 p1 p2 p3 q3
      have p0 : w4.cell? ⟨gb, 0, none⟩ = some (.int .i64 x.now) := q4.cell 0 rfl
      have p1 : w4.cell? ⟨gb, 1, none⟩ = some (.int .i64 x.stamp) := q4.cell 1 rfl
      have p2 : w4.cell? ⟨gb, 2, none⟩ = some (.slice x.x x.e.length x.c) := q4.cell 2 rfl
      have p3 : w4.cell? ⟨gb, 3, none⟩ = some (.bool x.odd) := q4.cell 3 rfl
      by_cases h80 : 80 ≤ i
      · have d80 : decide ((80 : Int) ≤ (i : Int)) = true := decide_eq_true (by omega)
        go_wp2_with fail
        refine (rep_awake q4).mono ?_
        rintro _ w5 ⟨rfl, q5⟩
        go_wp2_with fail
        go_ret
        exact ⟨rfl, q5.below⟩
      · have d80 : decide ((80 : Int) ≤ (i : Int)) = false := decide_eq_false (by omega)
        by_cases h50 : 50 < x.e.length
        · have d50 : decide ((50 : Int) < (x.e.length : Int)) = true := decide_eq_true (by omega)
          go_wp2_with fail
          refine (rep_awake q4).mono ?_
          rintro _ w5 ⟨rfl, q5⟩
          go_wp2_with fail
          go_ret
          exact ⟨rfl, q5.below⟩
        · have d50 : decide ((50 : Int) < (x.e.length : Int)) = false := decide_eq_false (by omega)
          go_wp2_with fail
          refine (rep_Key (RdB.later hrd q4) q4).mono ?_
          rintro _ w5 ⟨a5, c5, rfl, q5⟩
          have p0 : w5.cell? ⟨gb, 0, none⟩ = some (.int .i64 x.now) := (Sat.front [_] q5).cell 0 rfl
          have p1 : w5.cell? ⟨gb, 1, none⟩ = some (.int .i64 x.stamp) := (Sat.front [_] q5).cell 1 rfl
          have p2 : w5.cell? ⟨gb, 2, none⟩ = some (.slice x.x x.e.length x.c) := (Sat.front [_] q5).cell 2 rfl
          have p3 : w5.cell? ⟨gb, 3, none⟩ = some (.bool x.odd) := (Sat.front [_] q5).cell 3 rfl
          go_upto_if 52 with fail
          go_cut [13] (fun v13 wx => ∃ (a : Option Addr) (c : Nat) (ee : List UInt8), v13 = .slice a ee.length c ∧ wx = w5 ∧ ∀ (W : World), Sat w W [Blk gb (.cells #[.int .i64 x.now, .int .i64 x.stamp, .slice x.x x.e.length x.c, .bool x.odd] 47 (0, 0)), OwnB 5 (.slice a5 32 c5) (keyL x.e)] → RdB W (.slice a ee.length c) ee)
          case first =>
            cases hodd : x.odd
            · rw [hodd] at p3
              go_wp2_with fail
              go_meet
              exact ⟨a5, c5, keyL x.e, by rw [keyL_len], rfl, fun W h => by rw [keyL_len]; exact OwnB.rd h.swap⟩
            · rw [hodd] at p3
              go_wp2_with fail
              go_meet
              exact ⟨x.x, x.c, x.e, rfl, rfl, fun W h => RdB.later hrd h⟩
          obtain ⟨a, c, ee, rfl, rfl, hre⟩ := hcut
          have q6 : Sat w wc [Flt f m, RFlt g m, Blk gb (.cells #[.int .i64 x.now, .int .i64 x.stamp, .slice x.x x.e.length x.c, .bool x.odd] 47 (0, 0)), OwnB 5 (.slice a5 32 c5) (keyL x.e)] := Sat.re [3, 2, 1, 0] [_, _, _, _] q5
          clear q4 q5 p3
          have hA : ∀ (m2 : FltM) (W : World) (A : Assn), Sat w W (A :: [RFlt g m2, Blk gb (.cells #[.int .i64 x.now, .int .i64 x.stamp, .slice x.x x.e.length x.c, .bool x.odd] 47 (0, 0)), OwnB 5 (.slice a5 32 c5) (keyL x.e)]) → RdB W (.slice a ee.length c) ee := fun m2 W A h => hre W h.drop.drop
          have hB : ∀ (m1 : FltM) (W : World) (A : Assn), Sat w W (A :: [Flt f m1, Blk gb (.cells #[.int .i64 x.now, .int .i64 x.stamp, .slice x.x x.e.length x.c, .bool x.odd] 47 (0, 0)), OwnB 5 (.slice a5 32 c5) (keyL x.e)]) → RdB W (.slice a ee.length c) ee := fun m1 W A h => hre W h.drop.drop
          obtain ⟨m', hm'⟩ : ∃ m', m.check x.now x.stamp ee = m' := ⟨_, rfl⟩
          obtain ⟨E, hE⟩ : ∃ E, m.says x.now x.stamp ee = E := ⟨_, rfl⟩
          have cA := fun (m2 : FltM) (W : World) (h : Sat w W (Flt f m :: [RFlt g m2, Blk gb (.cells #[.int .i64 x.now, .int .i64 x.stamp, .slice x.x x.e.length x.c, .bool x.odd] 47 (0, 0)), OwnB 5 (.slice a5 32 c5) (keyL x.e)])) => rep_Check (now := x.now) (stamp := x.stamp) (hA m2) h
          have cB := fun (m1 : FltM) (W : World) (h : Sat w W (RFlt g m :: [Flt f m1, Blk gb (.cells #[.int .i64 x.now, .int .i64 x.stamp, .slice x.x x.e.length x.c, .bool x.odd] 47 (0, 0)), OwnB 5 (.slice a5 32 c5) (keyL x.e)])) => ref_Check (now := x.now) (stamp := x.stamp) (hB m1) h
          rw [hm', hE] at cA cB
          clear hm' hE hA hB hre
          go_upto_region 11 with fail
          go_cut [79] (fun v79 wx => v79 = .bool false ∧ Sat w wx [RFlt g m', Flt f m'])
          case first =>
            have qd := Sat.drew q6
            refine wp_region_held_drew (S := fun W => W.cell? ⟨gb, 0, none⟩ = some (.int .i64 x.now) ∧ W.cell? ⟨gb, 1, none⟩ = some (.int .i64 x.stamp)) (by kernel_rfl) ⟨p0, p1⟩ (fun hHeld => ?_)
            refine wpAnyH_take (i := 0) (oi := ⟨(some 55), _, _, _, _, _⟩) (v := ?va0) rfl (by kernel_rfl) (by kernel_rfl) (by kernel_rfl) (fun _ _ _ h => h) (Or.inl ⟨by rfl, ?ya0⟩) hHeld ?_
            case ya0 => intro W hW; (try dsimp only at hW); go_simp; try with_reducible rfl
            try simp only [Act.put, List.setIfInBounds_toArray, List.set_cons_zero, List.set_cons_succ]
            refine wpAnyH_take (i := 1) (oi := ⟨(some 56), _, _, _, _, _⟩) (v := ?va1) rfl (by kernel_rfl) (by kernel_rfl) (by kernel_rfl) (fun _ _ _ h => h) (Or.inl ⟨by rfl, ?ya1⟩) hHeld ?_
            case ya1 => intro W hW; (try dsimp only at hW); go_simp; try with_reducible rfl
            try simp only [Act.put, List.setIfInBounds_toArray, List.set_cons_zero, List.set_cons_succ]
            refine wpAnyH_take (i := 2) (oi := ⟨(some 57), _, _, _, _, _⟩) (v := ?va2) rfl (by kernel_rfl) (by kernel_rfl) (by kernel_rfl) (fun _ _ _ h => h) (Or.inl ⟨by rfl, ?ya2⟩) hHeld ?_
            case ya2 => intro W hW; (try dsimp only at hW); go_simp; try with_reducible rfl
            try simp only [Act.put, List.setIfInBounds_toArray, List.set_cons_zero, List.set_cons_succ]
            refine wpAnyH_take (i := 3) (oi := ⟨(some 58), _, _, _, _, _⟩) (v := ?va3) rfl (by kernel_rfl) (by kernel_rfl) (by kernel_rfl) (fun _ _ _ h => h) (Or.inl ⟨by rfl, ?ya3⟩) hHeld ?_
            case ya3 => intro W hW; (try dsimp only at hW); go_simp; try with_reducible rfl
            try simp only [Act.put, List.setIfInBounds_toArray, List.set_cons_zero, List.set_cons_succ]
            refine wpAnyH_take (i := 4) (oi := ⟨(some 59), _, _, _, _, _⟩) (v := ?va4) rfl (by kernel_rfl) (by kernel_rfl) (by kernel_rfl) (fun _ _ _ h => h) (Or.inl ⟨by rfl, ?ya4⟩) hHeld ?_
            case ya4 => intro W hW; (try dsimp only at hW); go_simp; try with_reducible rfl
            try simp only [Act.put, List.setIfInBounds_toArray, List.set_cons_zero, List.set_cons_succ]
            refine wpAnyH_take (i := 5) (oi := ⟨(some 60), _, _, _, _, _⟩) (v := ?va5) rfl (by kernel_rfl) (by kernel_rfl) (by kernel_rfl) (fun _ _ _ h => h) (Or.inl ⟨by rfl, ?ya5⟩) hHeld ?_
            case ya5 => intro W hW; (try dsimp only at hW); go_simp; try with_reducible rfl
            try simp only [Act.put, List.setIfInBounds_toArray, List.set_cons_zero, List.set_cons_succ]
            refine wpAnyH_take (i := 7) (oi := ⟨(some 62), _, _, _, _, _⟩) (v := ?va7) rfl (by kernel_rfl) (by kernel_rfl) (by kernel_rfl) (fun _ _ _ h => h) (Or.inl ⟨by rfl, ?ya7⟩) hHeld ?_
            case ya7 => intro W hW; (try dsimp only at hW); go_simp; try with_reducible rfl
            try simp only [Act.put, List.setIfInBounds_toArray, List.set_cons_zero, List.set_cons_succ]
            refine wpAnyH_take (i := 8) (oi := ⟨(some 63), _, _, _, _, _⟩) (v := ?va8) rfl (by kernel_rfl) (by kernel_rfl) (by kernel_rfl) (fun _ _ _ h => h) (Or.inl ⟨by rfl, ?ya8⟩) hHeld ?_
            case ya8 => intro W hW; (try dsimp only at hW); go_simp; try with_reducible rfl
            try simp only [Act.put, List.setIfInBounds_toArray, List.set_cons_zero, List.set_cons_succ]
            refine wpAnyH_take (i := 9) (oi := ⟨(some 64), _, _, _, _, _⟩) (v := ?va9) rfl (by kernel_rfl) (by kernel_rfl) (by kernel_rfl) (fun _ _ _ h => h) (Or.inl ⟨by rfl, ?ya9⟩) hHeld ?_
            case ya9 => intro W hW; (try dsimp only at hW); go_simp; try with_reducible rfl
            try simp only [Act.put, List.setIfInBounds_toArray, List.set_cons_zero, List.set_cons_succ]
            refine wpAnyH_take (i := 10) (oi := ⟨(some 65), _, _, _, _, _⟩) (v := ?va10) rfl (by kernel_rfl) (by kernel_rfl) (by kernel_rfl) (fun _ _ _ h => h) (Or.inl ⟨by rfl, ?ya10⟩) hHeld ?_
            case ya10 => intro W hW; (try dsimp only at hW); go_simp; try with_reducible rfl
            try simp only [Act.put, List.setIfInBounds_toArray, List.set_cons_zero, List.set_cons_succ]
            refine wpAnyH_take (i := 11) (oi := ⟨(some 66), _, _, _, _, _⟩) (v := ?va11) rfl (by kernel_rfl) (by kernel_rfl) (by kernel_rfl) (fun _ _ _ h => h) (Or.inl ⟨by rfl, ?ya11⟩) hHeld ?_
            case ya11 => intro W hW; (try dsimp only at hW); go_simp; try with_reducible rfl
            try simp only [Act.put, List.setIfInBounds_toArray, List.set_cons_zero, List.set_cons_succ]
            refine wpAnyH_take (i := 12) (oi := ⟨(some 67), _, _, _, _, _⟩) (v := ?va12) rfl (by kernel_rfl) (by kernel_rfl) (by kernel_rfl) (fun _ _ _ h => h) (Or.inl ⟨by rfl, ?ya12⟩) hHeld ?_
            case ya12 => intro W hW; (try dsimp only at hW); go_simp; try with_reducible rfl
            try simp only [Act.put, List.setIfInBounds_toArray, List.set_cons_zero, List.set_cons_succ]
            refine wpAnyH_ready (rs := [6]) (by kernel_rfl) (by simp) ?_
            refine AllReadyH.cons (o := ⟨some 61, _, _, _, _, _⟩) rfl (fun K hK => ?_) AllReadyH.nil
            go_simp
            go_at_call 24
            refine (cA m _ qd).mono ?_
            rintro _ w7 ⟨rfl, qA⟩
            have z0 : w7.cell? ⟨gb, 0, none⟩ = some (.int .i64 x.now) := (Sat.front [_, _] qA).cell 0 rfl
            have z1 : w7.cell? ⟨gb, 1, none⟩ = some (.int .i64 x.stamp) := (Sat.front [_, _] qA).cell 1 rfl
            refine hK.out _ _ ⟨z0, z1⟩ (fun hHeld => ?_)
            clear hK K
            try simp only [Act.put, List.setIfInBounds_toArray, List.set_cons_zero, List.set_cons_succ]
            refine wpAnyH_ready (rs := [13]) (by kernel_rfl) (by simp) ?_
            refine AllReadyH.cons (o := ⟨some 68, _, _, _, _, _⟩) rfl (fun K hK => ?_) AllReadyH.nil
            go_simp
            go_at_call 25
            refine (cB m' _ (Sat.swap qA)).mono ?_
            rintro _ w8 ⟨rfl, qAB⟩
            have y0 : w8.cell? ⟨gb, 0, none⟩ = some (.int .i64 x.now) := (Sat.front [_, _] qAB).cell 0 rfl
            have y1 : w8.cell? ⟨gb, 1, none⟩ = some (.int .i64 x.stamp) := (Sat.front [_, _] qAB).cell 1 rfl
            obtain ⟨a8, c8, g3, _⟩ := RFlt.len qAB
            refine hK.out _ _ ⟨y0, y1⟩ (fun hHeld => ?_)
            clear hK K
            try simp only [Act.put, List.setIfInBounds_toArray, List.set_cons_zero, List.set_cons_succ]
            refine wpAnyH_take (i := 14) (oi := ⟨(some 69), _, _, _, _, _⟩) (v := ?vb14) rfl (by kernel_rfl) (by kernel_rfl) (by kernel_rfl) (fun _ _ _ h => h) (Or.inl ⟨by rfl, ?yb14⟩) hHeld ?_
            case yb14 => intro W hW; (try dsimp only at hW); go_simp; try with_reducible rfl
            try simp only [Act.put, List.setIfInBounds_toArray, List.set_cons_zero, List.set_cons_succ]
            refine wpAnyH_take (i := 15) (oi := ⟨(some 70), _, _, _, _, _⟩) (v := ?vb15) rfl (by kernel_rfl) (by kernel_rfl) (by kernel_rfl) (fun _ _ _ h => h) (Or.inl ⟨by rfl, ?yb15⟩) hHeld ?_
            case yb15 => intro W hW; (try dsimp only at hW); go_simp; try with_reducible rfl
            try simp only [Act.put, List.setIfInBounds_toArray, List.set_cons_zero, List.set_cons_succ]
            refine wpAnyH_take (i := 16) (oi := ⟨(some 71), _, _, _, _, _⟩) (v := ?vb16) rfl (by kernel_rfl) (by kernel_rfl) (by kernel_rfl) (fun _ _ _ h => h) (Or.inl ⟨by rfl, ?yb16⟩) hHeld ?_
            case yb16 => intro W hW; (try dsimp only at hW); go_simp; try with_reducible rfl
            try simp only [Act.put, List.setIfInBounds_toArray, List.set_cons_zero, List.set_cons_succ]
            refine wpAnyH_take (i := 18) (oi := ⟨(some 73), _, _, _, _, _⟩) (v := ?vb18) rfl (by kernel_rfl) (by kernel_rfl) (by kernel_rfl) (fun _ _ _ h => h) (Or.inl ⟨by rfl, ?yb18⟩) hHeld ?_
            case yb18 => intro W hW; (try dsimp only at hW); go_simp; try with_reducible rfl
            try simp only [Act.put, List.setIfInBounds_toArray, List.set_cons_zero, List.set_cons_succ]
            refine wpAnyH_take (i := 19) (oi := ⟨(some 74), _, _, _, _, _⟩) (v := ?vb19) rfl (by kernel_rfl) (by kernel_rfl) (by kernel_rfl) (fun _ _ _ h => h) (Or.inl ⟨by rfl, ?yb19⟩) hHeld ?_
            case yb19 => intro W hW; (try dsimp only at hW); go_simp; try with_reducible rfl
            try simp only [Act.put, List.setIfInBounds_toArray, List.set_cons_zero, List.set_cons_succ]
            refine wpAnyH_take (i := 20) (oi := ⟨(some 75), _, _, _, _, _⟩) (v := ?vb20) rfl (by kernel_rfl) (by kernel_rfl) (by kernel_rfl) (fun _ _ _ h => h) (Or.inl ⟨by rfl, ?yb20⟩) hHeld ?_
            case yb20 => intro W hW; (try dsimp only at hW); go_simp; try with_reducible rfl
            try simp only [Act.put, List.setIfInBounds_toArray, List.set_cons_zero, List.set_cons_succ]
            refine wpAnyH_ready (rs := [17, 21]) (by kernel_rfl) (by simp) ?_
            refine AllReadyH.cons (o := ⟨some 72, _, _, _, _, _⟩) rfl (fun K hK => ?_) (AllReadyH.cons (o := ⟨some 76, _, _, _, _, _⟩) rfl (fun K hK => ?_) AllReadyH.nil)
            · go_simp
              go_at_call 26
              refine (rep_Len (Sat.swap qAB)).mono ?_
              rintro _ _ ⟨rfl, rfl⟩
              refine hK.out _ _ ⟨y0, y1⟩ (fun hHeld => ?_)
              clear hK K
              try simp only [Act.put, List.setIfInBounds_toArray, List.set_cons_zero, List.set_cons_succ]
              refine wpAnyH_ready (rs := [21]) (by kernel_rfl) (by simp) ?_
              refine AllReadyH.cons (o := ⟨some 76, _, _, _, _, _⟩) rfl (fun K hK => ?_) AllReadyH.nil
              go_simp
              refine hK.out _ _ ⟨y0, y1⟩ (fun hHeld => ?_)
              clear hK K
              try simp only [Act.put, List.setIfInBounds_toArray, List.set_cons_zero, List.set_cons_succ]
              refine wpAnyH_take (i := 22) (oi := ⟨(some 77), _, _, _, _, _⟩) (v := ?vc22) rfl (by kernel_rfl) (by kernel_rfl) (by kernel_rfl) (fun _ _ _ h => h) (Or.inl ⟨by rfl, ?yc22⟩) hHeld ?_
              case yc22 => intro W hW; (try dsimp only at hW); go_simp; try with_reducible rfl
              try simp only [Act.put, List.setIfInBounds_toArray, List.set_cons_zero, List.set_cons_succ]
              refine wpAnyH_take (i := 23) (oi := ⟨(some 78), _, _, _, _, _⟩) (v := ?vc23) rfl (by kernel_rfl) (by kernel_rfl) (by kernel_rfl) (fun _ _ _ h => h) (Or.inl ⟨by rfl, ?yc23⟩) hHeld ?_
              case yc23 => intro W hW; (try dsimp only at hW); go_simp; try with_reducible rfl
              try simp only [Act.put, List.setIfInBounds_toArray, List.set_cons_zero, List.set_cons_succ]
              refine wpAnyH_take (i := 24) (oi := ⟨(some 79), _, _, _, _, _⟩) (v := ?vc24) rfl (by kernel_rfl) (by kernel_rfl) (by kernel_rfl) (fun _ _ _ h => h) (Or.inl ⟨by rfl, ?yc24⟩) hHeld ?_
              case yc24 => intro W hW; (try dsimp only at hW); go_simp; try with_reducible rfl
              try simp only [Act.put, List.setIfInBounds_toArray, List.set_cons_zero, List.set_cons_succ]
              refine wpAnyH_done (by kernel_rfl) ?_ _
              go_wp2_with fail
              go_meet
              exact ⟨rfl, Sat.re [0, 1] [_, _] (Sat.re [2, 3, 0, 1] [_, _, _, _] qAB).drop.drop⟩
            · go_simp
              refine hK.out _ _ ⟨y0, y1⟩ (fun hHeld => ?_)
              clear hK K
              try simp only [Act.put, List.setIfInBounds_toArray, List.set_cons_zero, List.set_cons_succ]
              refine wpAnyH_take (i := 22) (oi := ⟨(some 77), _, _, _, _, _⟩) (v := ?vd22) rfl (by kernel_rfl) (by kernel_rfl) (by kernel_rfl) (fun _ _ _ h => h) (Or.inl ⟨by rfl, ?yd22⟩) hHeld ?_
              case yd22 => intro W hW; (try dsimp only at hW); go_simp; try with_reducible rfl
              try simp only [Act.put, List.setIfInBounds_toArray, List.set_cons_zero, List.set_cons_succ]
              refine wpAnyH_ready (rs := [17]) (by kernel_rfl) (by simp) ?_
              refine AllReadyH.cons (o := ⟨some 72, _, _, _, _, _⟩) rfl (fun K hK => ?_) AllReadyH.nil
              go_simp
              go_at_call 26
              refine (rep_Len (Sat.swap qAB)).mono ?_
              rintro _ _ ⟨rfl, rfl⟩
              refine hK.out _ _ ⟨y0, y1⟩ (fun hHeld => ?_)
              clear hK K
              try simp only [Act.put, List.setIfInBounds_toArray, List.set_cons_zero, List.set_cons_succ]
              refine wpAnyH_take (i := 23) (oi := ⟨(some 78), _, _, _, _, _⟩) (v := ?ve23) rfl (by kernel_rfl) (by kernel_rfl) (by kernel_rfl) (fun _ _ _ h => h) (Or.inl ⟨by rfl, ?ye23⟩) hHeld ?_
              case ye23 => intro W hW; (try dsimp only at hW); go_simp; try with_reducible rfl
              try simp only [Act.put, List.setIfInBounds_toArray, List.set_cons_zero, List.set_cons_succ]
              refine wpAnyH_take (i := 24) (oi := ⟨(some 79), _, _, _, _, _⟩) (v := ?ve24) rfl (by kernel_rfl) (by kernel_rfl) (by kernel_rfl) (fun _ _ _ h => h) (Or.inl ⟨by rfl, ?ye24⟩) hHeld ?_
              case ye24 => intro W hW; (try dsimp only at hW); go_simp; try with_reducible rfl
              try simp only [Act.put, List.setIfInBounds_toArray, List.set_cons_zero, List.set_cons_succ]
              refine wpAnyH_done (by kernel_rfl) ?_ _
              go_wp2_with fail
              go_meet
              exact ⟨rfl, Sat.re [0, 1] [_, _] (Sat.re [2, 3, 0, 1] [_, _, _, _] qAB).drop.drop⟩
          obtain ⟨rfl, q7⟩ := hcut
          go_wp2_with fail
          go_roundg (n - (i + 1))
          case measure => omega
          case rel => exact ⟨i + 1, m', by omega, by omega, by go_num, q7⟩
    · obtain rfl : i = n := by omega
      go_wp2_with fail
      refine (rep_awake q3).mono ?_
      rintro _ w5 ⟨rfl, q5⟩
      go_wp2_with fail
      go_ret
      exact ⟨rfl, q5.below⟩
end
end Go.Proofs.Ytipkcbphjgmgiaa
