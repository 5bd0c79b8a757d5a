/- The law ReplayOnce, walked. -/
import Derived.Test.YtipkcbphjgmgiaaRepO
namespace Go.Proofs.Ytipkcbphjgmgiaa
open Go Go.RowKit
set_option linter.unusedVariables false
set_option linter.unusedSimpArgs false

theorem SatX.keep2 {lk : Hp} {X : Nat → Prop} {A B : Assn} {M : List Assn} (h : SatX lk X (A :: B :: M)) : SatX lk X [A, B] := by
  obtain ⟨h1, hA, l1, h2, hB, l2, _⟩ := h
  exact ⟨h1, hA, l1, h2, hB, l2, trivial⟩
section
variable {w0 w : World} {L : List Assn}
theorem SeenS.more {b n : Nat} {K : List (List UInt8)} (h : Sat w0 w (SeenS b n K :: L)) : Sat w0 w (SeenS b (n + 1) K :: L) :=
  h.imp fun _ ⟨es, clock, hb, F, hs, hD⟩ => ⟨es, clock, hb, F, by omega, hD⟩
theorem keep2 {A B : Assn} {M : List Assn} (h : Sat w0 w (A :: B :: M)) : Sat w0 w [A, B] := ⟨h.1, SatX.keep2 h.2⟩
theorem rd3 {g : Nat} {S : Int} (h0 : 0 ≤ S ∧ S ≤ 2000) (h : Sat w0 w (Blk g (.cells #[.int .u8 (S % 256), .int .u8 (S / 256), .int .u8 (S / 65536)] 5 (0, 0)) :: L)) :
    RdB w (.slice (some ⟨g, 0, none⟩) 3 3) [UInt8.ofNat S.toNat, UInt8.ofNat (S.toNat / 256), UInt8.ofNat (S.toNat / 65536)] := by
  refine ⟨some ⟨g, 0, none⟩, 3, rfl, Nat.le_refl _, by unfold maxLen; omega, (fun e => nomatch e), fun _ => ⟨g, 0, rfl, h.lt, fun i hi => ?_⟩⟩
  have hi3 : i = 0 ∨ i = 1 ∨ i = 2 := by simp at hi; omega
  rcases hi3 with rfl | rfl | rfl
  · rw [h.cell 0 rfl]
    congr 2
    simp [UInt8.toNat_ofNat']
    omega
  · rw [h.cell 1 rfl]
    congr 2
    simp [UInt8.toNat_ofNat']
    omega
  · rw [h.cell 2 rfl]
    congr 2
    simp [UInt8.toNat_ofNat']
    omega
theorem wpList_app_b {ops : Array Oper} {rest : List Oper} {o : Oper} {a : Act} {Q : Exit → Act → World → Prop} (hgd : o.guard = none) (s x : Operand)
    (ho : o.op = .call { callee := .builtin .append, args := #[s, x], argTypes := #[45, 45] })
    {v vx : Value} {p q : List UInt8} (hv : a.eval s = v) (hs : Sat w0 w (OwnB 5 v p :: L)) (hx : a.eval x = vx) (hr : RdB w vx q) (r : List UInt8) (n : Nat) (hpq : p ++ q = r) (hn : r.length = n) (h63 : n ≤ 140737488355328)
    (h : ∀ a' c' w', Sat w0 w' (OwnB 5 (.slice a' n c') r :: L) → wpList Try.prog ops Q rest (a.put o.dst (.slice a' n c')) w') : wpList Try.prog ops Q (o :: rest) a w := by
  subst hn hpq
  obtain ⟨i0, hi0, hz0, hz1, hz2⟩ := infoB8
  rw [List.length_append] at h63
  refine wpList_append_sat (w0 := w0) (e := 5) (sz := 1) (n := p.length) (xs := bytesC p) hgd s x 45 45 ho Try.underlying45 hi0 hz0 hz1 hz2 rfl hv hs hx (RdB.src Try.underlying45 hr) (by simp only [maxLen]; omega) (by omega) ?_
  intro a' c' w' h2 _
  simp only [← bytesC_append, ← List.length_append] at h2 ⊢
  exact h a' c' w' h2
set_option maxRecDepth 100000 in
set_option maxHeartbeats 4000000 in
theorem replay_once_law (v0 v1 v2 : Value) (w : World) (h0 : IsIntR w v0) (h1 : IsIntR w v1) (h2 : IsRCalls w v2) :
    Calls Try.prog 9 #[v0, v1, v2] w fun e w' => e = .returned (.bool true) ∧ Below w.heap.size w w' := by
  obtain ⟨n0, rfl, _⟩ := h0
  obtain ⟨n1, rfl, _⟩ := h1
  obtain ⟨al, cl, l, rfl, hl⟩ := h2
  have hs := Sat.refl w
  obtain ⟨n, hn⟩ : ∃ n, l.length = n := ⟨_, rfl⟩
  have HN := hid_ hn
  rw [hn]
  clear hn
  have b0 := um_bd n0 (m := 20) (by omega) (by omega)
  obtain ⟨Wd, hWd⟩ := Int.eq_ofNat_of_zero_le b0.1
  rw [hWd] at b0
  go_enter Try.func9, Try.ntmps9
  go_wp2_with fail
  refine (rep_New _ n1 0 hs).mono ?_
  rintro _ w1 ⟨f0, rfl, q1⟩
  have hmk : (Instr.makeMap 53 none).run Try.prog w1 = .ok (.map (some w1.heap.size)) (w1.alloc (.map #[] 0)) := by kernel_rfl
  have q2 := SeenS.new q1
  have t0 := Took.new (window := (Wd : Int)) (most := n1) (by omega) (by omega)
  go_wp2_with fail
  generalize w1.heap.size = bm at *
  go_loopg [7, 8, 26] n (fun gg v7 v8 v26 wr => ∃ (i f N : Nat) (m : FltM) (T : List MsgM), i ≤ n ∧ i ≤ 80 ∧ n - i ≤ gg ∧ v26 = .int .i64 i ∧ v7 = .int .i64 N ∧ v8 = .pointer (some ⟨f, 0, none⟩) ∧ N ≤ 5 * i ∧ Took Wd N m T ∧ Sat w wr [Flt f m, SeenS bm i (T.map kb)])
  case atStart => exact ⟨0, f0, 0, _, [], by omega, by omega, by omega, rfl, rfl, rfl, by omega, t0, q2.swap⟩
  case round =>
    obtain ⟨i, f, N, m, T, hi, hi8, hgg, rfl, rfl, rfl, hN, ht, q3⟩ := hrel
    clear q2 q1 t0 hmk
    by_cases hlt : i < n
    · obtain ⟨x, hx⟩ : ∃ x, l[i]? = some x := ⟨_, List.getElem?_eq_getElem (by rw [HN.out]; exact hlt)⟩
      obtain ⟨b, o, rfl, hb, hc, hrd⟩ := hl.2.2 i x hx
      have hcell : ∀ j u, (rcallC x)[j]? = some u → wr.cell? ⟨b, o + i * 4 + j, none⟩ = some u := fun j u hj => (q3.below.cell (p := ⟨b, o + i * 4 + j, none⟩) hb).trans (hc j u hj)
      have p0 : wr.cell? ⟨b, o + i * 4, none⟩ = some (.int .i64 x.now) := hcell 0 _ rfl
      have p1 : wr.cell? ⟨b, o + i * 4 + 1, none⟩ = some (.int .i64 x.stamp) := hcell 1 _ rfl
      have p2 : wr.cell? ⟨b, o + i * 4 + 2, none⟩ = some (.slice x.x x.e.length x.c) := hcell 2 _ rfl
      have p3 : wr.cell? ⟨b, o + i * 4 + 3, none⟩ = some (.bool x.odd) := hcell 3 _ rfl
      have q4 := q3.alloc (.cells #[.int .i64 x.now, .int .i64 x.stamp, .slice x.x x.e.length x.c, .bool x.odd] 47 (0, 0))
      clear hcell hc hx
      go_upto_region 8 with fail
      obtain ⟨gb, hgb⟩ : ∃ gb, wr.heap.size = gb := ⟨_, rfl⟩
      rw [hgb] at q4
      generalize wr.alloc (.cells #[.int .i64 x.now, .int .i64 x.stamp, .slice x.x x.e.length x.c, .bool x.odd] 47 (0, 0)) = w4 at *
      rw [hgb]
      clear hgb p0 p1 p2 p3 q3
      have p0 : w4.cell? ⟨gb, 0, none⟩ = some (.int .i64 x.now) := q4.cell 0 rfl
      have p1 : w4.cell? ⟨gb, 1, none⟩ = some (.int .i64 x.stamp) := q4.cell 1 rfl
      have p2 : w4.cell? ⟨gb, 2, none⟩ = some (.slice x.x x.e.length x.c) := q4.cell 2 rfl
      have p3 : w4.cell? ⟨gb, 3, none⟩ = some (.bool x.odd) := q4.cell 3 rfl
      by_cases h80 : 80 ≤ i
      · have d80 : decide ((80 : Int) ≤ (i : Int)) = true := decide_eq_true (by omega)
        go_wp2_with fail
        refine (rep_awake q4).mono ?_
        rintro _ w5 ⟨rfl, q5⟩
        go_wp2_with fail
        go_ret
        exact ⟨rfl, q5.below⟩
      · have d80 : decide ((80 : Int) ≤ (i : Int)) = false := decide_eq_false (by omega)
        by_cases h50 : 50 < x.e.length
        · have d50 : decide ((50 : Int) < (x.e.length : Int)) = true := decide_eq_true (by omega)
          go_wp2_with fail
          refine (rep_awake q4).mono ?_
          rintro _ w5 ⟨rfl, q5⟩
          go_wp2_with fail
          go_ret
          exact ⟨rfl, q5.below⟩
        · have d50 : decide ((50 : Int) < (x.e.length : Int)) = false := decide_eq_false (by omega)
          have bd := um_bd x.now (m := 6) (by omega) (by omega)
          obtain ⟨d, hd⟩ := Int.eq_ofNat_of_zero_le bd.1
          rw [hd] at bd
          have bq := um_bd x.stamp (m := 50) (by omega) (by omega)
          obtain ⟨q, hq⟩ := Int.eq_ofNat_of_zero_le bq.1
          rw [hq] at bq
          obtain ⟨N2, hN2⟩ : ∃ N2, N + d = N2 := ⟨_, rfl⟩
          have e2 : (N : Int) + (d : Int) = (N2 : Int) := by omega
          have hN5 : N2 ≤ 5 * (i + 1) := by omega
          have ht := ht.time (now' := (N2 : Int)) (by omega)
          cases hodd : x.odd
          · rw [hodd] at p3
            obtain ⟨S, eS⟩ : ∃ S, (N2 : Int) + (q : Int) - 25 = S := ⟨_, rfl⟩
            have hSb : -25 ≤ S ∧ S ≤ 500 := by omega
            go_wp2_with fail
            refine (rep_Key (RdB.later hrd q4) q4).mono ?_
            rintro _ w5 ⟨a5, c5, rfl, q5⟩
            have p0 : w5.cell? ⟨gb, 0, none⟩ = some (.int .i64 x.now) := (Sat.front [_] q5).cell 0 rfl
            have p2 : w5.cell? ⟨gb, 2, none⟩ = some (.slice x.x x.e.length x.c) := (Sat.front [_] q5).cell 2 rfl
            have q6 : Sat w w5 [Flt f m, OwnB 5 (.slice a5 32 c5) (keyL x.e), Blk gb (.cells #[.int .i64 x.now, .int .i64 x.stamp, .slice x.x x.e.length x.c, .bool x.odd] 47 (0, 0)), SeenS bm i (T.map kb)] := Sat.re [2, 0, 1, 3] [_, _, _, _] q5
            have hT := ht.check (stamp := S) (keyL_len x.e)
            have hT' := fun (t : MsgM) (h : t ∈ T) => (show t.key.length = 32 ∧ 0 ≤ t.stamp ∧ t.stamp ≤ 2000 from by obtain ⟨a, b, c, _⟩ := ht.2 t h; exact ⟨c, b, by omega⟩)
            have hCk := hid_ (rep_Check (now := (N2 : Int)) (stamp := S) (v := .slice a5 32 c5) (e := keyL x.e) (fun W A h => OwnB.rd h.drop) q6)
            clear q4 q5
            go_wp2_with fail
            refine hCk.out.mono ?_
            rintro _ w7 ⟨rfl, q7⟩
            obtain ⟨E, hE⟩ : ∃ E, m.says (N2 : Int) S (keyL x.e) = E := ⟨_, rfl⟩
            obtain ⟨m', hm'⟩ : ∃ m', m.check (N2 : Int) S (keyL x.e) = m' := ⟨_, rfl⟩
            rw [hE, hm'] at hT
            rw [hm'] at q7
            by_cases hS : S < 0
            · have dS : decide (S < 0) = true := decide_eq_true hS
              have hE1 := says_neg (m := m) (now := (N2 : Int)) (e := keyL x.e) hS
              rw [hE1] at hE ⊢
              go_wp2_with fail
              go_roundg (n - (i + 1))
              case measure => omega
              case rel =>
                refine ⟨i + 1, f, N2, m', T, by omega, by omega, by omega, by go_num, by go_num, rfl, hN5, ?_, ?_⟩
                · rcases hT with hT | hT
                  · exfalso; have := hT.1; omega
                  · exact hT.2
                · exact keep2 (SeenS.more (Sat.front [_, _, _] q7)).swap
            · have dS : decide (S < 0) = false := decide_eq_false hS
              rw [hE]
              have hr7 := RdB.later hrd q7
              clear hE hm' hCk
              have p2 : w7.cell? ⟨gb, 2, none⟩ = some (.slice x.x x.e.length x.c) := (Sat.front [_, _] q7).cell 2 rfl
              go_wp2_with fail
              refine (rep_Key hr7 q7).mono ?_
              rintro _ w8 ⟨a8, c8, rfl, q8⟩
              have hSb2 : 0 ≤ S ∧ S ≤ 500 := by omega
              have q9 := q8.alloc (.cells #[.int .u8 (S % 256), .int .u8 (S / 256), .int .u8 (S / 65536)] 5 (0, 0))
              have r9 := rd3 ⟨hSb2.1, by omega⟩ q9
              obtain ⟨B, hB⟩ : ∃ B, kb ⟨keyL x.e, S⟩ = B := ⟨_, rfl⟩
              have hBl : B.length = 35 := by rw [← hB]; unfold kb; simp [keyL_len]
              have HBe := hid_ hB
              have hfr := hid_ (fun (t : MsgM) (ht : t ∈ T) (h : B = kb t) => kb_inj (keyL_len x.e) (hT' t ht).1 ⟨hSb2.1, by dsimp only; omega⟩ (hT' t ht).2 (hB.trans h))
              clear q8 hB
              go_wp2_with (at_builtin; refine wpList_app_b (w0 := w) (p := keyL x.e) rfl _ _ rfl rfl q9.swap rfl r9 B 35 HBe.out hBl (by omega) ?_)
              intro a10 c10 w10 h10
              rw [← hBl] at h10
              have kc : (convert 45 9 (.slice a10 35 c10)).run Try.prog w10 = .ok (.string (strOf B)) w10 := conv_rd (P := Try.prog) (dst := 9) Try.underlying45 Try.underlying5 Try.underlying9 (by rw [← hBl]; exact OwnB.rd h10)
              have h11 : Sat w w10 [SeenS bm i (T.map kb), Flt f m'] := keep2 (Sat.re [5, 2, 0, 1, 3, 4] [_, _, _, _, _, _] (L := []) h10)
              rcases hT with ⟨rfl, hnot, hb1, hb2, hb3, hTk⟩ | ⟨hE0, hTk⟩
              · have hnK : ¬ B ∈ T.map kb := fun h => by
                  obtain ⟨t, ht, e⟩ := List.mem_map.1 h
                  have := hfr.out t ht e.symm
                  exact hnot (this ▸ ht)
                have lk1 := SeenS.look h11 (s := B) (by unfold maxLen; omega)
                rw [if_neg hnK] at lk1
                obtain ⟨w12, hput, h12⟩ := SeenS.put h11 (by unfold maxLen; omega) (s := B) (by unfold maxLen; omega)
                have lk2 := SeenS.look h12 (s := B) (by unfold maxLen; omega)
                rw [if_pos List.mem_cons_self] at lk2
                have dq1 : decide (S < (N2 : Int) - (Wd : Int)) = false := decide_eq_false (by omega)
                have dq2 : decide ((N2 : Int) + (Wd : Int) < S) = false := decide_eq_false (by omega)
                clear hBl
                go_wp2_with fail
                go_roundg (n - (i + 1))
                case measure => omega
                case rel => exact ⟨i + 1, f, N2, m', ⟨keyL x.e, S⟩ :: T, by omega, by omega, by omega, by go_num, by go_num, rfl, hN5, hTk, by rw [List.map_cons, HBe.out]; exact h12.swap⟩
              · have dE : (E == 0) = false := by rw [beq_eq_false_iff_ne]; exact hE0
                clear hBl
                go_wp2_with fail
                go_roundg (n - (i + 1))
                case measure => omega
                case rel => exact ⟨i + 1, f, N2, m', T, by omega, by omega, by omega, by go_num, by go_num, rfl, hN5, hTk, (SeenS.more h11).swap⟩
          · rw [hodd] at p3
            have ht := ht.again (most := n1) (by omega) (by omega) (by omega) (by omega)
            go_wp2_with fail
            refine (rep_New _ n1 _ q4).mono ?_
            rintro _ w5 ⟨f', rfl, q5⟩
            go_wp2_with fail
            go_roundg (n - (i + 1))
            case measure => omega
            case rel => exact ⟨i + 1, f', N2, _, T, by omega, by omega, by omega, by go_num, by go_num, rfl, hN5, ht, keep2 (SeenS.more (Sat.front [_, _, _] q5)).swap⟩
    · obtain rfl : i = n := by omega
      go_wp2_with fail
      refine (rep_awake q3).mono ?_
      rintro _ w5 ⟨rfl, q5⟩
      go_wp2_with fail
      go_ret
      exact ⟨rfl, q5.below⟩
end
end Go.Proofs.Ytipkcbphjgmgiaa
