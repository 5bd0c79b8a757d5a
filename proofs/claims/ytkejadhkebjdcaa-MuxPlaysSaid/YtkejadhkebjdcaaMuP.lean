/- The law MuxPlays, walked (printed by gen_mup.py). -/
import Derived.Deep.DeepCutAuto
import Derived.Test.YtkejadhkebjdcaaMuL
import Derived.Test.YtkejadhkebjdcaaOpnM
import Derived.Test.YtkejadhkebjdcaaFrQ
namespace Go.Proofs.Ytkejadhkebjdcaa
open Go Go.RowKit Go.Maps
set_option linter.unusedVariables false
set_option linter.unusedSimpArgs false
theorem perm_foc (A B : Assn) (F1 F2 L : List Assn) : (B :: (F2 ++ (A :: (F1 ++ L)))).Perm (A :: B :: (L ++ (F1 ++ F2))) := by
  have h1 : (F2 ++ (A :: (F1 ++ L))).Perm (A :: (F2 ++ (F1 ++ L))) := List.perm_middle
  have h2 : (F2 ++ (F1 ++ L)).Perm (L ++ (F1 ++ F2)) := by
    refine List.perm_append_comm.trans ?_
    rw [List.append_assoc]
    have h3 : (F1 ++ (L ++ F2)).Perm (L ++ (F1 ++ F2)) := by
      rw [← List.append_assoc, ← List.append_assoc]
      exact List.Perm.append_right _ List.perm_append_comm
    exact h3
  exact ((h1.cons B).trans (List.Perm.swap _ _ _)).trans ((h2.cons B).cons A)
section
variable {w0 w : World} {L : List Assn}
theorem SatX.keep2m {lk : Hp} {X : Nat → Prop} {A B : Assn} {M : List Assn} (h : SatX lk X (A :: B :: M)) : SatX lk X [A, B] := by
  obtain ⟨h1, hA, l1, h2, hB, l2, _⟩ := h
  exact ⟨h1, hA, l1, h2, hB, l2, trivial⟩
theorem keep2m {A B : Assn} {M : List Assn} (h : Sat w0 w (A :: B :: M)) : Sat w0 w [A, B] := ⟨h.1, SatX.keep2m h.2⟩
/-- One stream out of both muxes, and back. -/
theorem both_foc {mp gp : Nat} {cr mo : Int} {a b : List (Nat × StM)} {i : Nat} {e : Nat × StM} {d : Nat} (he : a[i]? = some e) (hd : b[i]? = some (d, e.2)) (h : Sat w0 w (MxA mp cr mo a :: RMx gp cr mo b :: L)) :
    ∃ F : List Assn, Sat w0 w (StA e.1 e.2 :: RSt d e.2 :: (L ++ F)) ∧ ∀ (w' : World) (s : StM) (L' : List Assn), s.id = e.2.id → Sat w0 w' (StA e.1 s :: RSt d s :: (L' ++ F)) →
      Sat w0 w' (MxA mp cr mo (a.set i (e.1, s)) :: RMx gp cr mo (b.set i (d, s)) :: L') := by
  obtain ⟨F1, f1, b1⟩ := MxA.foc he h
  have f1' : Sat w0 w (RMx gp cr mo b :: (StA e.1 e.2 :: (F1 ++ L))) := Sat.front (StA e.1 e.2 :: F1) f1
  obtain ⟨F2, f2, b2⟩ := RMx.foc hd f1'
  refine ⟨F1 ++ F2, Sat.perm (perm_foc _ _ _ _ _) f2, fun w' s L' hs h2 => ?_⟩
  have h3 := b2 w' s (StA e.1 s :: (F1 ++ L')) (Sat.perm (perm_foc _ _ _ _ _).symm h2)
  exact b1 w' s _ hs (Sat.back (StA e.1 s :: F1) h3)
theorem eq_okm {cr mo : Int} {l r : List (Nat × StM)} (h : r.map (·.2) = l.map (·.2)) (hok : OkM cr mo l) : OkM cr mo r :=
  ⟨hok.cr1, hok.cr2, hok.mo1, hok.mo2, by rw [eq_len h]; exact hok.len, by rw [eq_ids h]; exact hok.rise⟩
theorem id_send' (s : StM) (b : List UInt8) : (s.send b).id = s.id := by unfold StM.send; split <;> rfl
theorem id_fin' (s : StM) : s.fin.id = s.id := by unfold StM.fin; split <;> rfl
theorem id_breakS' (s : StM) (k : Int) : (s.breakS k).id = s.id := by unfold StM.breakS; split <;> rfl
theorem id_got' (s : StM) (f : FrM) : (s.got f).id = s.id := by
  unfold StM.got StM.heard
  repeat' split
  all_goals rfl
set_option maxRecDepth 100000 in
set_option maxHeartbeats 16000000 in
theorem mux_plays_law (v0 v1 v2 v3 : Value) (w : World) (h0 : IsInt w v0) (h1 : IsInt w v1) (h2 : IsCalls w v2) (h3 : IsInt w v3) :
    Calls Try.prog 7 #[v0, v1, v2, v3] w fun e w' => e = .returned (.bool true) ∧ Below w.heap.size w w' := by
  obtain ⟨cr0, rfl, _⟩ := h0
  obtain ⟨mo0, rfl, _⟩ := h1
  obtain ⟨al, cl, l, rfl, hl⟩ := h2
  obtain ⟨few0, rfl, _⟩ := h3
  have hs := Sat.refl w
  have hbd := um_bd few0 (m := 10) (by omega) (by omega)
  obtain ⟨few, hfw⟩ := Int.eq_ofNat_of_zero_le hbd.1
  rw [hfw] at hbd
  have hfew : few ≤ 9 := by omega
  clear hbd
  obtain ⟨n, hn⟩ : ∃ n, l.length = n := ⟨_, rfl⟩
  have HN := hid_ hn
  rw [hn]
  clear hn
  go_enter Try.func7, Try.ntmps7
  go_wp2_with fail
  refine (mux_New cr0 mo0 hs).mono ?_
  rintro _ w1 ⟨mp, rfl, q1⟩
  have HR := hid_ (rm_New cr0 mo0 q1)
  go_wp2_with fail
  refine HR.out.mono ?_
  rintro _ w2 ⟨gp, rfl, q2⟩
  clear HR q1
  obtain ⟨cr, hcr⟩ : ∃ c, max (1 : Int) (min cr0 65536) = c := ⟨_, rfl⟩
  obtain ⟨mo, hmo⟩ : ∃ c, max (1 : Int) (min mo0 64) = c := ⟨_, rfl⟩
  rw [hcr, hmo] at q2
  clear hcr hmo
  have q2 := q2.swap
  go_wp2_with fail
  rw [hfw]
  clear hfw
  go_loopg [36] n (fun gg v36 wr => ∃ (i : Nat) (a b : List (Nat × StM)), i ≤ n ∧ n - i ≤ gg ∧ v36 = .int .i64 i ∧ Hid (b.map (·.2) = a.map (·.2)) ∧ Sat w wr [MxA mp cr mo a, RMx gp cr mo b])
  case atStart => exact ⟨0, [], [], by omega, by omega, rfl, hid_ rfl, q2⟩
  case round =>
    obtain ⟨i, a, b, hi, hgg, rfl, HS, q3⟩ := hrel
    clear q2
    by_cases hlt : i < n
    · obtain ⟨s, hx⟩ : ∃ s, l[i]? = some s := ⟨_, List.getElem?_eq_getElem (by rw [HN.out]; exact hlt)⟩
      obtain ⟨bb, o, rfl, hb, hc, hrd⟩ := hl.2.2 i s hx
      have hcell : ∀ j u, (callX s)[j]? = some u → wr.cell? ⟨bb, o + i * 12 + j, none⟩ = some u := fun j u hj => (q3.below.cell (p := ⟨bb, o + i * 12 + j, none⟩) hb).trans (hc j u hj)
      have p0 : wr.cell? ⟨bb, o + i * 12, none⟩ = some (.int .i64 s.m.kind) := hcell 0 _ rfl
      have p1 : wr.cell? ⟨bb, o + i * 12 + 1, none⟩ = some (.int .i64 s.m.n) := hcell 1 _ rfl
      have p2 : wr.cell? ⟨bb, o + i * 12 + 2, none⟩ = some (.slice s.y s.m.b.length s.e) := hcell 2 _ rfl
      have p3 : wr.cell? ⟨bb, o + i * 12 + 3, none⟩ = some (.int .i64 s.m.f.kind) := hcell 3 _ rfl
      have p4 : wr.cell? ⟨bb, o + i * 12 + 4, none⟩ = some (.int .i64 s.m.f.stream) := hcell 4 _ rfl
      have p5 : wr.cell? ⟨bb, o + i * 12 + 5, none⟩ = some (.int .i64 s.m.f.code) := hcell 5 _ rfl
      have p6 : wr.cell? ⟨bb, o + i * 12 + 6, none⟩ = some (.int .i64 s.m.f.n) := hcell 6 _ rfl
      have p7 : wr.cell? ⟨bb, o + i * 12 + 7, none⟩ = some (.int .i64 s.m.f.addr.kind) := hcell 7 _ rfl
      have p8 : wr.cell? ⟨bb, o + i * 12 + 8, none⟩ = some (.slice s.x s.m.f.addr.ip.length s.c) := hcell 8 _ rfl
      have p9 : wr.cell? ⟨bb, o + i * 12 + 9, none⟩ = some (.string s.m.f.addr.name) := hcell 9 _ rfl
      have p10 : wr.cell? ⟨bb, o + i * 12 + 10, none⟩ = some (.int .i64 s.m.f.addr.port) := hcell 10 _ rfl
      have p11 : wr.cell? ⟨bb, o + i * 12 + 11, none⟩ = some (.slice s.z s.m.f.data.length s.k) := hcell 11 _ rfl
      have q4 := q3.alloc (.cells #[.int .i64 s.m.kind, .int .i64 s.m.n, .slice s.y s.m.b.length s.e, .int .i64 s.m.f.kind, .int .i64 s.m.f.stream, .int .i64 s.m.f.code, .int .i64 s.m.f.n, .int .i64 s.m.f.addr.kind, .slice s.x s.m.f.addr.ip.length s.c, .string s.m.f.addr.name, .int .i64 s.m.f.addr.port, .slice s.z s.m.f.data.length s.k] 55 (0, 0))
      clear hcell hc hx
      go_upto_region 8 with fail
      obtain ⟨gb, hgb⟩ : ∃ gb, wr.heap.size = gb := ⟨_, rfl⟩
      rw [hgb] at q4
      generalize wr.alloc (.cells #[.int .i64 s.m.kind, .int .i64 s.m.n, .slice s.y s.m.b.length s.e, .int .i64 s.m.f.kind, .int .i64 s.m.f.stream, .int .i64 s.m.f.code, .int .i64 s.m.f.n, .int .i64 s.m.f.addr.kind, .slice s.x s.m.f.addr.ip.length s.c, .string s.m.f.addr.name, .int .i64 s.m.f.addr.port, .slice s.z s.m.f.data.length s.k] 55 (0, 0)) = w4 at *
      rw [hgb]
      clear hgb q3 p0 p1 p2 p3 p4 p5 p6 p7 p8 p9 p10 p11
      have p0 : w4.cell? ⟨gb, 0, none⟩ = some (.int .i64 s.m.kind) := q4.cell 0 rfl
      have p1 : w4.cell? ⟨gb, 1, none⟩ = some (.int .i64 s.m.n) := q4.cell 1 rfl
      have p2 : w4.cell? ⟨gb, 2, none⟩ = some (.slice s.y s.m.b.length s.e) := q4.cell 2 rfl
      have p3 : w4.cell? ⟨gb, 3, none⟩ = some (.int .i64 s.m.f.kind) := q4.cell 3 rfl
      have p4 : w4.cell? ⟨gb, 4, none⟩ = some (.int .i64 s.m.f.stream) := q4.cell 4 rfl
      have p5 : w4.cell? ⟨gb, 5, none⟩ = some (.int .i64 s.m.f.code) := q4.cell 5 rfl
      have p6 : w4.cell? ⟨gb, 6, none⟩ = some (.int .i64 s.m.f.n) := q4.cell 6 rfl
      have p7 : w4.cell? ⟨gb, 7, none⟩ = some (.int .i64 s.m.f.addr.kind) := q4.cell 7 rfl
      have p8 : w4.cell? ⟨gb, 8, none⟩ = some (.slice s.x s.m.f.addr.ip.length s.c) := q4.cell 8 rfl
      have p9 : w4.cell? ⟨gb, 9, none⟩ = some (.string s.m.f.addr.name) := q4.cell 9 rfl
      have p10 : w4.cell? ⟨gb, 10, none⟩ = some (.int .i64 s.m.f.addr.port) := q4.cell 10 rfl
      have p11 : w4.cell? ⟨gb, 11, none⟩ = some (.slice s.z s.m.f.data.length s.k) := q4.cell 11 rfl
      by_cases h60 : 60 ≤ i
      · have d60 : decide ((60 : Int) ≤ (i : Int)) = true := decide_eq_true (by omega)
        go_wp2_with fail
        refine (mx_awake q4).mono ?_
        rintro _ w5 ⟨rfl, q5⟩
        go_wp2_with fail
        go_ret
        exact ⟨rfl, q5.below⟩
      have d60 : decide ((60 : Int) ≤ (i : Int)) = false := decide_eq_false (by omega)
      by_cases h61 : 2000 < s.m.b.length
      · have d61 : decide ((2000 : Int) < (s.m.b.length : Int)) = true := decide_eq_true (by omega)
        go_wp2_with fail
        refine (mx_awake q4).mono ?_
        rintro _ w5 ⟨rfl, q5⟩
        go_wp2_with fail
        go_ret
        exact ⟨rfl, q5.below⟩
      have d61 : decide ((2000 : Int) < (s.m.b.length : Int)) = false := decide_eq_false (by omega)
      by_cases h62 : 3000 < s.m.f.data.length
      · have d62 : decide ((3000 : Int) < (s.m.f.data.length : Int)) = true := decide_eq_true (by omega)
        go_wp2_with fail
        refine (mx_awake q4).mono ?_
        rintro _ w5 ⟨rfl, q5⟩
        go_wp2_with fail
        go_ret
        exact ⟨rfl, q5.below⟩
      have d62 : decide ((3000 : Int) < (s.m.f.data.length : Int)) = false := decide_eq_false (by omega)
      obtain ⟨t63, h63⟩ : ∃ t, decide ((200 : Int) < wrap64 ((s.m.f.addr.ip.length : Int) + (s.m.f.addr.name.size : Int))) = t := ⟨_, rfl⟩
      cases t63
      case true =>
        go_wp2_with fail
        refine (mx_awake q4).mono ?_
        rintro _ w5 ⟨rfl, q5⟩
        go_wp2_with fail
        go_ret
        exact ⟨rfl, q5.below⟩
      have hi60 : i < 60 := by omega
      clear h60 h61 h62
      have q6 : Sat w w4 [MxA mp cr mo a, RMx gp cr mo b, Blk gb (.cells #[.int .i64 s.m.kind, .int .i64 s.m.n, .slice s.y s.m.b.length s.e, .int .i64 s.m.f.kind, .int .i64 s.m.f.stream, .int .i64 s.m.f.code, .int .i64 s.m.f.n, .int .i64 s.m.f.addr.kind, .slice s.x s.m.f.addr.ip.length s.c, .string s.m.f.addr.name, .int .i64 s.m.f.addr.port, .slice s.z s.m.f.data.length s.k] 55 (0, 0))] := Sat.re [1, 2, 0] [_, _, _] (L := []) q4
      have hok := MxA.ok q6
      have h64 : a.length ≤ 64 := by have := hok.len; have := hok.mo2; omega
      have h64b : b.length ≤ 64 := by rw [eq_len HS.out]; exact h64
      have hwf := hid_ hrd.nw
      have hrb := hid_ hrd.b
      have hrf := hid_ hrd.f
      have HOK := hid_ hok
      have HOKB := hid_ (eq_okm HS.out hok)
      have HG1 := fun j => mux_Get s.m.n hrd.nw (q6.drewN j)
      have HG2 := fun j => rm_Get s.m.n (q6.drewN j).swap
      clear q4 hok hrd hb
      cases hg : getM a s.m.n with
      | none =>
        have hg2 : getM b s.m.n = none := by
          have h5 := eq_isSome HS.out s.m.n
          rw [hg] at h5
          cases h6 : getM b s.m.n with
          | none => rfl
          | some x => rw [h6] at h5; cases h5
        rw [hg] at HG1
        rw [hg2] at HG2
        clear hg hg2
        go_wp2_with fail
        go_quiet ((first | (go_at_call 15; exact quiet_same (HG1 _)) | (go_at_call 27; exact quiet_same (HG2 _))))
        obtain ⟨w5, hw5⟩ : ∃ w5, w4.drewN nq = w5 := ⟨_, rfl⟩
        have q7 := q6.drewN nq
        rw [hw5] at q7 ⊢
        clear HG1 HG2 hw5 q6 p0 p1 p2 p3 p4 p5 p6 p7 p8 p9 p10 p11
        have p0 : w5.cell? ⟨gb, 0, none⟩ = some (.int .i64 s.m.kind) := (Sat.front [_, _] q7).cell 0 rfl
        have p1 : w5.cell? ⟨gb, 1, none⟩ = some (.int .i64 s.m.n) := (Sat.front [_, _] q7).cell 1 rfl
        have p2 : w5.cell? ⟨gb, 2, none⟩ = some (.slice s.y s.m.b.length s.e) := (Sat.front [_, _] q7).cell 2 rfl
        have p3 : w5.cell? ⟨gb, 3, none⟩ = some (.int .i64 s.m.f.kind) := (Sat.front [_, _] q7).cell 3 rfl
        have p4 : w5.cell? ⟨gb, 4, none⟩ = some (.int .i64 s.m.f.stream) := (Sat.front [_, _] q7).cell 4 rfl
        have p5 : w5.cell? ⟨gb, 5, none⟩ = some (.int .i64 s.m.f.code) := (Sat.front [_, _] q7).cell 5 rfl
        have p6 : w5.cell? ⟨gb, 6, none⟩ = some (.int .i64 s.m.f.n) := (Sat.front [_, _] q7).cell 6 rfl
        have p7 : w5.cell? ⟨gb, 7, none⟩ = some (.int .i64 s.m.f.addr.kind) := (Sat.front [_, _] q7).cell 7 rfl
        have p8 : w5.cell? ⟨gb, 8, none⟩ = some (.slice s.x s.m.f.addr.ip.length s.c) := (Sat.front [_, _] q7).cell 8 rfl
        have p9 : w5.cell? ⟨gb, 9, none⟩ = some (.string s.m.f.addr.name) := (Sat.front [_, _] q7).cell 9 rfl
        have p10 : w5.cell? ⟨gb, 10, none⟩ = some (.int .i64 s.m.f.addr.port) := (Sat.front [_, _] q7).cell 10 rfl
        have p11 : w5.cell? ⟨gb, 11, none⟩ = some (.slice s.z s.m.f.data.length s.k) := (Sat.front [_, _] q7).cell 11 rfl
        by_cases k0 : s.m.kind = 0
        · as_aux_lemma =>
          have e0 : (s.m.kind == 0) = true := by simp [k0]
          have d0 : (openB mo a s.m.n == openB mo a s.m.n) = true := beq_self_eq_true _
          have HO := fun (gA : Nat) (W : World) (h : Sat w W [RMx gp cr mo b, MxA mp cr mo (openM cr mo a s.m.n gA), Blk gb (.cells #[.int .i64 s.m.kind, .int .i64 s.m.n, .slice s.y s.m.b.length s.e, .int .i64 s.m.f.kind, .int .i64 s.m.f.stream, .int .i64 s.m.f.code, .int .i64 s.m.f.n, .int .i64 s.m.f.addr.kind, .slice s.x s.m.f.addr.ip.length s.c, .string s.m.f.addr.name, .int .i64 s.m.f.addr.port, .slice s.z s.m.f.data.length s.k] 55 (0, 0))]) => rm_Open s.m.n HOKB.out h
          rw [eq_open HS.out] at HO
          clear k0
          go_wp2_with fail
          go_region_held3 (fun W => W.cell? ⟨gb, 1, none⟩ = some (.int .i64 s.m.n))
            (first | exact p1 | exact (Sat.front [_, _] qA).cell 1 rfl | exact (Sat.front [_, _] qB).cell 1 rfl)
            ((first | (go_at_call 10; refine (mux_Open s.m.n hwf.out q7.drew).mono ?_; rintro _ w6 ⟨gA, rfl, qA⟩) | (go_at_call 28; refine (HO _ _ qA.swap).mono ?_; rintro _ w7 ⟨gB, rfl, qB⟩)))
          obtain ⟨a9, b9, hX, HE⟩ : ∃ a9 b9, Sat w w7 [MxA mp cr mo a9, RMx gp cr mo b9] ∧ Hid (b9.map (·.2) = a9.map (·.2)) := ⟨_, _, keep2m qB.swap, hid_ (eq_openM HS.out cr mo s.m.n gA gB)⟩
          have HL := hid_ (law_like (N := few) hfew HE.out hX)
          go_wp2_with fail
          refine HL.out.mono ?_
          rintro _ wz ⟨rfl, hZ⟩
          go_wp2_with fail
          go_roundg (n - (i + 1))
          case measure => omega
          case rel => exact ⟨i + 1, a9, b9, by omega, by omega, by go_num, HE, hZ⟩
        have e0 : (s.m.kind == 0) = false := by simp [k0]
        by_cases k1 : s.m.kind = 1
        · as_aux_lemma =>
          have e1 : (s.m.kind == 1) = true := by simp [k1]
          have d0 : ((getM a s.m.n).isSome == (getM a s.m.n).isSome) = true := beq_self_eq_true _
          have HO := fun (W : World) (h : Sat w W [RMx gp cr mo b, MxA mp cr mo (dropM a s.m.n), Blk gb (.cells #[.int .i64 s.m.kind, .int .i64 s.m.n, .slice s.y s.m.b.length s.e, .int .i64 s.m.f.kind, .int .i64 s.m.f.stream, .int .i64 s.m.f.code, .int .i64 s.m.f.n, .int .i64 s.m.f.addr.kind, .slice s.x s.m.f.addr.ip.length s.c, .string s.m.f.addr.name, .int .i64 s.m.f.addr.port, .slice s.z s.m.f.data.length s.k] 55 (0, 0))]) => rm_Drop s.m.n h64b h
          rw [eq_isSome HS.out] at HO
          clear k0 k1
          go_wp2_with fail
          go_region_held3 (fun W => W.cell? ⟨gb, 1, none⟩ = some (.int .i64 s.m.n))
            (first | exact p1 | exact (Sat.front [_, _] qA).cell 1 rfl | exact (Sat.front [_, _] qB).cell 1 rfl)
            ((first | (go_at_call 11; refine (mux_Drop s.m.n hwf.out q7.drew).mono ?_; rintro _ w6 ⟨rfl, qA⟩) | (go_at_call 29; refine (HO _ qA.swap).mono ?_; rintro _ w7 ⟨rfl, qB⟩)))
          obtain ⟨a9, b9, hX, HE⟩ : ∃ a9 b9, Sat w w7 [MxA mp cr mo a9, RMx gp cr mo b9] ∧ Hid (b9.map (·.2) = a9.map (·.2)) := ⟨_, _, keep2m qB.swap, hid_ (eq_drop HS.out s.m.n)⟩
          have HL := hid_ (law_like (N := few) hfew HE.out hX)
          go_wp2_with fail
          refine HL.out.mono ?_
          rintro _ wz ⟨rfl, hZ⟩
          go_wp2_with fail
          go_roundg (n - (i + 1))
          case measure => omega
          case rel => exact ⟨i + 1, a9, b9, by omega, by omega, by go_num, HE, hZ⟩
        have e1 : (s.m.kind == 1) = false := by simp [k1]
        by_cases k2 : s.m.kind = 2
        · as_aux_lemma =>
          have e2 : (s.m.kind == 2) = true := by simp [k2]
          have HE1 := hid_ (mux_Next q7)
          have hnl := nextsL_le (l := a) (fun x hx => by
            obtain ⟨bm, _, hq⟩ := MxA.opn q7
            exact oks_of hq.drop.drop x hx)
          clear k0 k1 k2
          go_wp2_with fail
          refine HE1.out.mono ?_
          rintro _ w6 ⟨vA, rfl, qA⟩
          have HE2 := rm_Next h64b (Sat.front [_, _] qA)
          rw [eq_nexts HS.out] at HE2
          have HE2 := hid_ HE2
          go_wp2_with fail
          refine HE2.out.mono ?_
          rintro _ w7 ⟨vB, rfl, qB⟩
          obtain ⟨aB, cB, rfl, _, _⟩ := OwnL.form qB
          obtain ⟨aA, cA, rfl, _, _⟩ := OwnL.form (Sat.front [_, _] qB)
          have HSF := hid_ (ref_SameFrames (c := cA) (d := cB) rfl (by simp only [maxLen]; omega) (FramesA.rd (Sat.front [_, _] qB)) (FramesA.rd qB))
          go_wp2_with fail
          refine HSF.out.mono ?_
          rintro _ w8 ⟨rfl, hb8⟩
          have qC : Sat w w8 (MxA mp cr mo (nextM a a.length) :: RMx gp cr mo (nextM b b.length) :: _) := (Sat.re [3, 1, 0, 2, 4] [_, _, _, _, _] (L := []) qB).under hb8
          obtain ⟨a9, b9, hX, HE⟩ : ∃ a9 b9, Sat w w8 [MxA mp cr mo a9, RMx gp cr mo b9] ∧ Hid (b9.map (·.2) = a9.map (·.2)) := ⟨_, _, keep2m qC, hid_ (eq_next HS.out)⟩
          have HL := hid_ (law_like (N := few) hfew HE.out hX)
          go_wp2_with fail
          refine HL.out.mono ?_
          rintro _ wz ⟨rfl, hZ⟩
          go_wp2_with fail
          go_roundg (n - (i + 1))
          case measure => omega
          case rel => exact ⟨i + 1, a9, b9, by omega, by omega, by go_num, HE, hZ⟩
        have e2 : (s.m.kind == 2) = false := by simp [k2]
        by_cases k3 : s.m.kind = 3
        · as_aux_lemma =>
          have e3 : (s.m.kind == 3) = true := by simp [k3]
          have HE1 := hid_ (mux_Sweep q7)
          have hgl := gone_le a
          clear k0 k1 k2 k3
          go_wp2_with fail
          refine HE1.out.mono ?_
          rintro _ w6 ⟨aA, cA, rfl, qA⟩
          have HE2 := rm_Sweep h64b HOKB.out.rise (Sat.front [_, _] qA)
          rw [eq_gone HS.out] at HE2
          have HE2 := hid_ HE2
          go_wp2_with fail
          refine HE2.out.mono ?_
          rintro _ w7 ⟨aB, cB, rfl, qB⟩
          have HSI := hid_ (law_ints (a := aA) (b := aB) (c := cA) (d := cB) rfl (by omega) (Sat.re [2, 0, 1, 3, 4] [_, _, _, _, _] (L := []) qB))
          go_wp2_with fail
          refine HSI.out.mono ?_
          rintro _ w8 ⟨rfl, q8⟩
          have qC : Sat w w8 (MxA mp cr mo (sweepM a) :: RMx gp cr mo (sweepM b) :: _) := Sat.re [3, 2, 0, 1, 4] [_, _, _, _, _] (L := []) q8
          obtain ⟨a9, b9, hX, HE⟩ : ∃ a9 b9, Sat w w8 [MxA mp cr mo a9, RMx gp cr mo b9] ∧ Hid (b9.map (·.2) = a9.map (·.2)) := ⟨_, _, keep2m qC, hid_ (eq_sweep HS.out)⟩
          have HL := hid_ (law_like (N := few) hfew HE.out hX)
          go_wp2_with fail
          refine HL.out.mono ?_
          rintro _ wz ⟨rfl, hZ⟩
          go_wp2_with fail
          go_roundg (n - (i + 1))
          case measure => omega
          case rel => exact ⟨i + 1, a9, b9, by omega, by omega, by go_num, HE, hZ⟩
        have e3 : (s.m.kind == 3) = false := by simp [k3]
        by_cases k4 : s.m.kind = 4
        · as_aux_lemma =>
          have e4 : (s.m.kind == 4) = true := by simp [k4]
          clear k0 k1 k2 k3 k4
          go_wp2_with fail
          go_quiet (fail)
          obtain ⟨a9, b9, hX, HE⟩ : ∃ a9 b9, Sat w (w5.drewN nq) [MxA mp cr mo a9, RMx gp cr mo b9] ∧ Hid (b9.map (·.2) = a9.map (·.2)) := ⟨_, _, keep2m (q7.drewN nq), hid_ HS.out⟩
          have HL := hid_ (law_like (N := few) hfew HE.out hX)
          go_wp2_with fail
          refine HL.out.mono ?_
          rintro _ wz ⟨rfl, hZ⟩
          go_wp2_with fail
          go_roundg (n - (i + 1))
          case measure => omega
          case rel => exact ⟨i + 1, a9, b9, by omega, by omega, by go_num, HE, hZ⟩
        have e4 : (s.m.kind == 4) = false := by simp [k4]
        by_cases k5 : s.m.kind = 5
        · as_aux_lemma =>
          have e5 : (s.m.kind == 5) = true := by simp [k5]
          clear k0 k1 k2 k3 k4 k5
          obtain ⟨a9, b9, hX, HE⟩ : ∃ a9 b9, Sat w w5 [MxA mp cr mo a9, RMx gp cr mo b9] ∧ Hid (b9.map (·.2) = a9.map (·.2)) := ⟨_, _, keep2m q7, hid_ HS.out⟩
          have HL := hid_ (law_like (N := few) hfew HE.out hX)
          go_wp2_with fail
          refine HL.out.mono ?_
          rintro _ wz ⟨rfl, hZ⟩
          go_wp2_with fail
          go_roundg (n - (i + 1))
          case measure => omega
          case rel => exact ⟨i + 1, a9, b9, by omega, by omega, by go_num, HE, hZ⟩
        have e5 : (s.m.kind == 5) = false := by simp [k5]
        by_cases k6 : s.m.kind = 6
        · as_aux_lemma =>
          have e6 : (s.m.kind == 6) = true := by simp [k6]
          clear k0 k1 k2 k3 k4 k5 k6
          obtain ⟨a9, b9, hX, HE⟩ : ∃ a9 b9, Sat w w5 [MxA mp cr mo a9, RMx gp cr mo b9] ∧ Hid (b9.map (·.2) = a9.map (·.2)) := ⟨_, _, keep2m q7, hid_ HS.out⟩
          have HL := hid_ (law_like (N := few) hfew HE.out hX)
          go_wp2_with fail
          refine HL.out.mono ?_
          rintro _ wz ⟨rfl, hZ⟩
          go_wp2_with fail
          go_roundg (n - (i + 1))
          case measure => omega
          case rel => exact ⟨i + 1, a9, b9, by omega, by omega, by go_num, HE, hZ⟩
        have e6 : (s.m.kind == 6) = false := by simp [k6]
        clear k0 k1 k2 k3 k4 k5 k6
        obtain ⟨a9, b9, hX, HE⟩ : ∃ a9 b9, Sat w w5 [MxA mp cr mo a9, RMx gp cr mo b9] ∧ Hid (b9.map (·.2) = a9.map (·.2)) := ⟨_, _, keep2m q7, hid_ HS.out⟩
        have HL := hid_ (law_like (N := few) hfew HE.out hX)
        go_wp2_with fail
        refine HL.out.mono ?_
        rintro _ wz ⟨rfl, hZ⟩
        go_wp2_with fail
        go_roundg (n - (i + 1))
        case measure => omega
        case rel => exact ⟨i + 1, a9, b9, by omega, by omega, by go_num, HE, hZ⟩
      | some e =>
        obtain ⟨hid, ix, he⟩ := getM_ix hg
        obtain ⟨d, hd⟩ := eq_at HS.out he
        have hg2 : getM b s.m.n = some (d, e.2) := by
          rw [← hid]
          exact getM_at (e := (d, e.2)) HOKB.out.rise hd
        rw [hg] at HG1
        rw [hg2] at HG2
        have HE0 := hid_ he
        have HD0 := hid_ hd
        have HID := hid_ hid
        clear hg hg2 he hd hid
        go_wp2_with fail
        go_quiet ((first | (go_at_call 15; exact quiet_same (HG1 _)) | (go_at_call 27; exact quiet_same (HG2 _))))
        obtain ⟨w5, hw5⟩ : ∃ w5, w4.drewN nq = w5 := ⟨_, rfl⟩
        have q7 := q6.drewN nq
        rw [hw5] at q7 ⊢
        clear HG1 HG2 hw5 q6 p0 p1 p2 p3 p4 p5 p6 p7 p8 p9 p10 p11
        have p0 : w5.cell? ⟨gb, 0, none⟩ = some (.int .i64 s.m.kind) := (Sat.front [_, _] q7).cell 0 rfl
        have p1 : w5.cell? ⟨gb, 1, none⟩ = some (.int .i64 s.m.n) := (Sat.front [_, _] q7).cell 1 rfl
        have p2 : w5.cell? ⟨gb, 2, none⟩ = some (.slice s.y s.m.b.length s.e) := (Sat.front [_, _] q7).cell 2 rfl
        have p3 : w5.cell? ⟨gb, 3, none⟩ = some (.int .i64 s.m.f.kind) := (Sat.front [_, _] q7).cell 3 rfl
        have p4 : w5.cell? ⟨gb, 4, none⟩ = some (.int .i64 s.m.f.stream) := (Sat.front [_, _] q7).cell 4 rfl
        have p5 : w5.cell? ⟨gb, 5, none⟩ = some (.int .i64 s.m.f.code) := (Sat.front [_, _] q7).cell 5 rfl
        have p6 : w5.cell? ⟨gb, 6, none⟩ = some (.int .i64 s.m.f.n) := (Sat.front [_, _] q7).cell 6 rfl
        have p7 : w5.cell? ⟨gb, 7, none⟩ = some (.int .i64 s.m.f.addr.kind) := (Sat.front [_, _] q7).cell 7 rfl
        have p8 : w5.cell? ⟨gb, 8, none⟩ = some (.slice s.x s.m.f.addr.ip.length s.c) := (Sat.front [_, _] q7).cell 8 rfl
        have p9 : w5.cell? ⟨gb, 9, none⟩ = some (.string s.m.f.addr.name) := (Sat.front [_, _] q7).cell 9 rfl
        have p10 : w5.cell? ⟨gb, 10, none⟩ = some (.int .i64 s.m.f.addr.port) := (Sat.front [_, _] q7).cell 10 rfl
        have p11 : w5.cell? ⟨gb, 11, none⟩ = some (.slice s.z s.m.f.data.length s.k) := (Sat.front [_, _] q7).cell 11 rfl
        by_cases k0 : s.m.kind = 0
        · as_aux_lemma =>
          have e0 : (s.m.kind == 0) = true := by simp [k0]
          have d0 : (openB mo a s.m.n == openB mo a s.m.n) = true := beq_self_eq_true _
          have HO := fun (gA : Nat) (W : World) (h : Sat w W [RMx gp cr mo b, MxA mp cr mo (openM cr mo a s.m.n gA), Blk gb (.cells #[.int .i64 s.m.kind, .int .i64 s.m.n, .slice s.y s.m.b.length s.e, .int .i64 s.m.f.kind, .int .i64 s.m.f.stream, .int .i64 s.m.f.code, .int .i64 s.m.f.n, .int .i64 s.m.f.addr.kind, .slice s.x s.m.f.addr.ip.length s.c, .string s.m.f.addr.name, .int .i64 s.m.f.addr.port, .slice s.z s.m.f.data.length s.k] 55 (0, 0))]) => rm_Open s.m.n HOKB.out h
          rw [eq_open HS.out] at HO
          clear k0
          go_wp2_with fail
          go_region_held3 (fun W => W.cell? ⟨gb, 1, none⟩ = some (.int .i64 s.m.n))
            (first | exact p1 | exact (Sat.front [_, _] qA).cell 1 rfl | exact (Sat.front [_, _] qB).cell 1 rfl)
            ((first | (go_at_call 10; refine (mux_Open s.m.n hwf.out q7.drew).mono ?_; rintro _ w6 ⟨gA, rfl, qA⟩) | (go_at_call 28; refine (HO _ _ qA.swap).mono ?_; rintro _ w7 ⟨gB, rfl, qB⟩)))
          obtain ⟨a9, b9, hX, HE⟩ : ∃ a9 b9, Sat w w7 [MxA mp cr mo a9, RMx gp cr mo b9] ∧ Hid (b9.map (·.2) = a9.map (·.2)) := ⟨_, _, keep2m qB.swap, hid_ (eq_openM HS.out cr mo s.m.n gA gB)⟩
          have HL := hid_ (law_like (N := few) hfew HE.out hX)
          go_wp2_with fail
          refine HL.out.mono ?_
          rintro _ wz ⟨rfl, hZ⟩
          go_wp2_with fail
          go_roundg (n - (i + 1))
          case measure => omega
          case rel => exact ⟨i + 1, a9, b9, by omega, by omega, by go_num, HE, hZ⟩
        have e0 : (s.m.kind == 0) = false := by simp [k0]
        by_cases k1 : s.m.kind = 1
        · as_aux_lemma =>
          have e1 : (s.m.kind == 1) = true := by simp [k1]
          have d0 : ((getM a s.m.n).isSome == (getM a s.m.n).isSome) = true := beq_self_eq_true _
          have HO := fun (W : World) (h : Sat w W [RMx gp cr mo b, MxA mp cr mo (dropM a s.m.n), Blk gb (.cells #[.int .i64 s.m.kind, .int .i64 s.m.n, .slice s.y s.m.b.length s.e, .int .i64 s.m.f.kind, .int .i64 s.m.f.stream, .int .i64 s.m.f.code, .int .i64 s.m.f.n, .int .i64 s.m.f.addr.kind, .slice s.x s.m.f.addr.ip.length s.c, .string s.m.f.addr.name, .int .i64 s.m.f.addr.port, .slice s.z s.m.f.data.length s.k] 55 (0, 0))]) => rm_Drop s.m.n h64b h
          rw [eq_isSome HS.out] at HO
          clear k0 k1
          go_wp2_with fail
          go_region_held3 (fun W => W.cell? ⟨gb, 1, none⟩ = some (.int .i64 s.m.n))
            (first | exact p1 | exact (Sat.front [_, _] qA).cell 1 rfl | exact (Sat.front [_, _] qB).cell 1 rfl)
            ((first | (go_at_call 11; refine (mux_Drop s.m.n hwf.out q7.drew).mono ?_; rintro _ w6 ⟨rfl, qA⟩) | (go_at_call 29; refine (HO _ qA.swap).mono ?_; rintro _ w7 ⟨rfl, qB⟩)))
          obtain ⟨a9, b9, hX, HE⟩ : ∃ a9 b9, Sat w w7 [MxA mp cr mo a9, RMx gp cr mo b9] ∧ Hid (b9.map (·.2) = a9.map (·.2)) := ⟨_, _, keep2m qB.swap, hid_ (eq_drop HS.out s.m.n)⟩
          have HL := hid_ (law_like (N := few) hfew HE.out hX)
          go_wp2_with fail
          refine HL.out.mono ?_
          rintro _ wz ⟨rfl, hZ⟩
          go_wp2_with fail
          go_roundg (n - (i + 1))
          case measure => omega
          case rel => exact ⟨i + 1, a9, b9, by omega, by omega, by go_num, HE, hZ⟩
        have e1 : (s.m.kind == 1) = false := by simp [k1]
        by_cases k2 : s.m.kind = 2
        · as_aux_lemma =>
          have e2 : (s.m.kind == 2) = true := by simp [k2]
          have HE1 := hid_ (mux_Next q7)
          have hnl := nextsL_le (l := a) (fun x hx => by
            obtain ⟨bm, _, hq⟩ := MxA.opn q7
            exact oks_of hq.drop.drop x hx)
          clear k0 k1 k2
          go_wp2_with fail
          refine HE1.out.mono ?_
          rintro _ w6 ⟨vA, rfl, qA⟩
          have HE2 := rm_Next h64b (Sat.front [_, _] qA)
          rw [eq_nexts HS.out] at HE2
          have HE2 := hid_ HE2
          go_wp2_with fail
          refine HE2.out.mono ?_
          rintro _ w7 ⟨vB, rfl, qB⟩
          obtain ⟨aB, cB, rfl, _, _⟩ := OwnL.form qB
          obtain ⟨aA, cA, rfl, _, _⟩ := OwnL.form (Sat.front [_, _] qB)
          have HSF := hid_ (ref_SameFrames (c := cA) (d := cB) rfl (by simp only [maxLen]; omega) (FramesA.rd (Sat.front [_, _] qB)) (FramesA.rd qB))
          go_wp2_with fail
          refine HSF.out.mono ?_
          rintro _ w8 ⟨rfl, hb8⟩
          have qC : Sat w w8 (MxA mp cr mo (nextM a a.length) :: RMx gp cr mo (nextM b b.length) :: _) := (Sat.re [3, 1, 0, 2, 4] [_, _, _, _, _] (L := []) qB).under hb8
          obtain ⟨a9, b9, hX, HE⟩ : ∃ a9 b9, Sat w w8 [MxA mp cr mo a9, RMx gp cr mo b9] ∧ Hid (b9.map (·.2) = a9.map (·.2)) := ⟨_, _, keep2m qC, hid_ (eq_next HS.out)⟩
          have HL := hid_ (law_like (N := few) hfew HE.out hX)
          go_wp2_with fail
          refine HL.out.mono ?_
          rintro _ wz ⟨rfl, hZ⟩
          go_wp2_with fail
          go_roundg (n - (i + 1))
          case measure => omega
          case rel => exact ⟨i + 1, a9, b9, by omega, by omega, by go_num, HE, hZ⟩
        have e2 : (s.m.kind == 2) = false := by simp [k2]
        by_cases k3 : s.m.kind = 3
        · as_aux_lemma =>
          have e3 : (s.m.kind == 3) = true := by simp [k3]
          have HE1 := hid_ (mux_Sweep q7)
          have hgl := gone_le a
          clear k0 k1 k2 k3
          go_wp2_with fail
          refine HE1.out.mono ?_
          rintro _ w6 ⟨aA, cA, rfl, qA⟩
          have HE2 := rm_Sweep h64b HOKB.out.rise (Sat.front [_, _] qA)
          rw [eq_gone HS.out] at HE2
          have HE2 := hid_ HE2
          go_wp2_with fail
          refine HE2.out.mono ?_
          rintro _ w7 ⟨aB, cB, rfl, qB⟩
          have HSI := hid_ (law_ints (a := aA) (b := aB) (c := cA) (d := cB) rfl (by omega) (Sat.re [2, 0, 1, 3, 4] [_, _, _, _, _] (L := []) qB))
          go_wp2_with fail
          refine HSI.out.mono ?_
          rintro _ w8 ⟨rfl, q8⟩
          have qC : Sat w w8 (MxA mp cr mo (sweepM a) :: RMx gp cr mo (sweepM b) :: _) := Sat.re [3, 2, 0, 1, 4] [_, _, _, _, _] (L := []) q8
          obtain ⟨a9, b9, hX, HE⟩ : ∃ a9 b9, Sat w w8 [MxA mp cr mo a9, RMx gp cr mo b9] ∧ Hid (b9.map (·.2) = a9.map (·.2)) := ⟨_, _, keep2m qC, hid_ (eq_sweep HS.out)⟩
          have HL := hid_ (law_like (N := few) hfew HE.out hX)
          go_wp2_with fail
          refine HL.out.mono ?_
          rintro _ wz ⟨rfl, hZ⟩
          go_wp2_with fail
          go_roundg (n - (i + 1))
          case measure => omega
          case rel => exact ⟨i + 1, a9, b9, by omega, by omega, by go_num, HE, hZ⟩
        have e3 : (s.m.kind == 3) = false := by simp [k3]
        obtain ⟨F, f1, fback⟩ := both_foc HE0.out HD0.out q7
        have f1 : Sat w w5 (StA e.1 e.2 :: RSt d e.2 :: Blk gb (.cells #[.int .i64 s.m.kind, .int .i64 s.m.n, .slice s.y s.m.b.length s.e, .int .i64 s.m.f.kind, .int .i64 s.m.f.stream, .int .i64 s.m.f.code, .int .i64 s.m.f.n, .int .i64 s.m.f.addr.kind, .slice s.x s.m.f.addr.ip.length s.c, .string s.m.f.addr.name, .int .i64 s.m.f.addr.port, .slice s.z s.m.f.data.length s.k] 55 (0, 0)) :: F) := f1
        clear q7
        by_cases k4 : s.m.kind = 4
        · as_aux_lemma =>
          have e4 : (s.m.kind == 4) = true := by simp [k4]
          have d0 : (e.2.sendB s.m.b == e.2.sendB s.m.b) = true := beq_self_eq_true _
          clear k0 k1 k2 k3 k4
          go_wp2_with fail
          go_region_held3 (fun W => W.cell? ⟨gb, 2, none⟩ = some (.slice s.y s.m.b.length s.e))
            (first | exact p2 | exact (Sat.front [_, _] qA).cell 2 rfl | exact (Sat.front [_, _] qB).cell 2 rfl)
            ((first | (go_at_call 19; refine (stream_Send e.1 e.2 _ s.m.b (RdB.later hrb.out f1.drew) f1.drew).mono ?_; rintro _ w6 ⟨rfl, qA⟩) | (go_at_call 33; refine (rst_Send d e.2 _ s.m.b hrb.out qA.swap).mono ?_; rintro _ w7 ⟨rfl, qB⟩)))
          obtain ⟨a9, b9, hX, HE⟩ : ∃ a9 b9, Sat w w7 [MxA mp cr mo a9, RMx gp cr mo b9] ∧ Hid (b9.map (·.2) = a9.map (·.2)) := ⟨_, _, keep2m (fback w7 (e.2.send s.m.b) [Blk gb (.cells #[.int .i64 s.m.kind, .int .i64 s.m.n, .slice s.y s.m.b.length s.e, .int .i64 s.m.f.kind, .int .i64 s.m.f.stream, .int .i64 s.m.f.code, .int .i64 s.m.f.n, .int .i64 s.m.f.addr.kind, .slice s.x s.m.f.addr.ip.length s.c, .string s.m.f.addr.name, .int .i64 s.m.f.addr.port, .slice s.z s.m.f.data.length s.k] 55 (0, 0))] (id_send' _ _) qB.swap), hid_ (eq_set HS.out ix e.1 d (e.2.send s.m.b))⟩
          have HL := hid_ (law_like (N := few) hfew HE.out hX)
          go_wp2_with fail
          refine HL.out.mono ?_
          rintro _ wz ⟨rfl, hZ⟩
          go_wp2_with fail
          go_roundg (n - (i + 1))
          case measure => omega
          case rel => exact ⟨i + 1, a9, b9, by omega, by omega, by go_num, HE, hZ⟩
        have e4 : (s.m.kind == 4) = false := by simp [k4]
        by_cases k5 : s.m.kind = 5
        · as_aux_lemma =>
          have e5 : (s.m.kind == 5) = true := by simp [k5]
          have d0 : (e.2.finB == e.2.finB) = true := beq_self_eq_true _
          have HE1 := hid_ (stream_End e.1 e.2 f1)
          clear k0 k1 k2 k3 k4 k5
          go_wp2_with fail
          refine HE1.out.mono ?_
          rintro _ w6 ⟨rfl, qA⟩
          have HE2 := hid_ (rst_End d e.2 qA.swap)
          go_wp2_with fail
          refine HE2.out.mono ?_
          rintro _ w7 ⟨rfl, qB⟩
          obtain ⟨a9, b9, hX, HE⟩ : ∃ a9 b9, Sat w w7 [MxA mp cr mo a9, RMx gp cr mo b9] ∧ Hid (b9.map (·.2) = a9.map (·.2)) := ⟨_, _, keep2m (fback w7 e.2.fin [Blk gb (.cells #[.int .i64 s.m.kind, .int .i64 s.m.n, .slice s.y s.m.b.length s.e, .int .i64 s.m.f.kind, .int .i64 s.m.f.stream, .int .i64 s.m.f.code, .int .i64 s.m.f.n, .int .i64 s.m.f.addr.kind, .slice s.x s.m.f.addr.ip.length s.c, .string s.m.f.addr.name, .int .i64 s.m.f.addr.port, .slice s.z s.m.f.data.length s.k] 55 (0, 0))] (id_fin' _) qB.swap), hid_ (eq_set HS.out ix e.1 d e.2.fin)⟩
          have HL := hid_ (law_like (N := few) hfew HE.out hX)
          go_wp2_with fail
          refine HL.out.mono ?_
          rintro _ wz ⟨rfl, hZ⟩
          go_wp2_with fail
          go_roundg (n - (i + 1))
          case measure => omega
          case rel => exact ⟨i + 1, a9, b9, by omega, by omega, by go_num, HE, hZ⟩
        have e5 : (s.m.kind == 5) = false := by simp [k5]
        by_cases k6 : s.m.kind = 6
        · as_aux_lemma =>
          have e6 : (s.m.kind == 6) = true := by simp [k6]
          have HE1 := hid_ (stream_Break e.1 e.2 1 f1)
          clear k0 k1 k2 k3 k4 k5 k6
          go_wp2_with fail
          refine HE1.out.mono ?_
          rintro _ w6 ⟨rfl, qA⟩
          have HE2 := hid_ (rst_Break d e.2 1 qA.swap)
          go_wp2_with fail
          refine HE2.out.mono ?_
          rintro _ w7 ⟨rfl, qB⟩
          obtain ⟨a9, b9, hX, HE⟩ : ∃ a9 b9, Sat w w7 [MxA mp cr mo a9, RMx gp cr mo b9] ∧ Hid (b9.map (·.2) = a9.map (·.2)) := ⟨_, _, keep2m (fback w7 (e.2.breakS 1) [Blk gb (.cells #[.int .i64 s.m.kind, .int .i64 s.m.n, .slice s.y s.m.b.length s.e, .int .i64 s.m.f.kind, .int .i64 s.m.f.stream, .int .i64 s.m.f.code, .int .i64 s.m.f.n, .int .i64 s.m.f.addr.kind, .slice s.x s.m.f.addr.ip.length s.c, .string s.m.f.addr.name, .int .i64 s.m.f.addr.port, .slice s.z s.m.f.data.length s.k] 55 (0, 0))] (id_breakS' _ _) qB.swap), hid_ (eq_set HS.out ix e.1 d (e.2.breakS 1))⟩
          have HL := hid_ (law_like (N := few) hfew HE.out hX)
          go_wp2_with fail
          refine HL.out.mono ?_
          rintro _ wz ⟨rfl, hZ⟩
          go_wp2_with fail
          go_roundg (n - (i + 1))
          case measure => omega
          case rel => exact ⟨i + 1, a9, b9, by omega, by omega, by go_num, HE, hZ⟩
        have e6 : (s.m.kind == 6) = false := by simp [k6]
        clear k0 k1 k2 k3 k4 k5 k6
        have HE1 := stream_Got e.1 e.2 s.m.f s.x s.z s.c s.k (hrf.out.mono f1.below) f1
        unfold frV at HE1
        have HE1 := hid_ HE1
        go_wp2_with fail
        refine HE1.out.mono ?_
        rintro _ w6 ⟨vd, vf, rfl, qA⟩
        have p3 : w6.cell? ⟨gb, 3, none⟩ = some (.int .i64 s.m.f.kind) := (Sat.front [_, _, _, _] qA).cell 3 rfl
        have p4 : w6.cell? ⟨gb, 4, none⟩ = some (.int .i64 s.m.f.stream) := (Sat.front [_, _, _, _] qA).cell 4 rfl
        have p5 : w6.cell? ⟨gb, 5, none⟩ = some (.int .i64 s.m.f.code) := (Sat.front [_, _, _, _] qA).cell 5 rfl
        have p6 : w6.cell? ⟨gb, 6, none⟩ = some (.int .i64 s.m.f.n) := (Sat.front [_, _, _, _] qA).cell 6 rfl
        have p7 : w6.cell? ⟨gb, 7, none⟩ = some (.int .i64 s.m.f.addr.kind) := (Sat.front [_, _, _, _] qA).cell 7 rfl
        have p8 : w6.cell? ⟨gb, 8, none⟩ = some (.slice s.x s.m.f.addr.ip.length s.c) := (Sat.front [_, _, _, _] qA).cell 8 rfl
        have p9 : w6.cell? ⟨gb, 9, none⟩ = some (.string s.m.f.addr.name) := (Sat.front [_, _, _, _] qA).cell 9 rfl
        have p10 : w6.cell? ⟨gb, 10, none⟩ = some (.int .i64 s.m.f.addr.port) := (Sat.front [_, _, _, _] qA).cell 10 rfl
        have p11 : w6.cell? ⟨gb, 11, none⟩ = some (.slice s.z s.m.f.data.length s.k) := (Sat.front [_, _, _, _] qA).cell 11 rfl
        have HE2 := rst_Got d e.2 s.m.f s.x s.z s.c s.k (hrf.out.mono qA.below) (Sat.front [_, _, _] qA)
        unfold frV at HE2
        have HE2 := hid_ HE2
        go_wp2_with fail
        refine HE2.out.mono ?_
        rintro _ w7 ⟨vd2, vf2, rfl, qB⟩
        obtain ⟨aB, cB, rfl, hlB, hmB⟩ := OwnL.form qB.drop
        obtain ⟨aA, cA, rfl, _, _⟩ := OwnL.form (Sat.front [_, _, _, _] qB)
        have kA : (convert 37 9 vd).run Try.prog w7 = .ok (.string (strOf (e.2.gotD s.m.f))) w7 := conv_rd (P := Try.prog) (dst := 9) Try.underlying37 Try.underlying5 Try.underlying9 (OwnB.rd (Sat.front [_, _, _] qB))
        have kB : (convert 37 9 vd2).run Try.prog w7 = .ok (.string (strOf (e.2.gotD s.m.f))) w7 := conv_rd (P := Try.prog) (dst := 9) Try.underlying37 Try.underlying5 Try.underlying9 (OwnB.rd qB)
        have HSF := hid_ (ref_SameFrames (c := cA) (d := cB) rfl (by omega) (FramesA.rd (Sat.front [_, _, _, _] qB)) (FramesA.rd qB.drop))
        go_wp2_with fail
        refine HSF.out.mono ?_
        rintro _ w8 ⟨rfl, hb8⟩
        have qC := (Sat.re [5, 2, 6, 0, 1, 3, 4] [_, _, _, _, _, _, _] qB).under hb8
        obtain ⟨a9, b9, hX, HE⟩ : ∃ a9 b9, Sat w w8 [MxA mp cr mo a9, RMx gp cr mo b9] ∧ Hid (b9.map (·.2) = a9.map (·.2)) := ⟨_, _, keep2m (fback w8 (e.2.got s.m.f) [_, _, _, _, _] (id_got' _ _) qC), hid_ (eq_set HS.out ix e.1 d (e.2.got s.m.f))⟩
        have HL := hid_ (law_like (N := few) hfew HE.out hX)
        go_wp2_with fail
        refine HL.out.mono ?_
        rintro _ wz ⟨rfl, hZ⟩
        go_wp2_with fail
        go_roundg (n - (i + 1))
        case measure => omega
        case rel => exact ⟨i + 1, a9, b9, by omega, by omega, by go_num, HE, hZ⟩
    · obtain rfl : i = n := by omega
      go_wp2_with fail
      refine (mx_awake q3).mono ?_
      rintro _ w5 ⟨rfl, q5⟩
      go_wp2_with fail
      go_ret
      exact ⟨rfl, q5.below⟩
end
end Go.Proofs.Ytkejadhkebjdcaa
