/- The document's Stream: Next, walked. -/
import Derived.Test.YtkejadhkebjdcaaRst
namespace Go.Proofs.Ytkejadhkebjdcaa
open Go Go.RowKit
set_option linter.unusedVariables false
set_option linter.unusedSimpArgs false

section
variable {w0 w : World} {L : List Assn}
set_option maxHeartbeats 4000000 in
set_option maxRecDepth 100000 in
theorem rst_Next (g : Nat) (s : StM) (hs : Sat w0 w (RSt g s :: L)) :
    Calls Try.prog 54 #[.pointer (some ⟨g, 0, none⟩)] w fun e w' => ∃ v, e = .returned v ∧ Sat w0 w' (FramesA v s.nextL :: RSt g s.next :: L) := by
  obtain ⟨gc, v, hok, h1⟩ := RSt.opn hs
  have c7 : w.cell? ⟨g, 7, none⟩ = some (.bool s.cut) := h1.cell 7 rfl
  cases hc : s.cut
  · have hcut := hid_ hc
    rw [hc] at c7
    rw [hc] at h1
    clear hc
    go_enter Try.func54, Try.ntmps54
    go_wp2_with fail
    go_loopg [3, 4] (s.wait.length) (fun k v3 v4 wr => ∃ (done : List (List UInt8)) (c : Int) (cur : List UInt8) (vw : Value), NextI s done c cur ∧ cur.length ≤ k ∧
      Sat w0 wr (FramesA v3 (done.map (FrM.dataF s.id)) :: Blk g (.cells #[.int .i64 s.id, .int .i64 s.others, .pointer (some ⟨gc, 0, none⟩), vw, .bool s.ended, .bool s.told, .bool s.over, .bool false] 89 (0, 0)) :: RCredit gc c :: OwnB 5 vw cur :: L))
    case atStart => exact ⟨[], s.may, s.wait, v, NextI.start hok, Nat.le_refl _, OwnL.nilI h1⟩
    case round =>
      obtain ⟨done, c, cur, vw, hI, hk, hs1⟩ := hrel
      obtain ⟨a4, cap4, rfl, _, _⟩ := OwnS.form (Sat.front [_, _, _] hs1)
      have c2 : wr.cell? ⟨g, 2, none⟩ = some (.pointer (some ⟨gc, 0, none⟩)) := (Sat.front [_] hs1).cell 2 rfl
      have c3 : wr.cell? ⟨g, 3, none⟩ = some (.slice a4 cur.length cap4) := (Sat.front [_] hs1).cell 3 rfl
      by_cases hcz : cur.length = 0
      · have q0 : decide ((0 : Int) < (cur.length : Int)) = false := decide_eq_false (by omega)
        have hT : takeC c (min (cur.length : Int) 1000) = 0 := by
          have := (CreditT.opn (Sat.front [_, _] hs1)).1
          unfold takeC
          omega
        obtain ⟨e1, e2, e3⟩ := hI.stop hT
        obtain rfl : cur = [] := List.eq_nil_of_length_eq_zero hcz
        have c0 : wr.cell? ⟨g, 0, none⟩ = some (.int .i64 s.id) := (Sat.front [_] hs1).cell 0 rfl
        have c4 : wr.cell? ⟨g, 4, none⟩ = some (.bool s.ended) := (Sat.front [_] hs1).cell 4 rfl
        have c5 : wr.cell? ⟨g, 5, none⟩ = some (.bool s.told) := (Sat.front [_] hs1).cell 5 rfl
        have f5 : wr.frozen? ⟨g, 5, none⟩ = false := (Sat.front [_] hs1).frozen 5
        have E1 := hid_ e1
        have E2 := hid_ e2
        have E3 := hid_ e3
        have hI5 := hI.n
        have HI := hid_ hI
        clear e1 e2 e3 hI hT hcz
        by_cases hf : s.mid.finNow = true
        · have hf' := hf
          unfold StM.finNow at hf'
          rw [← E3.out] at hf'
          simp only [Bool.and_eq_true, beq_iff_eq, Bool.not_eq_true'] at hf'
          obtain ⟨⟨f1, f2⟩, f3⟩ := hf'
          have f2' : s.ended = true := f2
          have f3' : s.told = false := f3
          rw [f2'] at c4
          rw [f3'] at c5
          have F3 := hid_ f3'
          have HF := hid_ hf
          clear hf f1 f2 f3 f2' f3'
          have hlen : (done.map (FrM.dataF s.id)).length = done.length := List.length_map _
          have hA5 := (Sat.front [_] hs1).set 5 (.bool true)
          obtain ⟨i0, hi, hz0, hz1, hz2⟩ := finfo
          have hT : ∀ o, Sat w0 ((wr.setCell ⟨g, 5, none⟩ (.bool true)).alloc o) (FramesA u3 (done.map (FrM.dataF s.id)) :: FrE (FrM.finF s.id) (frC (FrM.finF s.id) (.slice none 0 0) (.slice none 0 0)) :: _) :=
            fun o => (FrE.shut (f := FrM.finF s.id) (OwnB.nilI (OwnB.nilI (Sat.front [_] (hA5.alloc_ o))))).swap
          go_wp2_with (at_builtin; go_must (refine wpList_append_one (w0 := w0) (e := 43) (sz := 9) (El := FrE) rfl _ _ 34 34 rfl Try.underlying34 hi hz0 hz1 hz2 rfl (FrM.finF s.id) rfl (hT _) rfl (src_blk (t := 43) (cs := frC (FrM.finF s.id) (.slice none 0 0) (.slice none 0 0)) Try.underlying34 ?c2 rfl ?c3) ?c4 ?c5 ?c6))
          case c2 => exact alloc_at (setCell_size _ _ _).symm
          case c3 => exact frC_one _ rfl rfl
          case c4 => rw [hlen]; simp only [maxLen]; omega
          case c5 => rw [hlen]; omega
          intro a' c' w3 h6
          go_wp2_with fail
          go_ret
          have h8 := RSt.mk (StM.next_eq (may := c) (wait := []) (told := true) hcut E2.out E3.out (by rw [F3.out, HF.out]; rfl)) (StM.next_ok hok) (Sat.re [1, 2, 3, 0] [_, _, _, _] h6)
          rw [StM.nextL_of hcut, ← E1.out, HF.out]
          exact ⟨_, rfl, h8.swap⟩
        · have HF := hid_ (show s.mid.finNow = false by simpa using hf)
          clear hf
          have h8 := (RSt.mk (StM.next_eq (may := c) (wait := []) (told := s.told) hcut E2.out E3.out (by rw [HF.out]; simp)) (StM.next_ok hok) (Sat.re [1, 2, 3, 0] [_, _, _, _] hs1)).swap
          have hend := hid_ (show s.nextL = done.map (FrM.dataF s.id) by rw [StM.nextL_of hcut, ← E1.out, HF.out]; simp)
          have hfin := HF.out
          unfold StM.finNow at hfin
          rw [← E3.out, show s.mid.ended = s.ended from rfl, show s.mid.told = s.told from rfl] at hfin
          cases he : s.ended
          all_goals cases ht : s.told
          all_goals first
            | (exfalso; rw [he, ht] at hfin; simp at hfin; done)
            | (rw [he] at c4; rw [ht] at c5; clear hfin he ht
               go_wp2_with fail
               go_ret
               rw [hend.out]
               exact ⟨_, rfl, h8⟩)
      · have q0 : decide ((0 : Int) < (cur.length : Int)) = true := decide_eq_true (by omega)
        go_wp2_with fail
        go_region_held3 (fun w' => w'.cell? ⟨g, 2, none⟩ = some (.pointer (some ⟨gc, 0, none⟩)) ∧ w'.cell? ⟨g, 3, none⟩ = some (.slice a4 cur.length cap4))
          (first | exact ⟨c2, c3⟩ | exact ⟨(Sat.front [_, _] h2).cell 2 rfl, (Sat.front [_, _] h2).cell 3 rfl⟩)
          (first | (go_at_call 76; refine (rcredit_Take gc c _ (Sat.front [_, _] hs1.drew)).mono ?_; rintro _ w2 ⟨rfl, h2⟩))
        have hb := takeC_bd (n := c) (min (cur.length : Int) 1000) (CreditT.opn (Sat.front [_, _] hs1)).1
        have hmm : min (1000 : Int) (cur.length : Int) = min (cur.length : Int) 1000 := by omega
        rw [hmm] at h2 ⊢
        have hn2 : takeC c (min (cur.length : Int) 1000) ≤ 1000 ∧ takeC c (min (cur.length : Int) 1000) ≤ cur.length := by unfold takeC; omega
        clear hmm
        generalize hn : takeC c (min (cur.length : Int) 1000) = n at *
        have Hn := hid_ hn
        clear hn c2 c3
        by_cases h0 : n = 0
        · subst h0
          obtain ⟨e1, e2, e3⟩ := hI.stop Hn.out
          have hend := hid_ (show s.nextL = done.map (FrM.dataF s.id) by
            have hf : s.mid.finNow = false := by unfold StM.finNow; rw [← e3]; simp; intro h; rw [h] at hcz; simp at hcz
            rw [StM.nextL_of hcut, ← e1, hf]; simp)
          have h8 := (RSt.mk (StM.next_eq (may := c - 0) (wait := cur) (told := s.told) hcut (by omega) e3 (by
            have hf : s.mid.finNow = false := by unfold StM.finNow; rw [← e3]; simp; intro h; rw [h] at hcz; simp at hcz
            rw [hf]; simp)) (StM.next_ok hok) (Sat.re [2, 0, 3, 1] [_, _, _, _] h2)).swap
          clear e1 e2 e3
          go_wp2_with fail
          go_ret
          rw [hend.out]
          exact ⟨_, rfl, h8⟩
        · have h0b : (n == 0) = false := by simp [h0]
          obtain ⟨nn, rfl⟩ := Int.eq_ofNat_of_zero_le hb.1
          have hnn1 : nn ≤ cur.length := by omega
          have c0 : w2.cell? ⟨g, 0, none⟩ = some (.int .i64 s.id) := (Sat.front [_, _] h2).cell 0 rfl
          have c3 : w2.cell? ⟨g, 3, none⟩ = some (.slice a4 cur.length cap4) := (Sat.front [_, _] h2).cell 3 rfl
          have hB : Sat w0 w2 (OwnB 5 (.slice a4 cur.length cap4) cur :: _) := Sat.front [_, _, _] h2
          obtain ⟨b4, off4, cap4', he4, _, _, _, _⟩ := (OwnB.rd hB).at (i := 0) (by omega)
          injection he4 with he4 hle4 he5
          clear hle4
          subst he4
          subst he5
          have hhd : ∀ wx, Below w2.heap.size w2 wx → RdB wx (.slice (some ⟨b4, off4, none⟩) nn cap4) (cur.take nn) := by
            intro wx hbx
            have hq := OwnB.rd (l := cur.take nn) (by
              have := OwnS.head (k := nn) hB hnn1
              rw [Nat.mul_one, bytesC_take] at this
              have hl : (cur.take nn).length = nn := by rw [List.length_take]; omega
              unfold OwnB
              rw [hl]
              exact this)
            exact hq.mono hbx
          have hn0' : (0 : Int) ≤ (nn : Int) := by omega
          have hn1' : (nn : Int) ≤ (cur.length : Int) := by omega
          have hn2' : (cur.length : Int) ≤ (cap4 : Int) := by omega
          have hn3' : (nn : Int) ≤ (cap4 : Int) := by omega
          have hlt : (cur.take nn).length = nn := by rw [List.length_take]; omega
          have hlen : (done.map (FrM.dataF s.id)).length = done.length := List.length_map _
          have hdn := hI.n
          have hc4 : (done.map (FrM.dataF s.id)).length + 1 ≤ maxLen := by rw [hlen]; simp only [maxLen]; omega
          have hc5 : ((done.map (FrM.dataF s.id)).length + 1) * 112 ≤ 140737488355328 := by rw [hlen]; omega
          obtain ⟨i0, hi, hz0, hz1, hz2⟩ := finfo
          have hT2 := hid_ hlt
          have hsrc := slSrc (hhd w2.drew (Below.refl _ _).drew)
          rw [hT2.out] at hsrc
          have hN2 := OwnB.nilI (t := 5) h2.drew
          clear hlen
          go_wp2_with fail
          go_region_held3 (fun w' => w'.cell? ⟨g, 0, none⟩ = some (.int .i64 s.id) ∧ w'.cell? ⟨g, 3, none⟩ = some (.slice (some ⟨b4, off4, none⟩) cur.length cap4))
            (first | exact ⟨c0, c3⟩ | exact ⟨(Sat.front [_, _, _] h3).cell 0 rfl, (Sat.front [_, _, _] h3).cell 3 rfl⟩ | exact ⟨(Sat.front [_, _, _] (h3.alloc_ _)).cell 0 rfl, (Sat.front [_, _, _] (h3.alloc_ _)).cell 3 rfl⟩ | exact ⟨(Sat.front [_, _] h6).cell 0 rfl, (Sat.front [_, _] h6).cell 3 rfl⟩)
            ((first | (refine step_append_b (w0 := w0) (p := []) (q := cur.take nn) rfl _ _ 37 rfl rfl hN2 rfl (by rw [hT2.out]; exact hsrc) (cur.take nn) nn rfl hT2.out (by omega) ?_; intro a3 k3 w3 h3) | (refine step_append_one (w0 := w0) (e := 43) (sz := 9) (El := FrE) rfl _ _ 34 34 rfl Try.underlying34 hi hz0 hz1 hz2 rfl (FrM.dataF s.id (cur.take nn)) rfl ((Sat.re [1, 0] [_, _] (FrE.shut (f := FrM.dataF s.id (cur.take nn)) (OwnB.nilI (Sat.re [0, 2, 1, 3] [_, _, _, _] (h3.alloc_ _)))))) rfl (src_blk (t := 43) (cs := frC (FrM.dataF s.id (cur.take nn)) (.slice none 0 0) (.slice a3 nn k3)) Try.underlying34 (alloc_at rfl) rfl (frC_one _ rfl rfl)) hc4 hc5 ?_; intro a' c' w4 h6)))
          have hst := hI.step Hn.out (by omega)
          rw [List.length_map] at h6
          have k3 : w4.cell? ⟨g, 3, none⟩ = some (.slice (some ⟨b4, off4, none⟩) cur.length cap4) := (Sat.front [_, _] h6).cell 3 rfl
          have f3 : w4.frozen? ⟨g, 3, none⟩ = false := (Sat.front [_, _] h6).frozen 3
          have hdl : (cur.drop nn).length = cur.length - nn := List.length_drop
          have hN6 := OwnB.nilI (t := 5) h6
          have hcl := hI.le
          by_cases hcap : nn = cap4
          · have hcn : cur.length = nn := by omega
            subst hcap
            have r6 := OwnB.rd (OwnB.cutAll (Sat.front [_, _, _] h6) hcn)
            go_wp2_with (at_builtin; refine wpList_append_b (w0 := w0) (p := []) (q := cur.drop nn) rfl _ _ 37 rfl rfl hN6 rfl (slSrc r6) (cur.drop nn) (cur.length - nn) rfl hdl (by omega) ?_)
            intro a9 c9 w9 h9
            have k9 : w9.cell? ⟨g, 3, none⟩ = some _ := (Sat.front [_, _, _] h9).cell 3 rfl
            have f9 : w9.frozen? ⟨g, 3, none⟩ = false := (Sat.front [_, _, _] h9).frozen 3
            clear k3 f3
            go_wp2_with fail
            go_roundg (cur.length - nn)
            case measure => omega
            case rel =>
              have h10 := (Sat.front [_, _, _] h9).set 3 (.slice a9 0 c9)
              have h11 := (Sat.front [_, _, _, _] h10).drop
              exact ⟨done ++ [cur.take nn], c - nn, cur.drop nn, _, hst, by omega, by rw [List.map_append]; exact Sat.re [2, 0, 3, 1] [_, _, _, _] h11⟩
          · have hcap' : nn < cap4 := by omega
            have r6 := OwnB.rd (OwnB.cut (Sat.front [_, _, _] h6) hnn1)
            go_wp2_with (at_builtin; refine wpList_append_b (w0 := w0) (p := []) (q := cur.drop nn) rfl _ _ 37 rfl rfl hN6 rfl (slSrc r6) (cur.drop nn) (cur.length - nn) rfl hdl (by omega) ?_)
            intro a9 c9 w9 h9
            have k9 : w9.cell? ⟨g, 3, none⟩ = some _ := (Sat.front [_, _, _] h9).cell 3 rfl
            have f9 : w9.frozen? ⟨g, 3, none⟩ = false := (Sat.front [_, _, _] h9).frozen 3
            clear k3 f3
            go_wp2_with fail
            go_roundg (cur.length - nn)
            case measure => omega
            case rel =>
              have h10 := (Sat.front [_, _, _] h9).set 3 (.slice a9 (cur.length - nn) c9)
              have h11 := (Sat.front [_, _, _, _] h10).drop
              exact ⟨done ++ [cur.take nn], c - nn, cur.drop nn, _, hst, by omega, by rw [List.map_append]; exact Sat.re [2, 0, 3, 1] [_, _, _, _] h11⟩
  · have e1 : s.nextL = [] := by unfold StM.nextL; rw [hc]; simp
    have e2 : s.next = s := by unfold StM.next; rw [hc]; simp
    rw [e1, e2]
    rw [hc] at c7
    clear hc e1 e2
    go_enter Try.func54, Try.ntmps54
    go_wp2_with fail
    go_ret
    exact ⟨_, rfl, OwnL.nilI hs⟩
end
end Go.Proofs.Ytkejadhkebjdcaa
