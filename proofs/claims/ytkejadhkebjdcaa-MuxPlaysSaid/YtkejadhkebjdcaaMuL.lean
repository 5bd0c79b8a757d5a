/- The law's own 'like', walked. -/
import Derived.Deep.DeepCutAuto
import Derived.Test.YtkejadhkebjdcaaMuF
namespace Go.Proofs.Ytkejadhkebjdcaa
open Go Go.RowKit Go.Maps
set_option linter.unusedVariables false
set_option linter.unusedSimpArgs false
section
variable {w0 w : World} {L : List Assn}
theorem ids_n (l : List (Nat × StM)) : (idsOf l).length = l.length := List.length_map _
set_option maxRecDepth 100000 in
set_option maxHeartbeats 4000000 in
theorem law_like {m g N : Nat} {cr mo cr2 mo2 : Int} {l r : List (Nat × StM)} (hN : N ≤ 9) (hsame : r.map (·.2) = l.map (·.2)) (hs : Sat w0 w (MxA m cr mo l :: RMx g cr2 mo2 r :: L)) :
    Calls Try.prog 38 #[.pointer (some ⟨m, 0, none⟩), .pointer (some ⟨g, 0, none⟩), .int .i64 N] w fun e w' => e = .returned (.bool true) ∧ Sat w0 w' (MxA m cr mo l :: RMx g cr2 mo2 r :: L) := by
  have hok := MxA.ok hs
  have hn64 : l.length ≤ 64 := by have := hok.len; have := hok.mo2; omega
  have hrise := hid_ hok.rise
  have hle := eq_len hsame
  have HS := hid_ hsame
  obtain ⟨n, hn⟩ : ∃ n, l.length = n := ⟨_, rfl⟩
  have HN := hid_ hn
  have HR := hid_ (hle.trans hn)
  have hids : (idsOf l).length = n := by rw [ids_n, hn]
  have HI := hid_ hids
  rw [hn] at hn64
  have H1 := law_ids 100 (by omega) hs
  rw [List.take_of_length_le (by rw [hids]; omega), hids] at H1
  clear hok hsame hle hn hids
  go_enter Try.func38, Try.ntmps38
  go_wp2_with fail
  refine H1.mono ?_
  rintro _ w1 ⟨a1, c1, rfl, h1⟩
  clear H1 hs
  obtain ⟨ar, kr, hk1, hk2, h2⟩ := RMx.opn (Sat.re [2, 1, 0] [_, _, _] h1)
  rw [HR.out] at h2 hk1
  unfold maxLen at hk2
  have h3 : Sat w0 w1 (MxA m cr mo l :: Blk g (.cells #[.int .i64 cr2, .int .i64 mo2, .slice ar n kr] 86 (0, 0)) :: OwnS 56 1 (.slice ar n kr) n (ptrC r) :: (rsP r ++ Ints (.slice a1 n c1) (idsOf l) :: L)) := Sat.front (Blk g (.cells #[.int .i64 cr2, .int .i64 mo2, .slice ar n kr] 86 (0, 0)) :: OwnS 56 1 (.slice ar n kr) n (ptrC r) :: rsP r) h2
  have h3d := h3.drew
  have cA : w1.drew.cell? ⟨g, 2, none⟩ = some (.slice ar n kr) := (Sat.front [_] h3d).cell 2 rfl
  have H2 := law_ids N (by omega) h3d
  obtain ⟨t, ht⟩ : ∃ t, ((idsOf l).take N).length = t := ⟨_, rfl⟩
  have ht2 : t = min N n := by rw [← ht, List.length_take, HI.out]
  have hm : ((t : Int) != min (N : Int) (n : Int)) = false := by
    have : (t : Int) = min (N : Int) (n : Int) := by rw [ht2]; omega
    rw [this]
    exact bne_self_eq_false _
  rw [ht] at H2
  have H3 := mux_Len h3d
  rw [HN.out] at H3
  clear h2 ht ht2 h1
  go_upto_region 2 with fail
  go_cut [41] (fun v41 wx => v41 = .bool false ∧ Sat w0 wx (MxA m cr mo l :: Blk g (.cells #[.int .i64 cr2, .int .i64 mo2, .slice ar n kr] 86 (0, 0)) :: OwnS 56 1 (.slice ar n kr) n (ptrC r) :: (rsP r ++ Ints (.slice a1 n c1) (idsOf l) :: L)))
  case first =>
    go_region_held3 (fun W => W.cell? ⟨g, 2, none⟩ = some (.slice ar n kr)) (first | exact cA | exact cB)
      ((first | (go_at_call 12; refine H3.mono ?_; rintro _ _ ⟨rfl, rfl⟩) | (go_at_call 13; refine H2.mono ?_; rintro _ w4 ⟨a4, c4, rfl, h4⟩; have cB : w4.cell? ⟨g, 2, none⟩ = some (.slice ar n kr) := (Sat.front [_, _] h4).cell 2 rfl)))
    all_goals
      go_wp2_with fail
      go_meet
      exact ⟨rfl, h4.drop⟩
  obtain ⟨rfl, h5⟩ := hcut
  clear h3 h3d cA H2 H3
  have cB : wc.cell? ⟨g, 2, none⟩ = some (.slice ar n kr) := (Sat.front [_] h5).cell 2 rfl
  go_wp2_with fail
  go_loopg [47] n (fun gg v47 wr => ∃ i : Nat, i ≤ n ∧ n - i ≤ gg ∧ v47 = .int .i64 i ∧ Sat w0 wr (MxA m cr mo l :: Blk g (.cells #[.int .i64 cr2, .int .i64 mo2, .slice ar n kr] 86 (0, 0)) :: OwnS 56 1 (.slice ar n kr) n (ptrC r) :: (rsP r ++ Ints (.slice a1 n c1) (idsOf l) :: L)))
  case atStart => exact ⟨0, by omega, by omega, rfl, h5⟩
  case round =>
    obtain ⟨i, hi, hgg, rfl, h⟩ := hrel
    clear h5 cB hm
    by_cases hlt : i < n
    · obtain ⟨e, he⟩ : ∃ e, l[i]? = some e := ⟨_, List.getElem?_eq_getElem (by rw [HN.out]; exact hlt)⟩
      obtain ⟨d, hd⟩ := eq_at HS.out he
      obtain ⟨b, o, rfl, c0, d0⟩ := rm_at h.drop.drop hd hlt
      obtain ⟨F, hX1, _⟩ := MxA.foc he h
      have hidok := StA.ok hX1
      have hh := Sat.back (Blk g (.cells #[.int .i64 cr2, .int .i64 mo2, .slice (some ⟨b, o, none⟩) n kr] 86 (0, 0)) :: OwnS 56 1 (.slice (some ⟨b, o, none⟩) n kr) n (ptrC r) :: rsP r) (L2 := Ints (.slice a1 n c1) (idsOf l) :: L) h
      have hh2 : Sat w0 wr (RMx g cr2 mo2 r :: MxA m cr mo l :: Ints (.slice a1 n c1) (idsOf l) :: L) := RMx.shut (v := .slice (some ⟨b, o, none⟩) n kr) (by rw [HR.out]; exact hh)
      obtain ⟨F2, hX2, _⟩ := RMx.foc hd hh2
      obtain ⟨gc9, v9, hok9, h91⟩ := RSt.opn hX2
      obtain ⟨a9, c9, rfl, _, _⟩ := OwnS.form (Sat.front [_, _] h91)
      have r3 : wr.cell? ⟨d, 3, none⟩ = some (.slice a9 e.2.wait.length c9) := h91.cell 3 rfl
      have hIn := Sat.front [_, _] hh2
      obtain ⟨b1, o1, k1, e1, _, _, _, _⟩ := OwnS.cells hIn (by rw [HI.out]; omega)
      injection e1 with e1 z1 z2
      subst e1 z2
      have c4 := Ints.at hIn (i := i) (x := e.2.id) (by unfold idsOf; rw [List.getElem?_map, he]; rfl)
      have hG := mux_Get e.2.id (by
        have h1 := hidok.1
        have h2 := hidok.2.1
        unfold Lit.wf
        simp only [IntKind.min, IntKind.max, IntKind.signed, IntKind.bits, Bool.and_eq_true, decide_eq_true_eq]
        constructor <;> simp <;> omega) h
      rw [getM_at hrise.out he] at hG
      have d9 : (e.2.done != e.2.done) = false := bne_self_eq_false _
      have hw9 := hok9.2.2.2.2
      have z5 : (i : Int) < (n : Int) := by omega
      clear z1 h91 hh hh2 hIn he hd hok9 hidok
      go_wp2_with fail
      refine hG.mono ?_
      rintro _ _ ⟨rfl, rfl⟩
      go_wp2_with fail
      go_quiet ((first | (go_at_call 44; exact quiet_same (stream_Done e.1 e.2 (Sat.drewN hX1 _))) | (go_at_call 55; exact quiet_same (rst_Done d e.2 (Sat.drewN hX2 _))) | (go_at_call 61; exact quiet_same (stream_Waits e.1 e.2 (Sat.drewN hX1 _)))))
      go_wp2_with fail
      go_roundg (n - (i + 1))
      case measure => omega
      case rel => exact ⟨i + 1, by omega, by omega, by go_num, h.drewN _⟩
    · obtain rfl : i = n := by omega
      go_wp2_with fail
      go_ret
      refine ⟨rfl, ?_⟩
      have h6 : Sat w0 wr (RMx g cr2 mo2 r :: MxA m cr mo l :: Ints (.slice a1 i c1) (idsOf l) :: L) := RMx.shut (v := .slice ar i kr) (by rw [HR.out]; exact Sat.back (Blk g (.cells #[.int .i64 cr2, .int .i64 mo2, .slice ar i kr] 86 (0, 0)) :: OwnS 56 1 (.slice ar i kr) i (ptrC r) :: rsP r) h)
      exact (Sat.front [_, _] h6).drop.swap
end
end Go.Proofs.Ytkejadhkebjdcaa
