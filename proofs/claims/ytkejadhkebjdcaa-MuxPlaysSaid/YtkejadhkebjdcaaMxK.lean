/- The law's helpers ids and awake, over owned memory. -/
import Derived.Test.YtkejadhkebjdcaaMxJ
namespace Go.Proofs.Ytkejadhkebjdcaa
open Go Go.RowKit Go.Maps Go.Sort Go.Shelf
set_option linter.unusedVariables false
set_option linter.unusedSimpArgs false

/-- A slice of numbers that is owned. -/
def Ints (v : Value) (l : List Int) : Assn := OwnS 3 1 v l.length (l.map encZ)
section
variable {w0 w : World} {L : List Assn}
theorem Ints.at {g o n c : Nat} {l : List Int} (h : Sat w0 w (Ints (.slice (some ⟨g, o, none⟩) n c) l :: L)) {i : Nat} {x : Int} (hi : l[i]? = some x) : w.cell? ⟨g, o + i, none⟩ = some (.int .i64 x) := by
  obtain ⟨g', o', c', he, _, _, hc, _⟩ := OwnS.cells h (by have := (List.getElem?_eq_some_iff.1 hi).1; omega)
  injection he with e1 e2 e3
  injection e1 with e1
  injection e1 with e1 e4
  subst e1 e4
  exact hc i _ (by rw [List.getElem?_map, hi]; rfl)
theorem law_ids {m : Nat} {cr mo : Int} {l : List (Nat × StM)} (N : Nat) (hN : N ≤ 1000) (hs : Sat w0 w (MxA m cr mo l :: L)) :
    Calls Try.prog 13 #[.pointer (some ⟨m, 0, none⟩), .int .i64 N] w fun e w' => ∃ a c, e = .returned (.slice a ((idsOf l).take N).length c) ∧ Sat w0 w' (Ints (.slice a ((idsOf l).take N).length c) ((idsOf l).take N) :: MxA m cr mo l :: L) := by
  obtain ⟨b, hok, h1⟩ := MxA.opn hs
  have hl64 : l.length ≤ 64 := by have := hok.len; have := hok.mo2; omega
  have hm := h1.lt
  have hcm := h1.cell 2 rfl
  have ho := MapP.owns h1.swap
  refine (callsIn_wide.1 (ids_in 10 (by omega) (some ⟨m, 0, none⟩) N hN (idsOf l) (fun pre => ∃ k, k < l.length ∧ pre = (idsOf l).take (k + 1)) l.length (by omega) (fun pre ⟨k, hk, hp⟩ => ⟨k, by simpa [idsOf] using hk, hp⟩) w ?_)).mono ?_
  · intro w1 Bm o B hb hBm hcb ho1 hB hout
    have hsz := hb.size
    exact ids_stops (10 - 1) (by omega) Bm m b l.length l hok.rise hl64 (KpO o B) (SafeO o B) KpO.safe w1 (safeO_start ho1 hB hout) hBm hcb (by omega) ((hb.cell (p := ⟨m, 2, none⟩) hm).trans hcm) (by
      have hbl := ho.lt
      obtain ⟨es, clock, hbb, Ft, hs, hD⟩ := ho
      exact ⟨es, clock, (hb.block b hbl).trans hbb, Ft, hs, hD⟩)
  · rintro _ w' ⟨v, rfl, hb, hrow⟩
    obtain ⟨a, c, rfl⟩ := row_form hrow
    exact ⟨a, c, rfl, hs.trans (OwnS.ofRow hb hrow)⟩
theorem law_ids_nil (N : Nat) (hN : N ≤ 1000) (hs : Sat w0 w L) :
    Calls Try.prog 13 #[.pointer none, .int .i64 N] w fun e w' => ∃ a c, e = .returned (.slice a 0 c) ∧ Sat w0 w' L := by
  refine (callsIn_wide.1 (ids_in 10 (by omega) none N hN [] (fun _ => False) 0 (by omega) (fun pre h => h.elim) w ?_)).mono ?_
  · intro w1 Bm o B hb hBm hcb ho1 hB hout
    exact ids_stops_nil (10 - 1) Bm (KpO o B) w1 hBm hcb
  · rintro _ w' ⟨v, rfl, hb, hrow⟩
    simp only [List.take_nil, List.length_nil, List.map_nil] at hrow
    obtain ⟨a, c, rfl⟩ := row_form hrow
    exact ⟨a, c, rfl, hs.under hb⟩
set_option maxRecDepth 100000 in
set_option maxHeartbeats 4000000 in
theorem mx_awake (hs : Sat w0 w L) : Calls Try.prog 14 #[] w fun e w' => e = .returned (.bool true) ∧ Sat w0 w' L := by
  have k5 : (Lit.int .i64 5).wf = true := by decide
  have k2 : (Lit.int .i64 2).wf = true := by decide
  go_enter Try.func14, Try.ntmps14
  go_wp2_with fail
  refine (mux_New 100 4 hs).mono ?_
  rintro _ w1 ⟨m, rfl, h1⟩
  go_wp2_with fail
  refine (mux_Open 5 k5 h1).mono ?_
  rintro _ w2 ⟨g1, rfl, h2⟩
  have e1 : openB (max 1 (min 4 64)) [] 5 = true := by decide
  rw [e1]
  have e2 : openM (max 1 (min 100 65536)) (max 1 (min 4 64)) [] 5 g1 = [(g1, StM.new 5 100)] := rfl
  rw [e2] at h2
  go_wp2_with fail
  refine (mux_Open 2 k2 h2).mono ?_
  rintro _ w3 ⟨g2, rfl, h3⟩
  have e3 : openB (max 1 (min 4 64)) [(g1, StM.new 5 100)] 2 = true := rfl
  rw [e3]
  have e4 : openM (max 1 (min 100 65536)) (max 1 (min 4 64)) [(g1, StM.new 5 100)] 2 g2 = [(g2, StM.new 2 100), (g1, StM.new 5 100)] := rfl
  rw [e4] at h3
  go_wp2_with fail
  refine (mux_Open 5 k5 h3).mono ?_
  rintro _ w4 ⟨g3, rfl, h4⟩
  have e5 : openB (max 1 (min 4 64)) [(g2, StM.new 2 100), (g1, StM.new 5 100)] 5 = false := rfl
  rw [e5]
  have e6 : openM (max 1 (min 100 65536)) (max 1 (min 4 64)) [(g2, StM.new 2 100), (g1, StM.new 5 100)] 5 g3 = [(g2, StM.new 2 100), (g1, StM.new 5 100)] := rfl
  rw [e6] at h4
  clear h1 h2 h3 e1 e2 e3 e4 e5 e6
  go_wp2_with fail
  refine (mux_Len h4).mono ?_
  rintro _ _ ⟨rfl, rfl⟩
  go_wp2_with fail
  refine (law_ids 9 (by omega) h4).mono ?_
  rintro _ w5 ⟨a, c, rfl, h5⟩
  have e7 : (idsOf [(g2, StM.new 2 100), (g1, StM.new 5 100)]).take 9 = [2, 5] := rfl
  rw [e7] at h5 ⊢
  obtain ⟨g, o, cc, he, -⟩ := OwnS.cells h5 (by decide)
  injection he with e8 e9 e10
  subst e8
  clear e9 e10
  have c0 := Ints.at h5 (i := 0) rfl
  have c1 := Ints.at h5 (i := 1) rfl
  rw [Nat.add_zero] at c0
  go_wp2_with fail
  have hG := mux_Get 5 k5 h5.drop
  rw [show (getM [(g2, StM.new 2 100), (g1, StM.new 5 100)] 5).map (fun e => (⟨e.1, 0, none⟩ : Addr)) = some ⟨g1, 0, none⟩ from rfl] at hG
  refine hG.mono ?_
  rintro _ _ ⟨rfl, rfl⟩
  go_wp2_with fail
  refine hG.mono ?_
  rintro _ _ ⟨rfl, rfl⟩
  obtain ⟨b, hok, h6⟩ := MxA.opn h5.drop
  have h7 : Sat w0 _ (StA g1 (StM.new 5 100) :: L) := (Sat.drop (Sat.drop (Sat.drop h6)))
  go_wp2_with fail
  refine (stream_Id g1 _ h7).mono ?_
  rintro _ _ ⟨rfl, rfl⟩
  rw [show (StM.new 5 100).id = 5 from rfl]
  go_wp2_with fail
  go_ret
  exact ⟨rfl, h5.drop.drop⟩
end
end Go.Proofs.Ytkejadhkebjdcaa
