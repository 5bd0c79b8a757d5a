/- The law StreamHalf, walked. -/
import Derived.Test.YtinlemeogdnanaaStreamR
namespace Go.Proofs.Ytinlemeogdnanaa
open Go Go.RowKit
set_option linter.unusedVariables false
set_option linter.unusedSimpArgs false

theorem PairI.pass {id : Int} {c : Nat} {s t : StM} (h : PairI id c s t) : PairI id c (passFr c s) (passTo c s t) := by
  have hw : passFin c s = true → s.wait.length ≤ c ∧ s.ended = true ∧ s.told = false := by unfold passFin; simp; intro a b c; exact ⟨a, b, c⟩
  refine ⟨h.i1, h.i2, h.c1, h.c2, h.sid, h.tid, h.scut, h.tcut, h.soth, h.toth, h.sover, ?_, ?_, h.ttold, ?_, h.tmay, ?_, h.tmay0⟩
  · show (t.over || passFin c s) = (s.told || passFin c s)
    rw [h.tover]
  · intro ht
    have ht' : (s.told || passFin c s) = true := ht
    rcases Bool.or_eq_true _ _ ▸ ht' with h1 | h1
    · obtain ⟨h2, h3⟩ := h.stold h1
      exact ⟨by show s.wait.drop c = []; rw [h2]; simp, h3⟩
    · obtain ⟨h2, h3, _⟩ := hw h1
      exact ⟨List.drop_of_length_le h2, h3⟩
  · intro ht
    have ht' : (s.told || passFin c s) = false := ht
    rw [Bool.or_eq_false_iff] at ht'
    show (if s.told then s.may else if (passFin c s && s.over) then s.may - min s.wait.length c else c) = (c : Int)
    rw [ht'.1, ht'.2]
    simp
  · show 0 ≤ (if s.told then s.may else if (passFin c s && s.over) then s.may - min s.wait.length c else (c : Int)) ∧ (if s.told then s.may else if (passFin c s && s.over) then s.may - min s.wait.length c else (c : Int)) ≤ c
    have h1 := h.smay0
    cases hst : s.told
    · have h2 := h.smay hst
      simp only [Bool.false_eq_true, if_false]
      split <;> omega
    · simpa using h1

theorem PairI.new {id : Int} {c : Nat} (h1 : 1 ≤ id) (h2 : id ≤ 65535) (h3 : 1 ≤ c) (h4 : c ≤ 65536) : PairI id c (StM.new id c) (StM.new id c) :=
  ⟨h1, h2, h3, h4, rfl, rfl, rfl, rfl, rfl, rfl, rfl, rfl, (fun h => nomatch h), (fun h => nomatch h), fun _ => rfl, fun _ => rfl, ⟨by simp [StM.new], by simp [StM.new]⟩, ⟨by simp [StM.new], by simp [StM.new]⟩⟩
theorem PairI.send {id : Int} {c : Nat} {s t : StM} (h : PairI id c s t) (b : List UInt8) : PairI id c (s.send b) t := by
  unfold StM.send
  split
  · rename_i hb
    have hcl : s.ended = false := by
      unfold StM.sendB StM.closed at hb
      cases he : s.ended
      · rfl
      · rw [he] at hb; simp at hb
    refine ⟨h.i1, h.i2, h.c1, h.c2, h.sid, h.tid, h.scut, h.tcut, h.soth, h.toth, h.sover, h.tover, ?_, h.ttold, h.smay, h.tmay, h.smay0, h.tmay0⟩
    intro ht
    have := (h.stold ht).2
    rw [hcl] at this
    cases this
  · exact h
theorem PairI.fin {id : Int} {c : Nat} {s t : StM} (h : PairI id c s t) : PairI id c s.fin t := by
  unfold StM.fin
  split
  · exact h
  · exact ⟨h.i1, h.i2, h.c1, h.c2, h.sid, h.tid, h.scut, h.tcut, h.soth, h.toth, h.sover, h.tover, (fun ht => ⟨(h.stold ht).1, rfl⟩), h.ttold, h.smay, h.tmay, h.smay0, h.tmay0⟩

def hfM (wait : List UInt8) (ended told over : Bool) : StM := ⟨7, 2000, 2000, wait, ended, told, over, false⟩
theorem hf1 {a : List UInt8} (h : a.length ≤ 900) : passM (hfM a true false false) (hfM [] false false false) [] = ⟨hfM [] true true false, hfM [] false false true, a, 1⟩ := by
  have hp : PairI 7 2000 (hfM a true false false) (hfM [] false false false) := ⟨by omega, by omega, by omega, by omega, rfl, rfl, rfl, rfl, rfl, rfl, rfl, rfl, (fun h => nomatch h), (fun h => nomatch h), fun _ => rfl, fun _ => rfl, by simp [hfM], by simp [hfM]⟩
  have hfin : passFin 2000 (hfM a true false false) = true := by unfold passFin hfM; simp; omega
  rw [passM_pair hp]
  unfold passFr passTo
  rw [hfin]
  simp only [hfM, List.drop_of_length_le (show a.length ≤ 2000 by omega), List.take_of_length_le (show a.length ≤ 2000 by omega)]
  simp
theorem hf2 {b : List UInt8} (h : b.length ≤ 900) : passM (hfM b false false true) (hfM [] true true false) [] = ⟨hfM [] false false true, hfM [] true true false, b, 0⟩ := by
  have hp : PairI 7 2000 (hfM b false false true) (hfM [] true true false) := ⟨by omega, by omega, by omega, by omega, rfl, rfl, rfl, rfl, rfl, rfl, rfl, rfl, (fun h => nomatch h), (fun _ => ⟨rfl, rfl⟩), fun _ => rfl, fun _ => rfl, by simp [hfM], by simp [hfM]⟩
  have hfin : passFin 2000 (hfM b false false true) = false := by unfold passFin hfM; simp
  rw [passM_pair hp]
  unfold passFr passTo
  rw [hfin]
  simp only [hfM, List.drop_of_length_le (show b.length ≤ 2000 by omega), List.take_of_length_le (show b.length ≤ 2000 by omega)]
  simp
theorem hf3 (b : List UInt8) : passM (hfM [] true false true) (hfM [] true true false) b = ⟨⟨7, 2000, 2000, [], true, true, true, false⟩, hfM [] true true true, b, 1⟩ := by
  have hp : PairI 7 2000 (hfM [] true false true) (hfM [] true true false) := ⟨by omega, by omega, by omega, by omega, rfl, rfl, rfl, rfl, rfl, rfl, rfl, rfl, (fun h => nomatch h), (fun _ => ⟨rfl, rfl⟩), fun _ => rfl, fun _ => rfl, by simp [hfM], by simp [hfM]⟩
  have hfin : passFin 2000 (hfM [] true false true) = true := by decide
  rw [passM_pair hp]
  unfold passFr passTo
  rw [hfin]
  simp [hfM]

section
variable {w0 w : World} {L : List Assn}
set_option maxRecDepth 100000 in
set_option maxHeartbeats 4000000 in
theorem stream_half_law (v u : Value) (a b : List UInt8) (w : World) (hr : RdB w v a) (hr2 : RdB w u b) :
    Calls Try.prog 7 #[v, u] w fun e w' => e = .returned (.bool true) ∧ Below w.heap.size w w' := by
  have hs := Sat.refl w
  obtain ⟨aa, capa, rfl, _, _, _⟩ := hr.form
  obtain ⟨ab, capb, rfl, _, _, _⟩ := hr2.form
  by_cases hbig : 900 < a.length ∨ 900 < b.length
  · have hbb : (900 < a.length) ∨ (¬ 900 < a.length ∧ 900 < b.length) := by omega
    clear hbig
    rcases hbb with hbb | ⟨hb0, hbb⟩
    all_goals
      go_enter Try.func7, Try.ntmps7
      go_wp2_with fail
      refine (stream_awake hs).mono ?_
      rintro _ w1 ⟨rfl, h1⟩
      go_wp2_with fail
      go_ret
      exact ⟨rfl, h1.below⟩
  · have ha : a.length ≤ 900 := by omega
    have hb : b.length ≤ 900 := by omega
    clear hbig
    have p1 := hf1 ha
    have p2 := hf2 hb
    have p3 := hf3 b
    have P1 := hid_ p1
    have P2 := hid_ p2
    have P3 := hid_ p3
    clear p1 p2 p3
    go_enter Try.func7, Try.ntmps7
    go_wp2_with fail
    refine (stream_New 7 2000 (by omega) (by omega) (by omega) (by omega) hs).mono ?_
    rintro _ w1 ⟨g, rfl, h1⟩
    go_wp2_with fail
    refine (stream_New 7 2000 (by omega) (by omega) (by omega) (by omega) h1).mono ?_
    rintro _ w2 ⟨g2, rfl, h2⟩
    replace h2 : Sat w w2 [StA g2 (hfM [] false false false), StA g (hfM [] false false false)] := h2
    clear h1
    go_wp2_with fail
    refine (stream_Send g _ _ a (hr.later h2) h2.swap).mono ?_
    rintro _ w3 ⟨rfl, h3⟩
    have x1 : (hfM [] false false false).sendB a = true := by unfold StM.sendB StM.closed hfM; simp; omega
    rw [x1]
    rw [show (hfM [] false false false).send a = hfM a false false false by unfold StM.send; rw [x1]; rfl] at h3
    clear x1 h2
    go_wp2_with fail
    refine (stream_End g _ h3).mono ?_
    rintro _ w4 ⟨rfl, h4⟩
    rw [show (hfM a false false false).finB = true from rfl]
    rw [show (hfM a false false false).fin = hfM a true false false from rfl] at h4
    clear h3
    go_wp2_with fail
    refine (stream_End g _ h4).mono ?_
    rintro _ w5 ⟨rfl, h5⟩
    rw [show (hfM a true false false).finB = false from rfl]
    rw [show (hfM a true false false).fin = hfM a true false false from rfl] at h5
    clear h4
    go_wp2_with fail
    refine (stream_Send g _ _ a (hr.later h5) h5).mono ?_
    rintro _ w6 ⟨rfl, h6⟩
    rw [show (hfM a true false false).sendB a = false from rfl]
    rw [show (hfM a true false false).send a = hfM a true false false from rfl] at h6
    clear h5
    go_wp2_with fail
    have h7 := Sat.re [4, 5, 3, 0, 2, 1] [_, _, _, _, _, _] (OwnB.nilI (t := 5) (OwnB.nilI (t := 5) (h6.alloc2 (.cells #[.slice none 0 0] 22 (0, 0)) (.cells #[.slice none 0 0] 22 (0, 0)))))
    refine (stream_pass g g2 w6.heap.size 0 _ _ #[.slice none 0 0] 22 _ [] rfl (by decide) h7).mono ?_
    rw [P1.out]
    rintro _ w7 ⟨rfl, vg, h8⟩
    obtain ⟨ag, cg, rfl, _, _, _⟩ := (OwnB.rd (Sat.front [_, _, _] h8)).form
    clear h7 h6
    have c8 : w7.cell? ⟨w6.heap.size, 0, none⟩ = some (.slice ag a.length cg) := (Sat.front [_, _] h8).cell 0 rfl
    have k1 := conv_rd (P := Try.prog) (dst := 9) Try.underlying22 Try.underlying5 Try.underlying9 (OwnB.rd (Sat.front [_, _, _] h8))
    have k2 := conv_rd (P := Try.prog) (dst := 9) Try.underlying22 Try.underlying5 Try.underlying9 (hr.later h8)
    go_wp2_with fail
    refine (stream_Done g _ h8).mono ?_
    rintro _ _ ⟨rfl, rfl⟩
    rw [show (hfM [] true true false).done = false from rfl]
    go_wp2_with fail
    refine (stream_Done g2 _ h8.drop).mono ?_
    rintro _ _ ⟨rfl, rfl⟩
    rw [show (hfM [] false false true).done = false from rfl]
    go_wp2_with fail
    refine (stream_Send g2 _ _ b (hr2.later h8) h8.swap).mono ?_
    rintro _ w9 ⟨rfl, h9⟩
    have x2 : (hfM [] false false true).sendB b = true := by unfold StM.sendB StM.closed hfM; simp; omega
    rw [x2]
    rw [show (hfM [] false false true).send b = hfM b false false true by unfold StM.send; rw [x2]; rfl] at h9
    clear x2 h8 c8 k1 k2
    go_wp2_with fail
    have h10 := Sat.re [0, 1, 4, 5, 2, 3] [_, _, _, _, _, _] h9
    refine (stream_pass g2 g (w6.heap.size + 1) 0 _ _ #[.slice none 0 0] 22 _ [] rfl (by decide) h10).mono ?_
    rw [P2.out]
    rintro _ w11 ⟨rfl, vb, h11⟩
    obtain ⟨al, cl, rfl, _, _, _⟩ := (OwnB.rd (Sat.front [_, _, _] h11)).form
    clear h9 h10
    have c11 : w11.cell? ⟨w6.heap.size + 1, 0, none⟩ = some (.slice al b.length cl) := (Sat.front [_, _] h11).cell 0 rfl
    have k3 := conv_rd (P := Try.prog) (dst := 9) Try.underlying22 Try.underlying5 Try.underlying9 (OwnB.rd (Sat.front [_, _, _] h11))
    have k4 := conv_rd (P := Try.prog) (dst := 9) Try.underlying22 Try.underlying5 Try.underlying9 (hr2.later h11)
    go_wp2_with fail
    refine (stream_End g2 _ h11).mono ?_
    rintro _ w12 ⟨rfl, h12⟩
    rw [show (hfM [] false false true).finB = true from rfl]
    rw [show (hfM [] false false true).fin = hfM [] true false true from rfl] at h12
    clear h11 c11 k3 k4
    go_wp2_with fail
    refine (stream_pass g2 g (w6.heap.size + 1) 0 _ _ _ 22 _ b rfl (by omega) h12).mono ?_
    rw [P3.out]
    rintro _ w13 ⟨rfl, vc, h13⟩
    clear h12
    go_wp2_with fail
    refine (stream_Done g _ h13.drop).mono ?_
    rintro _ _ ⟨rfl, rfl⟩
    rw [show (hfM [] true true true).done = true from rfl]
    go_wp2_with fail
    refine (stream_Done g2 _ h13).mono ?_
    rintro _ _ ⟨rfl, rfl⟩
    rw [show (⟨7, 2000, 2000, [], true, true, true, false⟩ : StM).done = true from rfl]
    go_wp2_with fail
    refine (stream_Next g _ h13.swap).mono ?_
    rintro _ w14 ⟨vn, rfl, h14⟩
    rw [show (hfM [] true true true).nextL = [] by rw [StM.nextL_of (hid_ rfl)]; simp [hfM, chunk_nil, StM.finNow, StM.mid]] at h14
    obtain ⟨an, cn, rfl, _, _⟩ := OwnL.form h14
    clear h13
    go_wp2_with fail
    refine (stream_awake h14).mono ?_
    rintro _ w15 ⟨rfl, h15⟩
    go_wp2_with fail
    go_ret
    exact ⟨rfl, h15.below⟩
end
end Go.Proofs.Ytinlemeogdnanaa
