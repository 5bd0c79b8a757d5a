/- The law: what is sent goes in pieces of a thousand. -/
import Derived.Test.YtinlemeogdnanaaStreamA
namespace Go.Proofs.Ytinlemeogdnanaa
open Go Go.RowKit
set_option linter.unusedVariables false
set_option linter.unusedSimpArgs false

theorem chunk_length (l : List UInt8) : (chunk l).length = (l.length + 999) / 1000 := by
  induction hn : l.length using Nat.strongRecOn generalizing l with
  | _ n ih =>
    by_cases h : l.length = 0
    · have : l = [] := List.eq_nil_of_length_eq_zero h
      subst this
      rw [chunk_nil]
      simp at hn
      subst hn
      rfl
    · rw [chunk_cons (by omega), List.length_cons, ih (l.drop 1000).length (by rw [List.length_drop]; omega) _ rfl, List.length_drop]
      omega
theorem chunk_get (l : List UInt8) (i : Nat) (h : 1000 * i < l.length) : (chunk l)[i]? = some ((l.drop (1000 * i)).take 1000) := by
  induction i generalizing l with
  | zero => rw [chunk_cons (by omega)]; simp
  | succ i ih =>
    rw [chunk_cons (by omega), List.getElem?_cons_succ, ih _ (by rw [List.length_drop]; omega), List.drop_drop]
    congr 3
    omega

def psM (b : List UInt8) (en : Bool) : StM := ⟨3, 65536, 65536, b, en, false, false, false⟩
theorem psM_sent {b : List UInt8} {en : Bool} (h : b.length ≤ 6000) : (psM b en).sent = b.length := by
  unfold StM.sent psM takeC
  simp only
  omega
theorem psM_mid {b : List UInt8} {en : Bool} (h : b.length ≤ 6000) : (psM b en).mid = ⟨3, 65536 - b.length, 65536, [], en, false, false, false⟩ := by
  unfold StM.mid
  rw [psM_sent h]
  simp [psM]
theorem psM_nextL {b : List UInt8} {en : Bool} (h : b.length ≤ 6000) : (psM b en).nextL = (chunk b).map (FrM.dataF 3) ++ if en then [FrM.finF 3] else [] := by
  unfold StM.nextL
  rw [psM_mid h, psM_sent h]
  simp [psM, StM.finNow]
theorem psM_next {b : List UInt8} {en : Bool} (h : b.length ≤ 6000) : (psM b en).next = ⟨3, 65536 - b.length, 65536, [], en, en, false, false⟩ := by
  unfold StM.next
  rw [psM_mid h]
  simp [psM, StM.finNow]
theorem psM_again {m : Int} {en : Bool} : (⟨3, m, 65536, [], en, en, false, false⟩ : StM).nextL = [] := by
  have h : (⟨3, m, 65536, [], en, en, false, false⟩ : StM).sent = 0 := by unfold StM.sent takeC; simp; omega
  unfold StM.nextL
  rw [h]
  simp only [List.take_nil, chunk_nil, List.map_nil, StM.finNow, StM.mid, h, List.drop_nil]
  cases en <;> simp
/-- Frame i of what is sent: a piece, or the end. -/
theorem psM_get {b : List UInt8} {en : Bool} {i : Nat} (hi : i < (b.length + 999) / 1000) : ((chunk b).map (FrM.dataF 3) ++ if en then [FrM.finF 3] else [])[i]? = some (FrM.dataF 3 ((b.drop (1000 * i)).take 1000)) := by
  rw [List.getElem?_append_left (by rw [List.length_map, chunk_length]; exact hi), List.getElem?_map, chunk_get b i (by omega)]
  rfl
theorem psM_last {b : List UInt8} : ((chunk b).map (FrM.dataF 3) ++ if true then [FrM.finF 3] else [])[(b.length + 999) / 1000]? = some (FrM.finF 3) := by
  rw [List.getElem?_append_right (by rw [List.length_map, chunk_length]; exact Nat.le_refl _), List.length_map, chunk_length]
  simp

section
variable {w0 w : World} {L : List Assn}

set_option maxRecDepth 100000 in
set_option maxHeartbeats 2000000 in
theorem stream_pieces_law (v : Value) (b : List UInt8) (en : Bool) (w : World) (hr : RdB w v b) :
    Calls Try.prog 3 #[v, .bool en] w fun e w' => e = .returned (.bool true) ∧ Below w.heap.size w w' := by
  have hs := Sat.refl w
  obtain ⟨a, cap, rfl, hl1, hl2, hl3⟩ := hr.form
  by_cases hbig : 6000 < b.length
  · go_enter Try.func3, Try.ntmps3
    go_wp2_with fail
    refine (stream_awake hs).mono ?_
    rintro _ w1 ⟨rfl, h1⟩
    go_wp2_with fail
    go_ret
    exact ⟨rfl, h1.below⟩
  · have hsm : b.length ≤ 6000 := by omega
    go_enter Try.func3, Try.ntmps3
    go_wp2_with fail
    refine (stream_New 3 65536 (by omega) (by omega) (by omega) (by omega) hs).mono ?_
    rintro _ w1 ⟨g, rfl, h1⟩
    go_wp2_with fail
    refine (stream_Send g _ _ b (hr.later h1) h1).mono ?_
    rintro _ w2 ⟨rfl, h2⟩
    rw [show (StM.new 3 65536).sendB b = true from by unfold StM.sendB StM.new StM.closed; simp; omega]
    have e1 : (StM.new 3 65536).send b = ⟨3, 65536, 65536, b, false, false, false, false⟩ := by
      unfold StM.send
      rw [show (StM.new 3 65536).sendB b = true from by unfold StM.sendB StM.new StM.closed; simp; omega]
      rfl
    rw [e1] at h2
    clear e1 h1
    cases en
    · replace h2 : Sat w w2 [StA g (psM b false)] := h2
      go_wp2_with fail
      refine (stream_Next g _ h2).mono ?_
      rintro _ w4 ⟨vl, rfl, h4⟩
      clear h2
      rw [psM_nextL hsm, psM_next hsm] at h4
      have hlen : ((chunk b).map (FrM.dataF 3) ++ if false then [FrM.finF 3] else []).length = (b.length + 999) / 1000 + 0 := by simp [chunk_length]
      obtain ⟨al, cl, rfl, hcl1, hcl2⟩ := OwnL.form h4
      rw [hlen] at h4 hcl1 ⊢
      obtain ⟨m, hm⟩ : ∃ m, (b.length + 999) / 1000 = m := ⟨_, rfl⟩
      have hm7 : m ≤ 7 := by omega
      have hq : ((b.length : Int) + 999) / 1000 = (m : Int) := by omega
      rw [hm] at h4 hcl1 ⊢
      have hb1 : (b.length : Int) ≤ 6000 := by omega
      have hb2 : 0 ≤ (b.length : Int) := by omega
      go_wp2_with fail
      rw [hq]
      have HM := hid_ hm
      clear hq hlen hm
      go_loopw [39] (fun vi wr => ∃ i : Nat, i ≤ m ∧ vi = .int .i64 i ∧ Sat w wr (FramesA (.slice al (m) cl) ((chunk b).map (FrM.dataF 3) ++ if false then [FrM.finF 3] else []) :: StA g ⟨3, 65536 - b.length, 65536, [], false, false, false, false⟩ :: [])) (fun vi _ => m - (intOf vi).toNat)
      case atStart => exact ⟨0, by omega, rfl, h4⟩
      case round =>
        obtain ⟨i, hi, rfl, hs4⟩ := hrel
        clear h4
        by_cases hlt : i < m
        · have hget := psM_get (b := b) (en := false) (i := i) (by rw [HM.out]; exact hlt)
          obtain ⟨b2, off, ip, d, rfl, hrd⟩ := FramesA.at2 hs4 hget
          obtain ⟨ai, ci, ad, cd, rfl, rfl, hdat, q0, q1, q2, q3, q4, q5, q6, q7, q8⟩ := hrd.piece
          clear hget hrd
          generalize hpc : (b.drop (1000 * i)).take 1000 = pc at *
          have Hpc := hid_ hpc
          clear hpc
          have hblen : 1000 * i < b.length := by have := HM.out; omega
          obtain ⟨b0, off0, cap0, hv0, _, _, _, _⟩ := hr.at (i := 0) (by omega)
          injection hv0 with hv0 _ hv1
          subst hv0
          subst hv1
          have hxi : ((i : Int) == (m : Int)) = false := by rw [beq_eq_false_iff_ne]; omega
          have hle : i ≤ m := Nat.le_of_lt hlt
          have hxj : decide ((m : Int) < (i : Int)) = false := by rw [decide_eq_false_iff_not]; omega
          obtain ⟨lo, hlo⟩ : ∃ lo : Nat, 1000 * i = lo := ⟨_, rfl⟩
          obtain ⟨l2, hl2'⟩ : ∃ l2 : Nat, lo + 1000 = l2 := ⟨_, rfl⟩
          obtain ⟨hh, hhh⟩ : ∃ hh : Nat, min l2 b.length = hh := ⟨_, rfl⟩
          have E1 : IntKind.i64.wrap (1000 * (i : Int)) = (lo : Int) := by rw [IntWalk.i64_in _ (by omega)]; omega
          have E2 : IntKind.i64.wrap ((lo : Int) + 1000) = (l2 : Int) := by rw [IntWalk.i64_in _ (by omega)]; omega
          have E3 : min (l2 : Int) (b.length : Int) = (hh : Int) := by omega
          have y0 : (0 : Int) ≤ (lo : Int) := by omega
          have y1 : (lo : Int) ≤ (hh : Int) := by omega
          have y2 : (hh : Int) ≤ (cap : Int) := by omega
          have y3 : (0 : Int) ≤ (hh : Int) := by omega
          have y4 : cap ≠ lo := by omega
          have hcut := RdB.cut (lo := lo) (hi := hh) hr (by omega) (by omega)
          have hpe : (b.drop lo).take (hh - lo) = pc := by
            rw [← Hpc.out, hlo, List.take_eq_take_min (i := 1000), List.length_drop]
            congr 1
            omega
          rw [hpe] at hcut
          clear hpe hlo hl2' hhh
          have hW : ∀ o n, RdB ((wr.alloc o).drewN n) (.slice ad pc.length cd) pc := fun o n => hdat.mono (((Below.refl _ _).alloc (Nat.le_refl _) _).trans ⟨rfl, rfl, rfl, by simp, fun _ _ => rfl⟩)
          have hcv1 := fun o n => conv_rd (P := Try.prog) (dst := 9) Try.underlying22 Try.underlying5 Try.underlying9 (hW o n)
          have hW2 : ∀ o n, RdB ((wr.alloc o).drewN n) (.slice (some ⟨b0, off0 + lo, none⟩) (hh - lo) (cap - lo)) pc := fun o n => hcut.mono ((hs4.below).trans (((Below.refl _ _).alloc hs4.below.size _).trans ⟨rfl, rfl, rfl, by simp, fun _ _ => rfl⟩))
          have hcv2 := fun o n => conv_rd (P := Try.prog) (dst := 9) Try.underlying22 Try.underlying5 Try.underlying9 (hW2 o n)
          go_wp2_with fail
          go_quiet (fail)
          clear E1 E2 E3 hcv1 hcv2 hW hW2
          go_wp2_with fail
          go_roundw
          case rel => exact ⟨i + 1, by omega, by go_num, (hs4.alloc_ _).drewN nq⟩
          case measure => simp [intOf]; omega
        · obtain rfl : i = m := by omega
          go_wp2_with fail
          refine (stream_Next g _ hs4.drop).mono ?_
          rintro _ w5 ⟨v5, rfl, h5⟩
          rw [psM_again] at h5
          obtain ⟨a5, c5, rfl, _, _⟩ := OwnL.form h5
          go_wp2_with fail
          refine (stream_awake h5).mono ?_
          rintro _ w6 ⟨rfl, h6⟩
          go_wp2_with fail
          go_ret
          exact ⟨by simp; try omega, h6.below⟩
    · go_wp2_with fail
      refine (stream_End g _ h2).mono ?_
      rintro _ w3 ⟨rfl, h3⟩
      rw [show (⟨3, 65536, 65536, b, false, false, false, false⟩ : StM).finB = true from rfl]
      clear h2
      replace h2 : Sat w w3 [StA g (psM b true)] := h3
      clear h3
      go_wp2_with fail
      refine (stream_Next g _ h2).mono ?_
      rintro _ w4 ⟨vl, rfl, h4⟩
      clear h2
      rw [psM_nextL hsm, psM_next hsm] at h4
      have hlen : ((chunk b).map (FrM.dataF 3) ++ if true then [FrM.finF 3] else []).length = (b.length + 999) / 1000 + 1 := by simp [chunk_length]
      obtain ⟨al, cl, rfl, hcl1, hcl2⟩ := OwnL.form h4
      rw [hlen] at h4 hcl1 ⊢
      obtain ⟨m, hm⟩ : ∃ m, (b.length + 999) / 1000 = m := ⟨_, rfl⟩
      have hm7 : m ≤ 7 := by omega
      have hq : ((b.length : Int) + 999) / 1000 = (m : Int) := by omega
      rw [hm] at h4 hcl1 ⊢
      have hb1 : (b.length : Int) ≤ 6000 := by omega
      have hb2 : 0 ≤ (b.length : Int) := by omega
      go_wp2_with fail
      rw [hq]
      have HM := hid_ hm
      clear hq hlen hm
      go_loopw [39] (fun vi wr => ∃ i : Nat, i ≤ m + 1 ∧ vi = .int .i64 i ∧ Sat w wr (FramesA (.slice al (m + 1) cl) ((chunk b).map (FrM.dataF 3) ++ if true then [FrM.finF 3] else []) :: StA g ⟨3, 65536 - b.length, 65536, [], true, true, false, false⟩ :: [])) (fun vi _ => m + 1 - (intOf vi).toNat)
      case atStart => exact ⟨0, by omega, rfl, h4⟩
      case round =>
        obtain ⟨i, hi, rfl, hs4⟩ := hrel
        clear h4
        by_cases hlt : i < m
        · have hget := psM_get (b := b) (en := true) (i := i) (by rw [HM.out]; exact hlt)
          obtain ⟨b2, off, ip, d, rfl, hrd⟩ := FramesA.at2 hs4 hget
          obtain ⟨ai, ci, ad, cd, rfl, rfl, hdat, q0, q1, q2, q3, q4, q5, q6, q7, q8⟩ := hrd.piece
          clear hget hrd
          generalize hpc : (b.drop (1000 * i)).take 1000 = pc at *
          have Hpc := hid_ hpc
          clear hpc
          have hblen : 1000 * i < b.length := by have := HM.out; omega
          obtain ⟨b0, off0, cap0, hv0, _, _, _, _⟩ := hr.at (i := 0) (by omega)
          injection hv0 with hv0 _ hv1
          subst hv0
          subst hv1
          have hxi : ((i : Int) == (m : Int)) = false := by rw [beq_eq_false_iff_ne]; omega
          have hle : i ≤ m := Nat.le_of_lt hlt
          have hxj : decide ((m : Int) < (i : Int)) = false := by rw [decide_eq_false_iff_not]; omega
          obtain ⟨lo, hlo⟩ : ∃ lo : Nat, 1000 * i = lo := ⟨_, rfl⟩
          obtain ⟨l2, hl2'⟩ : ∃ l2 : Nat, lo + 1000 = l2 := ⟨_, rfl⟩
          obtain ⟨hh, hhh⟩ : ∃ hh : Nat, min l2 b.length = hh := ⟨_, rfl⟩
          have E1 : IntKind.i64.wrap (1000 * (i : Int)) = (lo : Int) := by rw [IntWalk.i64_in _ (by omega)]; omega
          have E2 : IntKind.i64.wrap ((lo : Int) + 1000) = (l2 : Int) := by rw [IntWalk.i64_in _ (by omega)]; omega
          have E3 : min (l2 : Int) (b.length : Int) = (hh : Int) := by omega
          have y0 : (0 : Int) ≤ (lo : Int) := by omega
          have y1 : (lo : Int) ≤ (hh : Int) := by omega
          have y2 : (hh : Int) ≤ (cap : Int) := by omega
          have y3 : (0 : Int) ≤ (hh : Int) := by omega
          have y4 : cap ≠ lo := by omega
          have hcut := RdB.cut (lo := lo) (hi := hh) hr (by omega) (by omega)
          have hpe : (b.drop lo).take (hh - lo) = pc := by
            rw [← Hpc.out, hlo, List.take_eq_take_min (i := 1000), List.length_drop]
            congr 1
            omega
          rw [hpe] at hcut
          clear hpe hlo hl2' hhh
          have hW : ∀ o n, RdB ((wr.alloc o).drewN n) (.slice ad pc.length cd) pc := fun o n => hdat.mono (((Below.refl _ _).alloc (Nat.le_refl _) _).trans ⟨rfl, rfl, rfl, by simp, fun _ _ => rfl⟩)
          have hcv1 := fun o n => conv_rd (P := Try.prog) (dst := 9) Try.underlying22 Try.underlying5 Try.underlying9 (hW o n)
          have hW2 : ∀ o n, RdB ((wr.alloc o).drewN n) (.slice (some ⟨b0, off0 + lo, none⟩) (hh - lo) (cap - lo)) pc := fun o n => hcut.mono ((hs4.below).trans (((Below.refl _ _).alloc hs4.below.size _).trans ⟨rfl, rfl, rfl, by simp, fun _ _ => rfl⟩))
          have hcv2 := fun o n => conv_rd (P := Try.prog) (dst := 9) Try.underlying22 Try.underlying5 Try.underlying9 (hW2 o n)
          go_wp2_with fail
          go_quiet (fail)
          clear E1 E2 E3 hcv1 hcv2 hW hW2
          go_wp2_with fail
          go_roundw
          case rel => exact ⟨i + 1, by omega, by go_num, (hs4.alloc_ _).drewN nq⟩
          case measure => simp [intOf]; omega
        · by_cases hlast : i = m
          · subst hlast
            have hget := psM_last (b := b)
            rw [HM.out] at hget
            obtain ⟨b2, off, ip, d, rfl, hrd⟩ := FramesA.at2 hs4 hget
            obtain ⟨ai, ci, ad, cd, rfl, rfl, q0, q1, q2, q3, q4, q5, q6, q7, q8⟩ := hrd.fin
            clear hget hrd
            go_wp2_with fail
            go_roundw
            case rel => exact ⟨i + 1, by omega, by go_num, hs4.alloc_ _⟩
            case measure => simp [intOf]; try omega
          · obtain rfl : i = m + 1 := by omega
            go_wp2_with fail
            refine (stream_Next g _ hs4.drop).mono ?_
            rintro _ w5 ⟨v5, rfl, h5⟩
            rw [psM_again] at h5
            obtain ⟨a5, c5, rfl, _, _⟩ := OwnL.form h5
            go_wp2_with fail
            refine (stream_awake h5).mono ?_
            rintro _ w6 ⟨rfl, h6⟩
            go_wp2_with fail
            go_ret
            exact ⟨by simp; try omega, h6.below⟩
end
end Go.Proofs.Ytinlemeogdnanaa
