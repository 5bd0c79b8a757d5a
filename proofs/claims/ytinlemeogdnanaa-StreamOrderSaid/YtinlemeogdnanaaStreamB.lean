/- The law StreamBounds, walked. -/
import Derived.Test.YtinlemeogdnanaaStreamJ
import Derived.Test.YtinlemeogdnanaaStreamP
namespace Go.Proofs.Ytinlemeogdnanaa
open Go Go.RowKit
set_option linter.unusedVariables false
set_option linter.unusedSimpArgs false
section
variable {w0 w : World} {L : List Assn}

/-- The end of bounds: credit c, b waits. -/
def bdM (c : Nat) (b : List UInt8) : StM := ⟨9, c, c, b, false, false, false, false⟩

theorem bd_sent (c : Nat) (b : List UInt8) : (bdM c b).sent = min b.length c := by
  unfold StM.sent takeC bdM
  simp only
  omega

theorem chunk_all (l : List UInt8) : ∀ p ∈ chunk l, 1 ≤ p.length ∧ p.length ≤ 1000 := by
  induction h : l.length using Nat.strongRecOn generalizing l with
  | _ n ih =>
    by_cases h0 : l.length = 0
    · rw [chunk, dif_pos h0]; simp
    · rw [chunk_cons (by omega)]
      intro p hp
      rcases List.mem_cons.1 hp with rfl | hp
      · rw [List.length_take]; omega
      · exact ih _ (by rw [List.length_drop]; omega) _ rfl p hp

/-- The bytes in the first pieces. -/
def sumLen (l : List (List UInt8)) : Nat := (l.map List.length).sum
theorem sumLen_chunk (l : List UInt8) : sumLen (chunk l) = l.length := by
  induction h : l.length using Nat.strongRecOn generalizing l with
  | _ n ih =>
    by_cases h0 : l.length = 0
    · rw [chunk, dif_pos h0]; simp [sumLen]; omega
    · rw [chunk_cons (by omega)]
      have := ih (l.drop 1000).length (by rw [List.length_drop]; omega) _ rfl
      unfold sumLen at *
      rw [List.map_cons, List.sum_cons, this, List.length_take, List.length_drop]
      omega
theorem sumLen_take (l : List (List UInt8)) (i : Nat) (p : List UInt8) (h : l[i]? = some p) : sumLen (l.take (i + 1)) = sumLen (l.take i) + p.length := by
  unfold sumLen
  rw [List.take_add_one, h]
  simp

theorem sumLen_le (l : List (List UInt8)) (i : Nat) : sumLen (l.take i) ≤ sumLen l := by
  have h : sumLen l = sumLen (l.take i) + sumLen (l.drop i) := by
    conv => lhs; rw [← List.take_append_drop i l]
    unfold sumLen
    rw [List.map_append, List.sum_append]
  omega

theorem bd_nextL (c : Nat) (b : List UInt8) : (bdM c b).nextL = (chunk (b.take (min b.length c))).map (FrM.dataF 9) := by
  rw [StM.nextL_of (hid_ rfl), bd_sent]
  have : (bdM c b).mid.finNow = false := by simp [StM.finNow, StM.mid, bdM]
  rw [this]
  simp [bdM]
theorem bd_next (c : Nat) (b : List UInt8) : (bdM c b).next = ⟨9, ((c - min b.length c : Nat) : Int), c, b.drop (min b.length c), false, false, false, false⟩ := by
  rw [StM.next_of (hid_ rfl)]
  have h := bd_sent c b
  unfold StM.mid
  rw [h]
  simp [bdM, StM.finNow]
  omega
theorem bd_again (c : Nat) (b : List UInt8) : (⟨9, ((c - min b.length c : Nat) : Int), c, b.drop (min b.length c), false, false, false, false⟩ : StM).nextL = [] := by
  rw [StM.nextL_of (hid_ rfl)]
  have h : (⟨9, ((c - min b.length c : Nat) : Int), c, b.drop (min b.length c), false, false, false, false⟩ : StM).sent = 0 := by
    unfold StM.sent takeC
    simp only [List.length_drop]
    omega
  rw [h]
  simp [chunk_nil, StM.finNow, StM.mid]

theorem bd_over {c n : Nat} (h1 : 1 ≤ c) (h2 : c < n) (h3 : n ≤ 4000) : (bdM c []).hears (FrM.dataF 9 (zeros n)) = true ∧ (bdM c []).wrong (FrM.dataF 9 (zeros n)) = true := by
  constructor
  · unfold StM.hears
    rw [dataF_may (by omega) (by omega) (by rw [zeros_length]; omega) (by rw [zeros_length]; omega)]
    rfl
  · unfold StM.wrong
    simp [bdM, FrM.dataF, FrM.of, zeros_length]
    omega

set_option maxRecDepth 100000 in
set_option maxHeartbeats 2000000 in
theorem stream_bounds_law (n : Int) (v : Value) (b : List UInt8) (more : Int) (w : World) (hr : RdB w v b) :
    Calls Try.prog 4 #[.int .i64 n, v, .int .i64 more] w fun e w' => e = .returned (.bool true) ∧ Below w.heap.size w w' := by
  have hs := Sat.refl w
  obtain ⟨a, cap, rfl, hl1, hl2, hl3⟩ := hr.form
  have hbd := um_bd n (m := 2000) (by omega) (by omega)
  obtain ⟨k, hk⟩ := Int.eq_ofNat_of_zero_le hbd.1
  rw [hk] at hbd
  obtain ⟨c, hc⟩ : ∃ c : Nat, 1 + k = c := ⟨_, rfl⟩
  have E1 : IntKind.i64.wrap (1 + (k : Int)) = (c : Int) := by rw [IntWalk.i64_in _ (by omega)]; omega
  have hbd2 := um_bd more (m := 500) (by omega) (by omega)
  obtain ⟨k2, hk2⟩ := Int.eq_ofNat_of_zero_le hbd2.1
  rw [hk2] at hbd2
  have hc1 : 1 ≤ c := by omega
  have hc2 : c ≤ 2000 := by omega
  by_cases hbig : 4000 < b.length
  · go_enter Try.func4, Try.ntmps4
    go_wp2_with fail
    refine (stream_New 9 c (by omega) (by omega) (by omega) (by omega) hs).mono ?_
    rintro _ w1 ⟨g, rfl, h1⟩
    go_wp2_with fail
    refine (stream_New 9 c (by omega) (by omega) (by omega) (by omega) h1).mono ?_
    rintro _ w2 ⟨g2, rfl, h2⟩
    go_wp2_with fail
    refine (stream_awake h2).mono ?_
    rintro _ w3 ⟨rfl, h3⟩
    go_wp2_with fail
    go_ret
    exact ⟨rfl, h3.below⟩
  · have hsm : b.length ≤ 4000 := by omega
    go_enter Try.func4, Try.ntmps4
    go_wp2_with fail
    refine (stream_New 9 c (by omega) (by omega) (by omega) (by omega) hs).mono ?_
    rintro _ w1 ⟨g, rfl, h1⟩
    go_wp2_with fail
    refine (stream_New 9 c (by omega) (by omega) (by omega) (by omega) h1).mono ?_
    rintro _ w2 ⟨g2, rfl, h2⟩
    replace h2 : Sat w w2 [StA g2 (bdM c []), StA g (bdM c [])] := h2
    go_wp2_with fail
    refine (stream_Send g _ _ b (hr.later h2) h2.swap).mono ?_
    rintro _ w3 ⟨rfl, h3⟩
    have x1 : (bdM c []).sendB b = true := by unfold StM.sendB StM.closed bdM; simp; omega
    rw [x1]
    rw [show (bdM c []).send b = bdM c b by unfold StM.send; rw [x1]; rfl] at h3
    clear h1 h2 x1
    go_wp2_with fail
    refine (stream_Next g _ h3).mono ?_
    rintro _ w4 ⟨vl, rfl, h4⟩
    clear h3
    rw [bd_nextL, bd_next] at h4
    obtain ⟨T, hT⟩ : ∃ T, min b.length c = T := ⟨_, rfl⟩
    have hT1 : T ≤ b.length := by omega
    have hT2 : T ≤ c := by omega
    have hagain := bd_again c b
    rw [hT] at h4 hagain
    obtain ⟨al, cl, rfl, hcl1, hcl2⟩ := OwnL.form h4
    obtain ⟨m, hm⟩ : ∃ m, ((chunk (b.take T)).map (FrM.dataF 9)).length = m := ⟨_, rfl⟩
    have hm2 : (chunk (b.take T)).length = m := by rw [← hm, List.length_map]
    rw [hm] at h4 hcl1 ⊢
    have hall := chunk_all (b.take T)
    have hsum : sumLen ((chunk (b.take T)).take m) = T := by rw [← hm2, List.take_length, sumLen_chunk, List.length_take]; omega
    have E3 : min (b.length : Int) (c : Int) = (T : Int) := by omega
    obtain ⟨r, hrr⟩ : ∃ r, b.length - T = r := ⟨_, rfl⟩
    have E4 : (b.length : Int) - (T : Int) = (r : Int) := by omega
    have HT := hid_ hT
    have HR := hid_ hrr
    have hm5 : m ≤ 1000 := by rw [← hm2, chunk_length, List.length_take]; omega
    have HM2 := hid_ hm2
    have HS := hid_ hsum
    clear hm hm2 hT hrr hsum
    go_wp2_with fail
    go_loopw [9, 51] (fun vn vi wr => ∃ i : Nat, i ≤ m ∧ vi = .int .i64 i ∧ vn = .int .i64 (sumLen ((chunk (b.take T)).take i)) ∧ Sat w wr (FramesA (.slice al m cl) ((chunk (b.take T)).map (FrM.dataF 9)) :: StA g ⟨9, ((c - T : Nat) : Int), c, b.drop T, false, false, false, false⟩ :: StA g2 (bdM c []) :: [])) (fun _ vi _ => m - (intOf vi).toNat)
    case atStart => exact ⟨0, by omega, rfl, rfl, h4⟩
    case round =>
      obtain ⟨i, hi, rfl, rfl, hs4⟩ := hrel
      clear h4
      by_cases hlt : i < m
      · obtain ⟨p, hp⟩ : ∃ p, (chunk (b.take T))[i]? = some p := ⟨_, List.getElem?_eq_getElem (by rw [HM2.out]; exact hlt)⟩
        have hget : ((chunk (b.take T)).map (FrM.dataF 9))[i]? = some (FrM.dataF 9 p) := by rw [List.getElem?_map, hp]; rfl
        obtain ⟨b2, off, ip, d, rfl, hrd⟩ := FramesA.at2 hs4 hget
        obtain ⟨ai, ci, ad, cd, rfl, rfl, hdat, q0, q1, q2, q3, q4, q5, q6, q7, q8⟩ := hrd.piece
        obtain ⟨hp1, hp2⟩ := hall p (List.mem_of_getElem? hp)
        have hst := sumLen_take _ _ _ hp
        have hsle := sumLen_le (chunk (b.take T)) (i + 1)
        rw [sumLen_chunk, List.length_take] at hsle
        generalize hS : sumLen ((chunk (b.take T)).take i) = S at *
        generalize hS2 : sumLen ((chunk (b.take T)).take (i + 1)) = S2 at *
        have E5 : IntKind.i64.wrap ((S : Int) + (p.length : Int)) = (S2 : Int) := by rw [IntWalk.i64_in _ (by omega)]; omega
        have HS2 := hid_ hS2
        clear hget hrd hp hst hsle hS hS2
        go_wp2_with fail
        go_roundw
        case rel => exact ⟨i + 1, by omega, by go_num, by rw [HS2.out], hs4.alloc_ _⟩
        case measure => simp [intOf]; omega
      · obtain rfl : i = m := by omega
        clear hlt hi
        rw [HS.out]
        have h5 := hs4.drop
        go_wp2_with fail
        refine (stream_Waits g _ h5).mono ?_
        rintro _ _ ⟨rfl, rfl⟩
        rw [show ((b.drop T).length : Int) = (r : Int) by rw [List.length_drop, HR.out]]
        go_wp2_with fail
        refine (stream_Next g _ h5).mono ?_
        rintro _ w6 ⟨v6, rfl, h6⟩
        rw [hagain] at h6
        obtain ⟨a6, c6, rfl, _, _⟩ := OwnL.form h6
        obtain ⟨c1, hc1'⟩ : ∃ c1 : Nat, c + 1 = c1 := ⟨_, rfl⟩
        obtain ⟨nn, hnn⟩ : ∃ nn : Nat, c1 + k2 = nn := ⟨_, rfl⟩
        have E6 : IntKind.i64.wrap ((c : Int) + 1) = (c1 : Int) := by rw [IntWalk.i64_in _ (by omega)]; omega
        have E7 : IntKind.i64.wrap ((c1 : Int) + (k2 : Int)) = (nn : Int) := by rw [IntWalk.i64_in _ (by omega)]; omega
        have hmk := make_u8 nn (by omega)
        obtain ⟨g1, g3⟩ := bd_over (c := c) (n := nn) (by omega) (by omega) (by omega)
        have hlt2 : g2 < w6.heap.size := by
          obtain ⟨_, _, _, hx⟩ := StA.opn h6.drop.drop
          exact hx.lt
        clear E1 E3 E4 hs4 h5 hs
        go_wp2_with fail
        have hz := OwnB.made (by omega) (h6.drop.drop.alloc (.cells (bytesC (zeros nn)).toArray 5 (0, 0)))
        have hz2 := hz.alloc_ (.cells #[.int .i64 3, .int .i64 9, .int .i64 0, .int .i64 0, .int .i64 0, .slice none 0 0, .string ⟨#[]⟩, .int .i64 0, .slice (some ⟨w6.heap.size, 0, none⟩) nn nn] 32 (0, 0))
        refine (stream_GotV (FrM.dataF 9 (zeros nn)) rfl (RdB.nilI _) (OwnB.rd hz2) (by simp [FrM.dataF, FrM.of, AdM.zero]) hz2.drop).mono ?_
        rintro _ w7 ⟨vd, vf, rfl, h7⟩
        rw [show (bdM c []).got (FrM.dataF 9 (zeros nn)) = (bdM c []).reset by unfold StM.got StM.heard; rw [g1, g3]; rfl,
          show (bdM c []).gotD (FrM.dataF 9 (zeros nn)) = [] by unfold StM.gotD; rw [g1, g3]; simp,
          show (bdM c []).gotL (FrM.dataF 9 (zeros nn)) = [FrM.resetF 9 1] by unfold StM.gotL; rw [g1, g3]; rfl] at h7
        rw [show (bdM c []).gotK (FrM.dataF 9 (zeros nn)) = 2 by unfold StM.gotK; rw [g1, g3]; rfl]
        obtain ⟨ad, cd, rfl, _, _, _⟩ := (OwnB.rd h7).form
        replace h7 := h7.drop
        obtain ⟨b8, off8, cap8, ip8, d8, rfl, hrd⟩ := FramesA.at h7 (i := 0) (f := FrM.resetF 9 1) rfl
        simp only [Nat.zero_mul, Nat.add_zero, List.length_cons, List.length_nil, Nat.zero_add] at hrd
        obtain ⟨q0, q1, q2, q3, q4, q5, q6, q7, q8⟩ := hrd.nine
        replace q0 : w7.cell? ⟨b8, off8, none⟩ = some (.int .i64 5) := q0
        replace q2 : w7.cell? ⟨b8, off8 + 2, none⟩ = some (.int .i64 1) := q2
        go_wp2_with fail
        refine (stream_Done g2 _ h7.drop).mono ?_
        rintro _ _ ⟨rfl, rfl⟩
        rw [show (bdM c []).reset.done = true from rfl]
        go_wp2_with fail
        refine (stream_awake h7.drop).mono ?_
        rintro _ w9 ⟨rfl, h9⟩
        go_wp2_with fail
        go_ret
        exact ⟨rfl, h9.below⟩
end
end Go.Proofs.Ytinlemeogdnanaa
