/- The law FrameSizes, walked. -/
import Derived.Deep.CutBlock
import Derived.Outline
import Derived.Test.YtlkkmnbglememaaFrX
import Derived.Test.YtlkkmnbglememaaOpn
namespace Go.Proofs.Ytlkkmnbglememaa
open Go Go.RowKit
set_option linter.unusedVariables false
set_option linter.unusedSimpArgs false

section
variable {w0 w : World} {L : List Assn}
theorem RdFr.ofBlk {f : FrM} {x z : Option Addr} {c k : Nat} {b : Nat} (hr : RdV w f x z c k) {W : World} {M N : List Assn} (h : Sat w W (M ++ Blk b (frO f (.slice x f.addr.ip.length c) (.slice z f.data.length k)) :: N)) : RdFr W b 0 f (.slice x f.addr.ip.length c) (.slice z f.data.length k) := by
  have h1 := Sat.front M h
  unfold frO at h1
  refine ⟨fun j u hj => ?_, (hr.mono h.below).ip, (hr.mono h.below).data⟩
  refine h1.cell (0 + j) ?_
  rw [Nat.zero_add, List.getElem?_toArray]
  exact hj
set_option maxRecDepth 100000 in
set_option maxHeartbeats 4000000 in
theorem frame_sizes_law (v : Value) (w : World) (hv : IsFrame w v) :
    Calls Try.prog 7 #[v] w fun e w' => e = .returned (.bool true) ∧ Below w.heap.size w w' := by
  obtain ⟨f, x, z, c, k, rfl, hr⟩ := hv
  have hs := Sat.refl w
  have h2 := hs.alloc2 (frO f (.slice x f.addr.ip.length c) (.slice z f.data.length k)) (frO f (.slice x f.addr.ip.length c) (.slice z f.data.length k))
  have hL := frame_Light (a := some ⟨w.heap.size + 1, 0, none⟩) (n := 1) (c := 1) (by unfold maxLen; omega) h2 (fun W L' h i hi => by
    obtain rfl : i = 0 := by omega
    exact ⟨w.heap.size + 1, 0, f, _, _, rfl, RdFr.ofBlk hr h⟩)
  have HL := hid_ hL
  clear hL
  unfold frO at h2 HL
  unfold frV
  go_enter Try.func7, Try.ntmps7
  go_wp2_with fail
  refine HL.out.mono ?_
  rintro _ w1 ⟨n, rfl, hn0, -, h3⟩
  clear HL h2
  have hB := h3.drop
  generalize w.heap.size = g at *
  obtain ⟨m0, m1, m2, m3, m4, m5, m6, m7, m8⟩ := hB.cells9
  by_cases hn : 0 < n
  · have q : decide (0 < n) = true := by simpa using hn
    go_wp2_with fail
    refine (frame_awake h3).mono ?_
    rintro _ w2 ⟨rfl, h4⟩
    go_wp2_with fail
    go_ret
    exact ⟨rfl, h4.below⟩
  · obtain rfl : n = 0 := by omega
    obtain ⟨mb, hmb⟩ : ∃ mb, f.may = mb := ⟨_, rfl⟩
    cases mb
    · have HE := hid_ (frame_Encode_no f x z c k hmb (hr.mono h3.below) h3)
      unfold frV at HE
      clear hmb
      go_wp2_with fail
      refine HE.out.mono ?_
      rintro _ w2 ⟨rfl, h4⟩
      go_wp2_with fail
      refine (frame_awake h4).mono ?_
      rintro _ w3 ⟨rfl, h5⟩
      go_wp2_with fail
      go_ret
      exact ⟨rfl, h5.below⟩
    · have HE := hid_ (frame_Encode_yes f x z c k hmb h3 (fun W L' h => hr.mono h.below))
      unfold frV at HE
      have hf := fmay_facts hmb
      go_wp2_with fail
      refine HE.out.mono ?_
      rintro _ w2 ⟨a2, k2, rfl, h4⟩
      have hB := Sat.front [_, _] h4
      obtain ⟨m0, m1, m2, m3, m4, m5, m6, m7, m8⟩ := hB.cells9
      go_upto_block 0 with fail
      go_cut [5] (fun v5 wx => v5 = .int .i64 f.enc.length ∧ wx = w2)
      case first =>
        have hlen := enc_len3 f
        have hK : f.kind = 1 ∨ f.kind = 2 ∨ f.kind = 3 ∨ f.kind = 4 ∨ f.kind = 5 ∨ f.kind = 6 ∨ f.kind = 7 ∨ f.kind = 8 := by omega
        unfold FrM.tail at hlen
        rcases hK with hk | hk | hk | hk | hk | hk | hk | hk
        · rw [if_pos hk, enc_len] at hlen
          have q1 : (f.kind == 1) = true := by simp [hk]
          have q2 : (f.kind == 2) = false := by simp [hk]
          have q3 : (f.kind == 3) = false := by simp [hk]
          have q5 : (f.kind == 5) = false := by simp [hk]
          have q6 : (f.kind == 6) = false := by simp [hk]
          have q7 : (f.kind == 7) = false := by simp [hk]
          have q8 : (f.kind == 8) = false := by simp [hk]
          have hi := enc_four _ (hf.2.2.2.2.1 hk)
          rw [enc_len] at hi
          have h0 := ((may_iff _).1 (hf.2.2.2.2.1 hk)).2.2
          by_cases h3 : f.addr.kind = 3
          · rw [if_pos h3] at hlen hi
            have q3 : (f.addr.kind == 3) = true := by simp [h3]
            have b1 : (f.addr.ip.length : Int) ≤ 68 ∧ (f.addr.name.size : Int) ≤ 68 := by omega
            have HL := hid_ hlen
            clear hlen hk h3 hi h0 hf
            go_wp2_with fail
            go_meet
            exact ⟨i64_eq (by rw [HL.out]; omega), rfl⟩
          · rw [if_neg h3] at hlen hi
            have q3 : (f.addr.kind == 3) = false := by simp [h3]
            have b1 : (f.addr.ip.length : Int) ≤ 68 ∧ (f.addr.name.size : Int) ≤ 0 := by omega
            have HL := hid_ hlen
            clear hlen hk h3 hi h0 hf
            go_wp2_with fail
            go_meet
            exact ⟨i64_eq (by rw [HL.out]; omega), rfl⟩
        · rw [if_neg (by omega), if_pos (by omega)] at hlen
          have q1 : (f.kind == 1) = false := by simp [hk]
          have q2 : (f.kind == 2) = true := by simp [hk]
          have q3 : (f.kind == 3) = false := by simp [hk]
          have q5 : (f.kind == 5) = false := by simp [hk]
          have q6 : (f.kind == 6) = false := by simp [hk]
          have q7 : (f.kind == 7) = false := by simp [hk]
          have q8 : (f.kind == 8) = false := by simp [hk]
          simp only [List.length_append, beB_length, List.length_nil] at hlen
          have HL := hid_ hlen
          clear hlen hk hf
          go_wp2_with fail
          go_meet
          exact ⟨i64_eq (by rw [HL.out]; omega), rfl⟩
        · rw [if_neg (by omega), if_neg (by omega), if_pos (by omega)] at hlen
          have q1 : (f.kind == 1) = false := by simp [hk]
          have q2 : (f.kind == 2) = false := by simp [hk]
          have q3 : (f.kind == 3) = true := by simp [hk]
          have q5 : (f.kind == 5) = false := by simp [hk]
          have q6 : (f.kind == 6) = false := by simp [hk]
          have q7 : (f.kind == 7) = false := by simp [hk]
          have q8 : (f.kind == 8) = false := by simp [hk]
          simp only [List.length_append, beB_length, List.length_nil] at hlen
          have b1 : (f.data.length : Int) ≤ 4000 := by have := hf.2.2.2.2.2.2.2.1 hk; omega
          have HL := hid_ hlen
          clear hlen hk hf
          go_wp2_with fail
          go_meet
          exact ⟨i64_eq (by rw [HL.out]; omega), rfl⟩
        · rw [if_neg (by omega), if_neg (by omega), if_neg (by omega), if_neg (by omega)] at hlen
          have q1 : (f.kind == 1) = false := by simp [hk]
          have q2 : (f.kind == 2) = false := by simp [hk]
          have q3 : (f.kind == 3) = false := by simp [hk]
          have q5 : (f.kind == 5) = false := by simp [hk]
          have q6 : (f.kind == 6) = false := by simp [hk]
          have q7 : (f.kind == 7) = false := by simp [hk]
          have q8 : (f.kind == 8) = false := by simp [hk]
          simp only [List.length_append, beB_length, List.length_nil] at hlen
          have HL := hid_ hlen
          clear hlen hk hf
          go_wp2_with fail
          go_meet
          exact ⟨i64_eq (by rw [HL.out]; omega), rfl⟩
        · rw [if_neg (by omega), if_pos (by omega)] at hlen
          have q1 : (f.kind == 1) = false := by simp [hk]
          have q2 : (f.kind == 2) = false := by simp [hk]
          have q3 : (f.kind == 3) = false := by simp [hk]
          have q5 : (f.kind == 5) = true := by simp [hk]
          have q6 : (f.kind == 6) = false := by simp [hk]
          have q7 : (f.kind == 7) = false := by simp [hk]
          have q8 : (f.kind == 8) = false := by simp [hk]
          simp only [List.length_append, beB_length, List.length_nil] at hlen
          have HL := hid_ hlen
          clear hlen hk hf
          go_wp2_with fail
          go_meet
          exact ⟨i64_eq (by rw [HL.out]; omega), rfl⟩
        · rw [if_neg (by omega), if_neg (by omega), if_neg (by omega), if_pos (by omega)] at hlen
          have q1 : (f.kind == 1) = false := by simp [hk]
          have q2 : (f.kind == 2) = false := by simp [hk]
          have q3 : (f.kind == 3) = false := by simp [hk]
          have q5 : (f.kind == 5) = false := by simp [hk]
          have q6 : (f.kind == 6) = true := by simp [hk]
          have q7 : (f.kind == 7) = false := by simp [hk]
          have q8 : (f.kind == 8) = false := by simp [hk]
          simp only [List.length_append, beB_length, List.length_nil] at hlen
          have HL := hid_ hlen
          clear hlen hk hf
          go_wp2_with fail
          go_meet
          exact ⟨i64_eq (by rw [HL.out]; omega), rfl⟩
        · rw [if_neg (by omega), if_neg (by omega), if_neg (by omega), if_pos (by omega)] at hlen
          have q1 : (f.kind == 1) = false := by simp [hk]
          have q2 : (f.kind == 2) = false := by simp [hk]
          have q3 : (f.kind == 3) = false := by simp [hk]
          have q5 : (f.kind == 5) = false := by simp [hk]
          have q6 : (f.kind == 6) = false := by simp [hk]
          have q7 : (f.kind == 7) = true := by simp [hk]
          have q8 : (f.kind == 8) = false := by simp [hk]
          simp only [List.length_append, beB_length, List.length_nil] at hlen
          have HL := hid_ hlen
          clear hlen hk hf
          go_wp2_with fail
          go_meet
          exact ⟨i64_eq (by rw [HL.out]; omega), rfl⟩
        · rw [if_neg (by omega), if_neg (by omega), if_neg (by omega), if_pos (by omega)] at hlen
          have q1 : (f.kind == 1) = false := by simp [hk]
          have q2 : (f.kind == 2) = false := by simp [hk]
          have q3 : (f.kind == 3) = false := by simp [hk]
          have q5 : (f.kind == 5) = false := by simp [hk]
          have q6 : (f.kind == 6) = false := by simp [hk]
          have q7 : (f.kind == 7) = false := by simp [hk]
          have q8 : (f.kind == 8) = true := by simp [hk]
          simp only [List.length_append, beB_length, List.length_nil] at hlen
          have HL := hid_ hlen
          clear hlen hk hf
          go_wp2_with fail
          go_meet
          exact ⟨i64_eq (by rw [HL.out]; omega), rfl⟩
      obtain ⟨rfl, rfl⟩ := hcut
      have hlen := enc_len3 f
      obtain ⟨b, o, c', he, -, -, -, -⟩ := OwnS.cells h4 (by omega)
      injection he with he1 _ he2
      subst he1 he2
      obtain ⟨y1, y2, hxy, hen⟩ := enc3 f
      have hvs := val_be2 (n := f.stream.toNat) (by omega)
      rw [hxy] at hvs
      obtain ⟨Y1, hY1⟩ : ∃ Y1 : Nat, y1.toNat = Y1 := ⟨_, rfl⟩
      obtain ⟨Y2, hY2⟩ : ∃ Y2 : Nat, y2.toNat = Y2 := ⟨_, rfl⟩
      have hb1 : Y1 < 256 := by rw [← hY1]; exact UInt8.toNat_lt _
      have hb2 : Y2 < 256 := by rw [← hY2]; exact UInt8.toNat_lt _
      have hvs2 : (Y1 : Int) * 256 + (Y2 : Int) = f.stream := by
        have : y1.toNat * 256 + y2.toNat = f.stream.toNat := hvs
        omega
      have sz : ∀ (W : World) (L' : List Assn), Sat w W (L' ++ [OwnB 5 (.slice (some ⟨b, o, none⟩) f.enc.length k2) f.enc, Blk (g + 1) (frO f (.slice x f.addr.ip.length c) (.slice z f.data.length k)), Blk g (frO f (.slice x f.addr.ip.length c) (.slice z f.data.length k))]) →
          W.cell? ⟨b, o, none⟩ = some (.int .u8 f.kind) ∧ W.cell? ⟨b, o + 1, none⟩ = some (.int .u8 Y1) ∧ W.cell? ⟨b, o + 2, none⟩ = some (.int .u8 Y2) ∧ W.cell? ⟨g, 0, none⟩ = some (.int .i64 f.kind) ∧ W.cell? ⟨g, 1, none⟩ = some (.int .i64 f.stream) := fun W L' h => by
        have h6 := Sat.front L' h
        obtain ⟨b', o', c', he, _, _, hcc, _⟩ := OwnS.cells h6 (by omega)
        injection he with he1 _ _
        injection he1 with he1
        injection he1 with e1 e2 _
        subst e1 e2
        have d0 := hcc 0 _ (bytesC_get (by omega))
        have d1 := hcc 1 _ (bytesC_get (by omega))
        have d2 := hcc 2 _ (bytesC_get (by omega))
        rw [hen] at d0 d1 d2
        have h7 := (Sat.front (L' ++ [_, _]) (by rw [List.append_assoc]; exact h) : Sat w W (Blk g _ :: _))
        unfold frO at h7
        refine ⟨d0.trans ?_, d1.trans ?_, d2.trans ?_, h7.cell 0 rfl, h7.cell 1 rfl⟩
        · show some (Value.int .u8 ((UInt8.ofNat f.kind.toNat).toNat : Int)) = _
          rw [toNat_of (by omega)]
          congr 2
          omega
        · show some (Value.int .u8 (y1.toNat : Int)) = _
          rw [hY1]
        · show some (Value.int .u8 (y2.toNat : Int)) = _
          rw [hY2]
      have SZ := hid_ sz
      have s1 : IntKind.i64.wrap (Y1 : Int) = (Y1 : Int) := i64_in (by omega) (by omega)
      have s2 : IntKind.i64.wrap (Y2 : Int) = (Y2 : Int) := i64_in (by omega) (by omega)
      have s3 : IntKind.i64.wrap ((Y1 : Int) * 256) = (Y1 : Int) * 256 := i64_in (by omega) (by omega)
      have s4 : IntKind.i64.wrap ((Y1 : Int) * 256 + (Y2 : Int)) = f.stream := by rw [i64_in (by omega) (by omega), hvs2]
      have s5 : IntKind.i64.wrap f.kind = f.kind := i64_in (by omega) (by omega)
      have z1 : (2 : Int) < (f.enc.length : Int) ∧ (1 : Int) < (f.enc.length : Int) ∧ (0 : Int) < (f.enc.length : Int) := by omega
      have z2 : 0 < f.enc.length := by omega
      clear sz hvs hvs2 hxy hen hY1 hY2 hlen hf m0 m1 m2 m3 m4 m5 m6 m7 m8
      go_wp2_with fail
      go_region_held3 (fun w' => w'.cell? ⟨b, o, none⟩ = some (.int .u8 f.kind) ∧ w'.cell? ⟨b, o + 1, none⟩ = some (.int .u8 Y1) ∧ w'.cell? ⟨b, o + 2, none⟩ = some (.int .u8 Y2) ∧ w'.cell? ⟨g, 0, none⟩ = some (.int .i64 f.kind) ∧ w'.cell? ⟨g, 1, none⟩ = some (.int .i64 f.stream))
        (first | exact SZ.out _ [] h4.drew | exact SZ.out _ [] h5)
        (first | (go_at_call 10; refine (frame_awake h4.drew).mono ?_; rintro _ w5 ⟨rfl, h5⟩))
      go_wp2_with fail
      go_ret
      exact ⟨rfl, h5.below⟩
end
end Go.Proofs.Ytlkkmnbglememaa
