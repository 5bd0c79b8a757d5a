/- The law AddrNames, walked. -/
import Derived.Test.YtanihjibjjpdbaaDoorAdB
import Derived.Deep.DeepCutAuto
namespace Go.Proofs.YtanihjibjjpdbaaDoor
open Go Go.RowKit
set_option linter.unusedVariables false
set_option linter.unusedSimpArgs false

theorem all_succ {α : Type} [Inhabited α] (p : α → Bool) (l : List α) (i : Nat) (hi : i < l.length) : (l.take (i + 1)).all p = ((l.take i).all p && p (l.getD i default)) := by
  rw [List.take_succ_eq_append_getElem hi, List.all_append]
  simp [List.getD, hi]
def ok0 (n : Nat) (p : Int) : Bool := decide (1 ≤ n) && decide (n ≤ 64) && decide (0 ≤ p) && decide (p ≤ 65535)
theorem ok_may (s : ByteArray) (p : Int) : (ok0 s.size p && s.data.toList.all (fun c => letterB c.toNat)) = (AdM.mk 3 [] s p).may := by
  unfold ok0 AdM.may nameOk
  rw [size_data, Bool.eq_iff_iff]
  simp
  constructor
  · intro h
    obtain ⟨⟨⟨⟨h1, h2⟩, h3⟩, h4⟩, h5⟩ := h
    exact ⟨⟨h3, h4⟩, ⟨h5, h1⟩, h2⟩
  · intro h
    obtain ⟨⟨h3, h4⟩, ⟨h5, h1⟩, h2⟩ := h
    exact ⟨⟨⟨⟨h1, h2⟩, h3⟩, h4⟩, h5⟩
section
variable {w0 w : World} {L : List Assn}
set_option maxRecDepth 100000 in
set_option maxHeartbeats 4000000 in
theorem ad_names_law (v u : Value) (w : World) (ht : TabOk w) (hv : IsStr w v) (hu : IsInt w u) :
    Calls Tryd.prog 3 #[v, u] w fun e w' => e = .returned (.bool true) ∧ Below w.heap.size w w' := by
  obtain ⟨s, rfl, hsm⟩ := hv
  obtain ⟨p, rfl, -⟩ := hu
  have hpos := ht.pos
  have hs0 := Sat.refl w
  have hAw : ∀ (W : World) (M : List Assn), Sat w W M → Calls Tryd.prog 8 #[] W fun e w' => e = .returned (.bool true) ∧ Sat w w' M := fun W M h => ad_awake ht hpos h
  by_cases l1 : 100 < s.size
  · have q : decide ((100 : Int) < (s.size : Int)) = true := by simp; omega
    clear l1
    go_enter Tryd.func3, Tryd.ntmps3
    go_wp2_with fail
    refine (hAw _ _ hs0).mono ?_
    rintro _ w2 ⟨rfl, h2⟩
    go_wp2_with fail
    go_ret
    exact ⟨rfl, h2.below⟩
  have q : decide ((100 : Int) < (s.size : Int)) = false := by simp; omega
  have hs1 := hs0.alloc (.cells #[.int .i64 3, .slice none 0 0, .string s, .int .i64 p] 25 (0, 0))
  obtain ⟨W1, hW1⟩ : ∃ W1, w.alloc (.cells #[.int .i64 3, .slice none 0 0, .string s, .int .i64 p] 25 (0, 0)) = W1 := ⟨_, rfl⟩
  rw [hW1] at hs1
  have h100 : s.size ≤ 100 := by omega
  clear l1 hsm hs0
  go_enter Tryd.func3, Tryd.ntmps3
  go_upto_region 4 with fail
  (try rw [hW1])
  clear hW1
  go_cut [6] (fun v6 wx => v6 = .bool (ok0 s.size p) ∧ wx = W1)
  case first =>
    go_wp2_with fail
    all_goals
      go_meet
      refine ⟨?_, rfl⟩
      congr 1
      rw [Bool.eq_iff_iff]
      simp [ok0]
      try omega
  obtain ⟨rfl, rfl⟩ := hcut
  go_wp2_with fail
  go_loopg [6, 36] (s.size + 1) (fun gg v6 v36 wr => ∃ (i : Nat) (B : Bool), i ≤ s.size ∧ s.size + 1 - i ≤ gg ∧ v36 = .int .i64 i ∧ v6 = .bool B ∧ Hid (B = (ok0 s.size p && (s.data.toList.take i).all (fun c => letterB c.toNat))) ∧ wr = wc)
  case atStart => exact ⟨0, _, by omega, by omega, rfl, rfl, hid_ (by simp), rfl⟩
  case round =>
    obtain ⟨i, B, hi, hgg, rfl, rfl, hB, rfl⟩ := hrel
    have hsz : s.data.toList.length = s.size := by rw [Array.length_toList]; rfl
    by_cases hlt : i < s.size
    · have hg : s.data.toList.getD i default = s[i] := by simp [List.getD, hlt]; rfl
      have hsu := all_succ (fun c : UInt8 => letterB c.toNat) s.data.toList i (by omega)
      rw [hg] at hsu
      have HS := hid_ hsu
      have z1 : (i : Int) < (s.size : Int) := by omega
      clear hsu hg hsz
      cases B
      · have hB2 := hid_ (show false = (ok0 s.size p && (s.data.toList.take (i + 1)).all (fun c => letterB c.toNat)) by rw [HS.out, ← Bool.and_assoc, ← hB.out]; rfl)
        go_wp2_with fail
        go_roundg (s.size + 1 - (i + 1))
        case measure => omega
        case rel => exact ⟨i + 1, _, by omega, by omega, by go_num, rfl, hB2, rfl⟩
      · have hB2 := hid_ (show letterB (s[i]).toNat = (ok0 s.size p && (s.data.toList.take (i + 1)).all (fun c => letterB c.toNat)) by rw [HS.out, ← Bool.and_assoc, ← hB.out]; simp)
        go_wp2_with fail
        all_goals
          go_roundg (s.size + 1 - (i + 1))
          case measure => omega
          case rel => exact ⟨i + 1, _, by omega, by omega, by go_num, rfl, hid_ (by rw [← hB2.out, Bool.eq_iff_iff]; simp [letterB]; try omega), rfl⟩
    · have HB := hid_ (show B = (AdM.mk 3 [] s p).may by
        rw [hB.out, List.take_of_length_le (by omega)]
        exact ok_may s p)
      clear hB
      have hM : ∀ W, Calls Tryd.prog 10 #[.agg #[.int .i64 3, .slice none 0 0, .string s, .int .i64 p]] W fun e w' => e = .returned (.bool (AdM.mk 3 [] s p).may) ∧ Below W.heap.size W w' := fun W => addr_May (w := W) (AdM.mk 3 [] s p) none 0 (by unfold maxLen; exact Nat.le_trans h100 (by decide)) (Nat.zero_le _)
      cases hm : (AdM.mk 3 [] s p).may
      · have hE : ∀ W, Sat w W [Blk w.heap.size (.cells #[.int .i64 3, .slice none 0 0, .string s, .int .i64 p] 25 (0, 0))] → Calls Tryd.prog 9 #[.agg #[.int .i64 3, .slice none 0 0, .string s, .int .i64 p]] W fun e w' => e = .returned (.tuple #[.slice none 0 0, .int .i64 1]) ∧ Sat w w' [Blk w.heap.size (.cells #[.int .i64 3, .slice none 0 0, .string s, .int .i64 p] 25 (0, 0))] := fun W h => addr_Encode_no (AdM.mk 3 [] s p) none 0 (by unfold maxLen; exact Nat.le_trans h100 (by decide)) (Nat.zero_le _) hm h
        rw [hm] at HB
        simp only [hm] at hM
        obtain rfl : B = false := HB.out
        obtain ⟨c0, c1, c2, c3⟩ : _ ∧ _ ∧ _ ∧ _ := ⟨hs1.cell 0 rfl, hs1.cell 1 rfl, hs1.cell 2 rfl, hs1.cell 3 rfl⟩
        obtain rfl : i = s.size := by omega
        clear hm
        go_wp2_with (first
          | (go_at_call 9; refine (hE _ hs1).mono ?_; rintro _ w2 ⟨rfl, h2⟩; have x0 := h2.cell 0 rfl; have x1 := h2.cell 1 rfl; have x2 := h2.cell 2 rfl; have x3 := h2.cell 3 rfl)
          | (go_at_call 10; refine (hM _).mono ?_; rintro _ w3 ⟨rfl, hb3⟩; have h3 := h2.under hb3)
          | (go_at_call 8; refine (hAw _ _ h3).mono ?_; rintro _ w4 ⟨rfl, h4⟩))
        go_ret
        exact ⟨rfl, h4.below⟩
      · obtain ⟨n, hn⟩ : ∃ n, (AdM.mk 3 [] s p).enc.length = n := ⟨_, rfl⟩
        have hE : ∀ W, Sat w W [Blk w.heap.size (.cells #[.int .i64 3, .slice none 0 0, .string s, .int .i64 p] 25 (0, 0))] → Calls Tryd.prog 9 #[.agg #[.int .i64 3, .slice none 0 0, .string s, .int .i64 p]] W fun e w' => ∃ q k, e = .returned (.tuple #[.slice q n k, .int .i64 0]) ∧ Sat w w' (OwnB 5 (.slice q n k) (AdM.mk 3 [] s p).enc :: [Blk w.heap.size (.cells #[.int .i64 3, .slice none 0 0, .string s, .int .i64 p] 25 (0, 0))]) := fun W h => by
          have h := addr_Encode_yes (AdM.mk 3 [] s p) none 0 hm h (fun W L' _ => RdB.nil W)
          rw [hn] at h
          exact h
        have hn4 : n = s.size + 4 := by rw [← hn, enc_len]; simp; omega
        rw [hm] at HB
        simp only [hm] at hM
        obtain rfl : B = true := HB.out
        obtain ⟨c0, c1, c2, c3⟩ : _ ∧ _ ∧ _ ∧ _ := ⟨hs1.cell 0 rfl, hs1.cell 1 rfl, hs1.cell 2 rfl, hs1.cell 3 rfl⟩
        obtain rfl : i = s.size := by omega
        have hw4 : IntKind.i64.wrap ((s.size : Int) + 4) = (s.size : Int) + 4 := IntWalk.i64_in _ (by omega)
        have hq4 : ((n : Int) == (s.size : Int) + 4) = true := by rw [beq_iff_eq]; omega
        clear hm hn hn4
        go_wp2_with (first
          | (go_at_call 9; refine (hE _ hs1).mono ?_; rintro _ w2 ⟨qq, kk, rfl, h2'⟩; have h2 := h2'.drop; have x0 := h2.cell 0 rfl; have x1 := h2.cell 1 rfl; have x2 := h2.cell 2 rfl; have x3 := h2.cell 3 rfl)
          | (go_at_call 10; refine (hM _).mono ?_; rintro _ w3 ⟨rfl, hb3⟩; have h3 := h2.under hb3)
          | (go_at_call 8; refine (hAw _ _ h3).mono ?_; rintro _ w4 ⟨rfl, h4⟩))
        go_ret
        exact ⟨rfl, h4.below⟩
end
end Go.Proofs.YtanihjibjjpdbaaDoor
