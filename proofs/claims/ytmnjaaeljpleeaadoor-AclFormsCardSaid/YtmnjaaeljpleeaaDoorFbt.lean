/- strconv.FormatInt at base 16 (two bytes' worth): walked. Begun. -/
import Derived.Test.YtmnjaaeljpleeaaDoorItw
import Derived.Deep.LoopGhost
import Derived.Laws.BitsLemmas
import Derived.Laws.Bits64
namespace Go.Proofs.YtmnjaaeljpleeaaDoor
open Go Go.RowKit
set_option linter.unusedVariables false
set_option linter.unusedSimpArgs false

/-- The library's table of trailing zeros, at the place that 16 leads to. -/
def TzOk (w : World) : Prop := w.cell? ⟨2, 15, none⟩ = some (.int .u8 4)
section
variable {w0 w : World} {L : List Assn}
set_option maxRecDepth 100000 in
set_option maxHeartbeats 1000000 in
theorem tz16 (h : TzOk w) : Calls Tryd.prog 44 #[.int .u64 16] w fun e w' => e = .returned (.int .i64 4) ∧ w' = w := by
  unfold TzOk at h
  have e1 : IntKind.u64.wrap (-16) = 18446744073709551600 := by decide +kernel
  have e2 : bits BinOp.and IntKind.u64 16 18446744073709551600 = 16 := by decide +kernel
  have e3 : IntKind.u64.wrap 4573923408821661840 = 4573923408821661840 := by decide +kernel
  go_enter Tryd.func44, Tryd.ntmps44
  go_wp2
  go_ret
  exact ⟨rfl, rfl⟩
theorem TzOk.later {w' : World} (h : TzOk w) (hb : Below w.heap.size w w') : TzOk w' := by
  unfold TzOk at h ⊢
  by_cases h3 : 2 < w.heap.size
  · exact (hb.cell (p := ⟨2, 15, none⟩) h3).trans h
  · unfold World.cell? at h
    rw [Array.getElem?_eq_none (by simpa using h3)] at h
    cases h
def hexD (x : Nat) : UInt8 := if x < 10 then UInt8.ofNat (48 + x) else UInt8.ofNat (87 + x)
/-- The last j digits of u. -/
def lowH : Nat → Nat → List UInt8
  | 0, _ => []
  | j + 1, u => hexD (u / 16 ^ j % 16) :: lowH j u
theorem lowH_len : ∀ (j u : Nat), (lowH j u).length = j
  | 0, _ => rfl
  | j + 1, u => by simp [lowH, lowH_len j u]
def arrH (j u : Nat) : List Value := List.replicate (65 - j) (.int .u8 0) ++ bytesC (lowH j u)
def hexL (u : Nat) : List UInt8 := if u < 16 then lowH 1 u else if u < 256 then lowH 2 u else if u < 4096 then lowH 3 u else lowH 4 u
theorem hexL_at {u j : Nat} (hu : u < 65536) (hj : j ≤ 3) (h0 : j = 0 ∨ 16 ^ j ≤ u) (h1 : u / 16 ^ j < 16) : hexL u = lowH (j + 1) u := by
  unfold hexL
  rcases (show j = 0 ∨ j = 1 ∨ j = 2 ∨ j = 3 by omega) with rfl | rfl | rfl | rfl
  · rw [if_pos (by omega)]
  · rw [if_neg (by omega), if_pos (by omega)]
  · rw [if_neg (by omega), if_neg (by omega), if_pos (by omega)]
  · rw [if_neg (by omega), if_neg (by omega), if_neg (by omega)]
theorem arrH_zero {j u k : Nat} (h : 65 - j = k + 1) : (arrH j u).toArray[k]? = some (.int .u8 0) := by
  unfold arrH
  rw [List.getElem?_toArray, List.getElem?_append_left (by simp; omega), List.getElem?_replicate, if_pos (by omega)]
theorem arrH_set {j u k : Nat} (h : 65 - j = k + 1) : (arrH j u).set k (.int .u8 (hexD (u / 16 ^ j % 16)).toNat) = arrH (j + 1) u := by
  unfold arrH
  rw [h, show 65 - (j + 1) = k by omega, List.replicate_succ', List.append_assoc, List.set_append_right _ _ (by simp)]
  simp [lowH, bytesC]
theorem and15 (x : Nat) (h : x < 65536) : bits BinOp.and IntKind.u64 (x : Int) 15 = ((x % 16 : Nat) : Int) := by
  have h := bits_mask .u64 63 (by decide) (fun n h0 h1 => by rw [IntKind.wrap_u64]; omega) 4 (by decide) (x : Int) (by omega) (by omega)
  have e : ((2 : Int) ^ 4 - 1) = 15 := by decide
  have e2 : ((2 : Int) ^ 4) = 16 := by decide
  rw [e, e2] at h
  rw [h]
  omega
def DIG : ByteArray := ⟨#[48, 49, 50, 51, 52, 53, 54, 55, 56, 57, 97, 98, 99, 100, 101, 102, 103, 104, 105, 106, 107, 108, 109, 110, 111, 112, 113, 114, 115, 116, 117, 118, 119, 120, 121, 122]⟩
theorem dig_idx (d : Nat) (h : d < 16) : ∀ W : World, (Instr.index 9 (.string ⟨#[48, 49, 50, 51, 52, 53, 54, 55, 56, 57, 97, 98, 99, 100, 101, 102, 103, 104, 105, 106, 107, 108, 109, 110, 111, 112, 113, 114, 115, 116, 117, 118, 119, 120, 121, 122]⟩) (.int .u64 (d : Int))).run Tryd.prog W = .ok (.int .u8 (hexD d).toNat) W := by
  intro W
  rcases (show d = 0 ∨ d = 1 ∨ d = 2 ∨ d = 3 ∨ d = 4 ∨ d = 5 ∨ d = 6 ∨ d = 7 ∨ d = 8 ∨ d = 9 ∨ d = 10 ∨ d = 11 ∨ d = 12 ∨ d = 13 ∨ d = 14 ∨ d = 15 by omega) with rfl | rfl | rfl | rfl | rfl | rfl | rfl | rfl | rfl | rfl | rfl | rfl | rfl | rfl | rfl | rfl <;> kernel_rfl
theorem slice65 (k : Nat) (h0 : 61 ≤ k) (h1 : k ≤ 64) (g : Nat) (W : World) : (Instr.sliceAt 58 (.pointer (some ⟨g, 0, none⟩)) (some (.int .i64 k)) none none).run Tryd.prog W = .ok (.slice (some ⟨g, k, none⟩) (65 - k) (65 - k)) W := by
  rcases (show k = 61 ∨ k = 62 ∨ k = 63 ∨ k = 64 by omega) with rfl | rfl | rfl | rfl <;> kernel_rfl
theorem rd65 {j u g k : Nat} {t : TypeId} (hk : 65 - k = j) (hj : k ≤ 65) (h : Sat w0 w (Blk g (.cells (arrH j u).toArray t (0, 0)) :: L)) : RdB w (.slice (some ⟨g, k, none⟩) (65 - k) (65 - k)) (lowH j u) := by
  have hl := lowH_len j u
  refine ⟨some ⟨g, k, none⟩, 65 - k, by rw [hl, hk], by omega, by unfold maxLen; omega, (fun e => nomatch e), fun h0 => ⟨g, k, rfl, h.lt, fun i hi => ?_⟩⟩
  refine h.cell (k + i) ?_
  unfold arrH
  rw [List.getElem?_toArray, List.getElem?_append_right (by simp; omega)]
  rw [show k + i - (List.replicate (65 - j) (Value.int .u8 0)).length = i by simp; omega]
  exact bytesC_get hi
def Z65 : Array Value := Array.replicate 65 (.int .u8 0)
theorem z65_run (W : World) : (zeroValue 58).run Tryd.prog W = .ok (.agg Z65) W := by kernel_rfl
set_option maxRecDepth 100000 in
set_option maxHeartbeats 4000000 in
theorem format_bits16 (u : Nat) (hu : u < 65536) (h : TzOk w0) (hs : Sat w0 w L) :
    Calls Tryd.prog 39 #[.slice none 0 0, .int .u64 u, .int .i64 16, .bool false, .bool false] w fun e w' => e = .returned (.tuple #[.slice none 0 0, .string (strOf (hexL u))]) ∧ Sat w0 w' L := by
  have hz := z65_run
  have hs1 := hs.alloc (.cells Z65 58 (0, 0))
  have hT := h.later hs1.below
  have e1 : (bits BinOp.and IntKind.i64 16 15 == 0) = true := by decide +kernel
  obtain ⟨g, hg⟩ : ∃ g, w.heap.size = g := ⟨_, rfl⟩
  go_enter Tryd.func39, Tryd.ntmps39
  go_wp2_with (first | (go_at_call 44; refine (tz16 hT).mono ?_; rintro _ _ ⟨rfl, rfl⟩) | go_in)
  go_loopg [1, 13] 5 (fun gg v1 v13 wr => ∃ (j i x : Nat), j ≤ 3 ∧ (j = 0 ∨ 16 ^ j ≤ u) ∧ 5 - j ≤ gg ∧ i = 65 - j ∧ x = u / 16 ^ j ∧ v1 = .int .u64 x ∧ v13 = .int .i64 i ∧ Sat w0 wr (Blk g (.cells (arrH j u).toArray 58 (0, 0)) :: L))
  case atStart => exact ⟨0, 65, u, by omega, Or.inl rfl, by omega, by omega, by simp, rfl, rfl, by rw [← hg]; exact hs1⟩
  case round =>
    obtain ⟨j, i, x, hj, hj16, hgg, hi, hx, rfl, rfl, h1⟩ := hrel
    have hx6 : x < 65536 := by rw [hx]; exact Nat.lt_of_le_of_lt (Nat.div_le_self _ _) hu
    obtain ⟨k, hk⟩ : ∃ k, i = k + 1 := ⟨i - 1, by omega⟩
    have E1 : IntKind.i64.wrap ((i : Int) - 1) = (k : Int) := by rw [IntWalk.i64_in _ (by omega)]; omega
    have hkb : (0 : Int) ≤ (k : Int) ∧ (k : Int) < 65 := by omega
    by_cases h16 : 16 ≤ x
    · have hj3 : j < 3 := by
        rcases Nat.lt_or_ge j 3 with h | h
        · exact h
        · obtain rfl : j = 3 := by omega
          rw [hx] at h16
          omega
      have q : decide ((16 : Int) ≤ (x : Int)) = true := by simp; omega
      have ha := and15 x hx6
      obtain ⟨d, hd⟩ : ∃ d, x % 16 = d := ⟨_, rfl⟩
      have hd16 : d < 16 := by omega
      have HX := hid_ hx
      have HI := hid_ hi
      have HK := hid_ hk
      rw [hd] at ha
      have HD := hid_ hd
      have HXG := hid_ h16
      clear hd hx hi hk hz e1 h16
      have hidx := dig_idx d hd16
      have fr := h1.frozen k
      have cz : wr.cell? ⟨g, k, none⟩ = some (.int .u8 0) := h1.cell k (arrH_zero (by have := HI.out; have := HK.out; omega))
      have H16 := hid_ hj16
      clear hj16
      go_wp2_with fail
      go_roundg (5 - (j + 1))
      case measure => omega
      case rel =>
        refine ⟨j + 1, k, x / 16, by omega, Or.inr ?_, by omega, by have := HI.out; have := HK.out; omega, by rw [HX.out, Nat.div_div_eq_div_mul, ← Nat.pow_succ], by go_num, rfl, ?_⟩
        · have := HXG.out
          rw [HX.out, Nat.le_div_iff_mul_le (Nat.pow_pos (by decide))] at this
          rw [Nat.pow_succ]
          omega
        · have h2 := h1.set k (.int .u8 (hexD d).toNat)
          have hset := arrH_set (j := j) (u := u) (k := k) (by have := HI.out; have := HK.out; omega)
          rw [← HX.out, HD.out] at hset
          rw [List.setIfInBounds_toArray, hset] at h2
          exact h2
    · have q : decide ((16 : Int) ≤ (x : Int)) = false := by simp; omega
      have hx16 : x < 16 := by omega
      have HX := hid_ hx
      have HI := hid_ hi
      have HK := hid_ hk
      have hidx := dig_idx x hx16
      have fr := h1.frozen k
      have cz : wr.cell? ⟨g, k, none⟩ = some (.int .u8 0) := h1.cell k (arrH_zero (by omega))
      have h2 := h1.set k (.int .u8 (hexD x).toNat)
      have hset := arrH_set (j := j) (u := u) (k := k) (by omega)
      rw [← hx, Nat.mod_eq_of_lt hx16] at hset
      rw [List.setIfInBounds_toArray, hset] at h2
      have H16 := hid_ hj16
      clear hj16 hx hi hk hz e1 h16 hset
      have hsl := slice65 k (by have := HI.out; have := HK.out; omega) (by have := HI.out; have := HK.out; omega) g
      have hr := rd65 (k := k) (by have := HI.out; have := HK.out; omega) (by omega) h2
      have hcv : (convert 23 9 (.slice (some ⟨g, k, none⟩) (65 - k) (65 - k))).run Tryd.prog (wr.setCell ⟨g, k, none⟩ (.int .u8 (hexD x).toNat)) = .ok (.string (strOf (lowH (j + 1) u))) _ := conv_rd Tryd.underlying23 Tryd.underlying5 Tryd.underlying9 hr
      clear hr
      go_wp2_with fail
      go_ret2
      refine ⟨?_, h2.drop⟩
      rw [hexL_at hu hj H16.out (by rw [← HX.out]; exact hx16)]
      rfl
set_option maxRecDepth 100000 in
set_option maxHeartbeats 2000000 in
/-- strconv.FormatInt of two bytes' worth, at base 16. -/
theorem format16 (u : Nat) (hu : u < 65536) (h : TzOk w0) (hs : Sat w0 w L) :
    Calls Tryd.prog 31 #[.int .i64 u, .int .i64 16] w fun e w' => e = .returned (.string (strOf (hexL u))) ∧ Sat w0 w' L := by
  have e1 : IntKind.u64.wrap (u : Int) = (u : Int) := by rw [IntKind.wrap_u64]; omega
  have q : decide ((u : Int) < 0) = false := by simp
  go_enter Tryd.func31, Tryd.ntmps31
  go_wp2_with (first | (go_at_call 39; refine (format_bits16 u hu h hs).mono ?_; rintro _ w2 ⟨rfl, h2⟩) | go_in)
  go_ret
  exact ⟨rfl, h2⟩
end
end Go.Proofs.YtmnjaaeljpleeaaDoor
