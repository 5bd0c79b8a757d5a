/- Frames as bytes, in plain Lean. -/
import Derived.Test.YtkejadhkebjdcaaFrO
namespace Go.Proofs.Ytkejadhkebjdcaa
open Go Go.RowKit
set_option linter.unusedVariables false
set_option linter.unusedSimpArgs false

/-- One frame that bytes begin with: what is answered, the frame, how many bytes. -/
def chkF (b : List UInt8) (f : FrM) (n : Nat) : Int × FrM × Nat := if b.length < n then (2, FrM.of 0 0, 0) else if f.may = false then (3, FrM.of 0 0, 0) else (0, f, n)
def kindB (b : List UInt8) : Nat := (b.getD 0 0).toNat
def strB (b : List UInt8) : Nat := (b.getD 1 0).toNat * 256 + (b.getD 2 0).toNat
def oneD (b : List UInt8) : Int × FrM × Nat :=
  if kindB b < 1 ∨ 8 < kindB b then (3, FrM.of 0 0, 0)
  else if b.length < 3 then (2, FrM.of 0 0, 0)
  else if kindB b = 1 then (if (decA (b.drop 3)).1 ≠ 0 then ((decA (b.drop 3)).1, FrM.of 0 0, 0) else chkF b { FrM.of 1 (strB b) with addr := (decA (b.drop 3)).2.1 } (3 + (decA (b.drop 3)).2.2))
  else if kindB b = 2 ∨ kindB b = 5 then chkF b { FrM.of (kindB b) (strB b) with code := (b.getD 3 0).toNat } 4
  else if kindB b = 3 then (if b.length < 5 then (2, FrM.of 0 0, 0) else chkF b { FrM.of 3 (strB b) with data := (b.drop 5).take ((b.getD 3 0).toNat * 256 + (b.getD 4 0).toNat) } (5 + ((b.getD 3 0).toNat * 256 + (b.getD 4 0).toNat)))
  else if kindB b = 4 then chkF b (FrM.of 4 (strB b)) 3
  else chkF b { FrM.of (kindB b) (strB b) with n := valB ((b.drop 3).take 4) } 7

theorem bytes_ok {b : List UInt8} {n : Nat} (h : n ≤ b.length) : RdM.bytes ⟨b, false⟩ n = (b.take n, ⟨b.drop n, false⟩) := RdM.bytes_yes rfl h
theorem bytes_sh {b : List UInt8} {n : Nat} {s : Bool} (h : s = true ∨ b.length < n) : RdM.bytes ⟨b, s⟩ n = ([], ⟨b, true⟩) := RdM.bytes_no h
theorem number_ok {b : List UInt8} {n : Nat} (h : n ≤ b.length) : RdM.number ⟨b, false⟩ n = (valB (b.take n), ⟨b.drop n, false⟩) := by unfold RdM.number; rw [bytes_ok h]
theorem number_sh {b : List UInt8} {n : Nat} {s : Bool} (h : s = true ∨ b.length < n) : RdM.number ⟨b, s⟩ n = (0, ⟨b, true⟩) := by unfold RdM.number; rw [bytes_sh h]; rfl
theorem val1 {b : List UInt8} (h : 1 ≤ b.length) : valB (b.take 1) = (b.getD 0 0).toNat := by
  have := valB_take (l := b) (i := 0) (by omega)
  rw [this]
  simp [valB]
theorem val2 {b : List UInt8} (h : 2 ≤ b.length) : valB (b.take 2) = (b.getD 0 0).toNat * 256 + (b.getD 1 0).toNat := by
  rw [valB_take (l := b) (i := 1) (by omega), val1 (by omega)]
theorem getD_drop (b : List UInt8) (i j : Nat) : (b.drop i).getD j 0 = b.getD (i + j) 0 := by simp [List.getD, List.getElem?_drop]
theorem endB_short {e : Int} {f : FrM} {r : RdM} (h : r.short = true) : endB (e, f, r) = 2 := by unfold endB; rw [if_pos h]
theorem endB_err {e : Int} {f : FrM} {r : RdM} (h : r.short = false) (he : e ≠ 0) : endB (e, f, r) = e := by unfold endB; rw [if_neg (by simp [h]), if_neg (by simp [he])]
theorem endB_ok {f : FrM} {r : RdM} (h : r.short = false) : endB (0, f, r) = if f.may = false then 3 else 0 := by
  unfold endB
  rw [if_neg (by simp [h])]
  by_cases hm : f.may = false
  · rw [if_pos ⟨rfl, hm⟩, if_pos hm]
  · rw [if_neg (by simp [hm]), if_neg hm]

/-- What reading comes to. -/
def OneAs (b : List UInt8) (x : Int × FrM × RdM) (y : Int × FrM × Nat) : Prop := x.1 = y.1 ∧ (y.1 = 0 → x.2.1 = y.2.1 ∧ x.2.2 = ⟨b.drop y.2.2, false⟩ ∧ 3 ≤ y.2.2 ∧ y.2.2 ≤ b.length ∧ y.2.1.may = true)
theorem oneAs_chk {b : List UInt8} {f : FrM} {n : Nat} {r : RdM} (hn : 3 ≤ n) (h1 : b.length < n → r.short = true) (h2 : n ≤ b.length → r = ⟨b.drop n, false⟩) : OneAs b (endB (0, f, r), f, r) (chkF b f n) := by
  unfold chkF
  by_cases h : b.length < n
  · rw [if_pos h, endB_short (h1 h)]
    exact ⟨rfl, fun h => absurd h (by decide)⟩
  · have hr := h2 (by omega)
    rw [if_neg h, endB_ok (by rw [hr])]
    by_cases hm : f.may = false
    · rw [if_pos hm, if_pos hm]
      exact ⟨rfl, fun h => absurd h (by decide)⟩
    · rw [if_neg hm, if_neg hm]
      exact ⟨rfl, fun _ => ⟨rfl, hr, hn, by dsimp only; omega, by simpa using hm⟩⟩
theorem oneAs_short {b : List UInt8} {e : Int} {f : FrM} {r : RdM} {y : Int × FrM × Nat} (h : r.short = true) (hy : y.1 = 2) : OneAs b (endB (e, f, r), f, r) y := by
  rw [endB_short h]
  exact ⟨hy.symm, fun h => absurd (hy.symm.trans h) (by decide)⟩
theorem oneAs_err {b : List UInt8} {e : Int} {f : FrM} {r : RdM} {y : Int × FrM × Nat} (h : r.short = false) (he : e ≠ 0) (hy : y.1 = e) : OneAs b (endB (e, f, r), f, r) y := by
  rw [endB_err h he]
  exact ⟨hy.symm, fun h => absurd (hy.symm.trans h) he⟩
theorem dec_le {b : List UInt8} {a : AdM} {n : Nat} (h : decA b = (0, a, n)) : n ≤ b.length := (dec_ok h).2.2.1
theorem ofNat_ne {k : Nat} {n : Int} (h : (k : Int) ≠ n) : ¬ ((k : Int) = n) := h

theorem one_reads {b : List UInt8} (h0 : 0 < b.length) : OneAs b (oneM ⟨b, false⟩) (oneD b) := by
  have hn1 := number_ok (b := b) (n := 1) (by omega)
  rw [val1 (by omega)] at hn1
  by_cases hk : kindB b < 1 ∨ 8 < kindB b
  · rw [oneM_bad hn1 hk]
    unfold oneD
    rw [if_pos hk]
    exact ⟨rfl, fun h => absurd h (by decide)⟩
  by_cases h3 : b.length < 3
  · have hn2 : RdM.number ⟨b.drop 1, false⟩ 2 = (0, ⟨b.drop 1, true⟩) := number_sh (.inr (by rw [List.length_drop]; omega))
    rw [oneM_good hn1 hk hn2]
    unfold oneD
    rw [if_neg hk, if_pos h3]
    refine ⟨?_, fun h => absurd h (by decide)⟩
    have hs : (swB (kindB b) (0 : Nat) ⟨b.drop 1, true⟩).2.2.short = true := by
      unfold swB
      split
      · split
        · rw [bytes_sh (.inl rfl)]
        · rfl
      · split
        · rw [number_sh (.inl rfl)]
        · split
          · rw [number_sh (.inl rfl)]; show (RdM.bytes ⟨b.drop 1, true⟩ 0).2.short = true; rw [bytes_sh (.inl rfl)]
          · split
            · rw [number_sh (.inl rfl)]
            · rfl
    exact endB_short hs
  have hn2 : RdM.number ⟨b.drop 1, false⟩ 2 = (strB b, ⟨b.drop 3, false⟩) := by
    rw [number_ok (by rw [List.length_drop]; omega), val2 (by rw [List.length_drop]; omega), getD_drop, getD_drop, List.drop_drop]
    rfl
  rw [oneM_good hn1 hk hn2]
  unfold oneD
  rw [if_neg hk, if_neg h3]
  have hl3 : (b.drop 3).length = b.length - 3 := List.length_drop
  unfold swB
  have hkk : ((b.getD 0 0).toNat : Int) = (kindB b : Int) := rfl
  rw [hkk]
  by_cases k1 : kindB b = 1
  · rw [if_pos (by omega), if_pos k1]
    obtain ⟨⟨e, a, n⟩, hd⟩ : ∃ d, decA (b.drop 3) = d := ⟨_, rfl⟩
    rw [hd]
    simp only []
    by_cases he : e = 0
    · subst he
      have hle := dec_le hd
      rw [if_pos rfl, if_neg (by simp), bytes_ok hle]
      rw [k1]
      refine oneAs_chk (by omega) (fun h => by omega) (fun h => ?_)
      rw [List.drop_drop]
    · rw [if_pos he, if_neg he]
      exact oneAs_err rfl he rfl
  rw [if_neg (by omega), if_neg k1]
  by_cases k2 : kindB b = 2 ∨ kindB b = 5
  · rw [if_pos (by omega), if_pos k2]
    by_cases h4 : b.length < 4
    · rw [number_sh (.inr (by omega))]
      unfold chkF
      rw [if_pos h4]
      exact oneAs_short rfl rfl
    · rw [number_ok (by omega), val1 (by omega), getD_drop, List.drop_drop]
      exact oneAs_chk (by omega) (fun h => by omega) (fun h => rfl)
  rw [if_neg (by omega), if_neg k2]
  by_cases k3 : kindB b = 3
  · rw [if_pos (by omega), if_pos k3, k3]
    by_cases h5 : b.length < 5
    · rw [number_sh (.inr (by omega)), if_pos h5]
      simp only []
      rw [bytes_sh (.inl rfl)]
      exact oneAs_short rfl rfl
    · rw [number_ok (by omega), if_neg h5, val2 (by omega), getD_drop, getD_drop, List.drop_drop]
      simp only [Nat.add_zero, Nat.reduceAdd]
      generalize (b.getD 3 0).toNat * 256 + (b.getD 4 0).toNat = N
      by_cases h6 : b.length < 5 + N
      · rw [bytes_sh (.inr (by rw [List.length_drop]; omega))]
        unfold chkF
        rw [if_pos h6]
        exact oneAs_short rfl rfl
      · rw [bytes_ok (by rw [List.length_drop]; omega), List.drop_drop]
        exact oneAs_chk (by omega) (fun h => by omega) (fun h => rfl)
  rw [if_neg (by omega), if_neg k3]
  by_cases k4 : kindB b = 4
  · rw [if_neg (by omega), if_pos k4, k4]
    exact oneAs_chk (by omega) (fun h => by omega) (fun h => rfl)
  rw [if_pos (by omega), if_neg k4]
  by_cases h7 : b.length < 7
  · rw [number_sh (.inr (by omega))]
    unfold chkF
    rw [if_pos h7]
    exact oneAs_short rfl rfl
  · rw [number_ok (by omega), List.drop_drop]
    exact oneAs_chk (by omega) (fun h => by omega) (fun h => rfl)

/-- All frames of bytes. -/
def dresF (done : List FrM) (x : Int × List FrM) : Int × List FrM := if x.1 ≠ 0 then (x.1, []) else (0, done ++ x.2)
def decFn : Nat → List UInt8 → Int × List FrM
  | 0, _ => (0, [])
  | n + 1, b => if b.length = 0 then (0, []) else if (oneD b).1 ≠ 0 then ((oneD b).1, []) else dresF [(oneD b).2.1] (decFn n (b.drop (oneD b).2.2))
def decF (b : List UInt8) : Int × List FrM := decFn b.length b
theorem oneD_ok {b : List UInt8} (h0 : 0 < b.length) (h : (oneD b).1 = 0) : 3 ≤ (oneD b).2.2 ∧ (oneD b).2.2 ≤ b.length ∧ (oneD b).2.1.may = true := by
  have h1 := (one_reads h0).2 h
  exact h1.2.2
theorem decFn_eq : ∀ (n m : Nat) (b : List UInt8), b.length ≤ n → b.length ≤ m → decFn n b = decFn m b
  | 0, 0, b, _, _ => rfl
  | 0, m + 1, b, h, _ => by simp only [decFn]; rw [if_pos (by omega)]
  | n + 1, 0, b, _, h => by simp only [decFn]; rw [if_pos (by omega)]
  | n + 1, m + 1, b, h1, h2 => by
    simp only [decFn]
    by_cases h0 : b.length = 0
    · rw [if_pos h0, if_pos h0]
    rw [if_neg h0, if_neg h0]
    by_cases he : (oneD b).1 = 0
    · have h3 := oneD_ok (by omega) he
      rw [if_neg (by simp [he]), if_neg (by simp [he]), decFn_eq n m _ (by rw [List.length_drop]; omega) (by rw [List.length_drop]; omega)]
    · rw [if_pos he, if_pos he]
theorem decF_nil : decF [] = (0, []) := rfl
theorem decF_err {b : List UInt8} (h0 : 0 < b.length) (he : (oneD b).1 ≠ 0) : decF b = ((oneD b).1, []) := by
  unfold decF
  obtain ⟨n, hn⟩ : ∃ n, b.length = n + 1 := ⟨b.length - 1, by omega⟩
  rw [hn]
  simp only [decFn]
  rw [if_neg (by omega), if_pos he]
theorem decF_step {b : List UInt8} (h0 : 0 < b.length) (he : (oneD b).1 = 0) : decF b = dresF [(oneD b).2.1] (decF (b.drop (oneD b).2.2)) := by
  have h3 := oneD_ok h0 he
  unfold decF
  obtain ⟨n, hn⟩ : ∃ n, b.length = n + 1 := ⟨b.length - 1, by omega⟩
  rw [hn]
  simp only [decFn]
  rw [if_neg (by omega), if_neg (by simp [he]), decFn_eq n _ _ (by rw [List.length_drop]; omega) (Nat.le_refl _)]
theorem dres_dres (a c : List FrM) (x : Int × List FrM) : dresF a (dresF c x) = dresF (a ++ c) x := by
  unfold dresF
  by_cases h : x.1 = 0
  · simp [h]
  · simp [h]
theorem dres_ok (a : List FrM) (l : List FrM) : dresF a (0, l) = (0, a ++ l) := by unfold dresF; simp
theorem dres_err (a : List FrM) {e : Int} (h : e ≠ 0) (l : List FrM) : dresF a (e, l) = (e, []) := by unfold dresF; simp [h]
theorem decFn_inv : ∀ (n : Nat) (b : List UInt8), (decFn n b).1 ≠ 0 → (decFn n b).2 = []
  | 0, _, h => absurd rfl h
  | n + 1, b, h => by
    simp only [decFn] at h ⊢
    split
    · rfl
    · split
      · rfl
      · rename_i h1 h2
        rw [if_neg h1, if_neg h2] at h
        unfold dresF at h ⊢
        split
        · rfl
        · rename_i h3
          rw [if_neg h3] at h
          exact absurd rfl h
theorem dres_nil (b : List UInt8) : dresF [] (decF b) = decF b := by
  unfold dresF
  split
  · rename_i h
    exact Prod.ext rfl (decFn_inv _ _ h).symm
  · rename_i h
    exact Prod.ext (Classical.not_not.1 h).symm (by simp)
end Go.Proofs.Ytkejadhkebjdcaa
