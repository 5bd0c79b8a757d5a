/- Frames are read as they were written, in plain Lean. -/
import Derived.Test.YtkejadhkebjdcaaFrD
namespace Go.Proofs.Ytkejadhkebjdcaa
open Go Go.RowKit
set_option linter.unusedVariables false
set_option linter.unusedSimpArgs false

theorem sameAd_eq {a b : AdM} (h : sameAd a b = true) : a = b := by
  unfold sameAd at h
  simp only [Bool.and_eq_true, beq_iff_eq] at h
  obtain ⟨⟨⟨h1, h2⟩, h3⟩, h4⟩ := h
  obtain ⟨k, i, n, p⟩ := a
  obtain ⟨k', i', n', p'⟩ := b
  have h5 := strOf_data n
  dsimp only at h1 h2 h3 h4
  rw [h3, strOf_data] at h5
  subst h1 h2 h4 h5
  rfl
theorem sameFr_eq {f g : FrM} (h : sameFr f g = true) : f = g := by
  unfold sameFr at h
  simp only [Bool.and_eq_true, beq_iff_eq] at h
  obtain ⟨⟨⟨⟨⟨h1, h2⟩, h3⟩, h4⟩, h5⟩, h6⟩ := h
  obtain ⟨a, b, c, d, e, x⟩ := f
  obtain ⟨a', b', c', d', e', x'⟩ := g
  have h7 := sameAd_eq h5
  dsimp only at *
  subst h1 h2 h3 h4 h7 h6
  rfl
theorem sameAd_self (a : AdM) : sameAd a a = true := by unfold sameAd; simp
theorem sameFr_self (a : FrM) : sameFr a a = true := by unfold sameFr; simp [sameAd_self]
theorem may_plain {f : FrM} (h : f.may = true) : f = f.plain := by
  unfold FrM.may at h
  rw [Bool.and_eq_true] at h
  exact sameFr_eq h.2

/-- A number's bytes, read. -/
theorem val_be2 {n : Nat} (h : n < 65536) : ((beB n 2).getD 0 0).toNat * 256 + ((beB n 2).getD 1 0).toNat = n := by
  simp [beB, UInt8.toNat_ofNat']
  omega
theorem val_be1 {n : Nat} (h : n < 256) : ((beB n 1).getD 0 0).toNat = n := by
  simp [beB, UInt8.toNat_ofNat']
  omega
theorem val_be4 {n : Nat} (h : n < 4294967296) : valB (beB n 4) = n := by
  simp [beB, valB, UInt8.toNat_ofNat']
  omega
theorem be_val1 (x : UInt8) : beB x.toNat 1 = [x] := by simp [beB]
theorem be_val2 (x y : UInt8) : beB (x.toNat * 256 + y.toNat) 2 = [x, y] := by
  have hx := x.toNat_lt
  have hy := y.toNat_lt
  simp only [beB, List.cons.injEq, and_true]
  constructor <;> apply UInt8.toNat_inj.1 <;> simp only [UInt8.toNat_ofNat'] <;> omega
theorem be_val4 (x y z u : UInt8) : beB (valB [x, y, z, u]) 4 = [x, y, z, u] := by
  have hx := x.toNat_lt
  have hy := y.toNat_lt
  have hz := z.toNat_lt
  have hu := u.toNat_lt
  simp only [beB, valB, List.foldl_cons, List.foldl_nil, List.cons.injEq, and_true]
  refine ⟨?_, ?_, ?_, ?_⟩ <;> apply UInt8.toNat_inj.1 <;> simp only [UInt8.toNat_ofNat'] <;> omega

theorem enc3 (f : FrM) : ∃ x y, beB f.stream.toNat 2 = [x, y] ∧ f.enc = UInt8.ofNat f.kind.toNat :: x :: y :: f.tail := ⟨_, _, rfl, rfl⟩
theorem enc_len3 (f : FrM) : f.enc.length = 3 + f.tail.length := by
  obtain ⟨x, y, _, h⟩ := enc3 f
  rw [h]
  simp; omega
theorem tail_len {f : FrM} (h : f.may = true) : f.tail.length ≤ 4002 := by
  obtain ⟨_, _, _, _, h1, _, _, h3, _⟩ := fmay_facts h
  unfold FrM.tail
  split
  · have := enc_four _ (h1 (by assumption)); omega
  · split
    · rw [beB_length]; omega
    · split
      · have := h3 (by assumption)
        rw [List.length_append, beB_length]; omega
      · split
        · rw [beB_length]; omega
        · simp

/-- What a decoder meets at a frame's bytes, whatever stands behind, or when they are cut behind the third. -/
theorem enc_meets {f : FrM} (h : f.may = true) (t : List UInt8) : let b := UInt8.ofNat f.kind.toNat :: beB f.stream.toNat 2 ++ t
    b.drop 3 = t ∧ (kindB b : Int) = f.kind ∧ (strB b : Int) = f.stream ∧ b.length = 3 + t.length := by
  obtain ⟨h1, h2, h3, h4, _⟩ := fmay_facts h
  obtain ⟨x, y, hxy, _⟩ := enc3 f
  have hv := val_be2 (n := f.stream.toNat) (by omega)
  rw [hxy] at hv
  simp only [hxy, List.cons_append, List.nil_append]
  refine ⟨rfl, ?_, ?_, by simp; omega⟩
  · show ((UInt8.ofNat f.kind.toNat).toNat : Int) = f.kind
    rw [toNat_of (by omega)]
    omega
  · show ((x.toNat * 256 + y.toNat : Nat) : Int) = f.stream
    have hv' : x.toNat * 256 + y.toNat = f.stream.toNat := hv
    rw [hv']
    omega
theorem enc_eq (f : FrM) (more : List UInt8) : f.enc ++ more = UInt8.ofNat f.kind.toNat :: beB f.stream.toNat 2 ++ (f.tail ++ more) := by unfold FrM.enc; simp
theorem kind_nat {f : FrM} {k : Nat} (h : (k : Int) = f.kind) (n : Nat) : k = n ↔ f.kind = n := by omega

theorem chk_ok {b : List UInt8} {f g : FrM} {n : Nat} (hf : f.may = true) (he : g = f) (hl : n ≤ b.length) : chkF b g n = (0, f, n) := by
  subst he
  unfold chkF
  rw [if_neg (by omega), if_neg (by simp [hf])]

theorem oneD_enc {f : FrM} (h : f.may = true) (more : List UInt8) : oneD (f.enc ++ more) = (0, f, f.enc.length) := by
  obtain ⟨m1, m2, m3, m4⟩ := enc_meets h (f.tail ++ more)
  rw [← enc_eq] at m1 m2 m3 m4
  obtain ⟨h1, h2, h3, h4, h5, h6, h7, h8, h9, h10, _⟩ := fmay_facts h
  have hp := may_plain h
  have hen := enc_len3 f
  generalize hb : f.enc ++ more = b at *
  have hsk : ((strB b : Nat) : Int) = f.stream := m3
  have hbl : b.length = 3 + f.tail.length + more.length := by rw [m4, List.length_append]; omega
  have g : ∀ j, b.getD (3 + j) 0 = (f.tail ++ more).getD j 0 := fun j => by rw [← m1, getD_drop]
  unfold oneD
  rw [if_neg (by omega), if_neg (by omega), m1]
  by_cases k1 : f.kind = 1
  · rw [if_pos (by omega)]
    have ht : f.tail = f.addr.enc := by unfold FrM.tail; rw [if_pos k1]
    rw [ht, dec_enc (h5 k1) more]
    simp only []
    rw [if_neg (by simp)]
    refine (chk_ok h ?_ (by rw [hbl, ht]; omega)).trans ?_
    · rw [hp]
      unfold FrM.plain
      rw [if_pos k1, hsk, k1]
    · rw [hen, ht]
  rw [if_neg (by omega)]
  by_cases k2 : f.kind = 2 ∨ f.kind = 5
  · rw [if_pos (by omega)]
    have ht : f.tail = beB f.code.toNat 1 := by unfold FrM.tail; rw [if_neg k1, if_pos k2]
    have hc : 0 ≤ f.code ∧ f.code ≤ 255 := by rcases k2 with k | k; exact ⟨(h6 k).1, by have := (h6 k).2; omega⟩; exact h7 k
    have hg3 : ((b.getD 3 0).toNat : Int) = f.code := by
      have := g 0
      rw [ht] at this
      rw [show 3 + 0 = 3 from rfl] at this
      rw [this]
      have hv := val_be1 (n := f.code.toNat) (by omega)
      have : (beB f.code.toNat 1 ++ more).getD 0 0 = (beB f.code.toNat 1).getD 0 0 := by simp [beB]
      rw [this, hv]
      omega
    refine (chk_ok h ?_ (by rw [hbl, ht, beB_length]; omega)).trans ?_
    · rw [hg3, m2, hsk]
      conv => rhs; rw [hp]
      unfold FrM.plain
      rw [if_neg k1, if_pos k2]
    · rw [hen, ht, beB_length]
  rw [if_neg (by omega)]
  by_cases k3 : f.kind = 3
  · rw [if_pos (by omega)]
    have ht : f.tail = beB f.data.length 2 ++ f.data := by unfold FrM.tail; rw [if_neg k1, if_neg k2, if_pos k3]
    have hdl := h8 k3
    have hv := val_be2 (n := f.data.length) (by omega)
    have g3 : b.getD 3 0 = (beB f.data.length 2).getD 0 0 := by have := g 0; rw [ht] at this; rw [show 3 + 0 = 3 from rfl] at this; rw [this]; simp [beB]
    have g4 : b.getD 4 0 = (beB f.data.length 2).getD 1 0 := by have := g 1; rw [ht] at this; rw [show 3 + 1 = 4 from rfl] at this; rw [this]; simp [beB]
    have hd5 : (b.drop 5).take f.data.length = f.data := by
      have : b.drop 5 = (b.drop 3).drop 2 := by rw [List.drop_drop]
      rw [this, m1, ht]
      have h2 : (beB f.data.length 2 ++ f.data ++ more).drop 2 = f.data ++ more := by rw [List.append_assoc]; exact drop_app (beB_length _ _)
      rw [h2, List.take_append_of_le_length (Nat.le_refl _), List.take_length]
    rw [g3, g4, hv, hd5, if_neg (by rw [hbl, ht, List.length_append, beB_length]; omega)]
    refine (chk_ok h ?_ (by rw [hbl, ht, List.length_append, beB_length]; omega)).trans ?_
    · conv => rhs; rw [hp]
      unfold FrM.plain
      rw [if_neg k1, if_neg k2, if_pos k3, hsk, k3]
    · rw [hen, ht, List.length_append, beB_length]
      congr 2
      omega
  rw [if_neg (by omega)]
  by_cases k4 : f.kind = 4
  · rw [if_pos (by omega)]
    have ht : f.tail = [] := by unfold FrM.tail; rw [if_neg k1, if_neg k2, if_neg k3, if_neg (by omega)]
    refine (chk_ok h ?_ (by rw [hbl]; omega)).trans ?_
    · conv => rhs; rw [hp]
      unfold FrM.plain
      rw [if_neg k1, if_neg k2, if_neg k3, if_neg (by omega), hsk, k4]
    · rw [hen, ht]
      rfl
  rw [if_neg (by omega)]
  have k6 : f.kind = 6 ∨ f.kind = 7 ∨ f.kind = 8 := by omega
  have ht : f.tail = beB f.n.toNat 4 := by unfold FrM.tail; rw [if_neg k1, if_neg k2, if_neg k3, if_pos k6]
  have hn : 0 ≤ f.n ∧ f.n ≤ 4294967295 := by
    rcases k6 with k | k | k
    · have := h9 k; omega
    · exact (h10 (.inl k)).2
    · exact (h10 (.inr k)).2
  have hd3 : valB ((f.tail ++ more).take 4) = f.n.toNat := by
    rw [ht, List.take_append_of_le_length (by rw [beB_length]; omega), List.take_of_length_le (by rw [beB_length]; omega), val_be4 (by omega)]
  rw [hd3]
  refine (chk_ok h ?_ (by rw [hbl, ht, beB_length]; omega)).trans ?_
  · rw [m2, hsk, show ((f.n.toNat : Nat) : Int) = f.n by omega]
    conv => rhs; rw [hp]
    unfold FrM.plain
    rw [if_neg k1, if_neg k2, if_neg k3, if_pos k6]
  · rw [hen, ht, beB_length]

theorem kind_take {b : List UInt8} {k : Nat} (h : 0 < k) : kindB (b.take k) = kindB b := by unfold kindB; rw [take_getD h]
theorem str_take {b : List UInt8} {k : Nat} (h : 3 ≤ k) : strB (b.take k) = strB b := by unfold strB; rw [take_getD (by omega), take_getD (by omega)]
/-- A beginning of a frame is too short. -/
theorem oneD_short {f : FrM} (h : f.may = true) {k : Nat} (h0 : 0 < k) (hk : k < f.enc.length) : (oneD (f.enc.take k)).1 = 2 := by
  obtain ⟨m1, m2, m3, m4⟩ := enc_meets h f.tail
  have he : UInt8.ofNat f.kind.toNat :: beB f.stream.toNat 2 ++ f.tail = f.enc := rfl
  rw [he] at m1 m2 m3 m4
  obtain ⟨h1, h2, h3, h4, h5, h6, h7, h8, h9, h10, _⟩ := fmay_facts h
  have hl : (f.enc.take k).length = k := by rw [List.length_take]; omega
  have hkk := kind_take (b := f.enc) h0
  unfold oneD
  rw [hkk, hl, if_neg (by omega)]
  by_cases hk3 : k < 3
  · rw [if_pos hk3]
  rw [if_neg hk3]
  have hd : (f.enc.take k).drop 3 = f.tail.take (k - 3) := by rw [List.drop_take, m1]
  rw [hd]
  have chs : ∀ (g : FrM) (n : Nat), k < n → (chkF (f.enc.take k) g n).1 = 2 := fun g n hn => by unfold chkF; rw [if_pos (by omega)]
  by_cases k1 : f.kind = 1
  · rw [if_pos (by omega)]
    have ht : f.tail = f.addr.enc := by unfold FrM.tail; rw [if_pos k1]
    have hs := dec_short (h5 k1) (k := k - 3) (by rw [← ht]; omega)
    rw [ht, hs, if_pos (by decide)]
  rw [if_neg (by omega)]
  by_cases k2 : f.kind = 2 ∨ f.kind = 5
  · rw [if_pos (by omega)]
    have ht : f.tail = beB f.code.toNat 1 := by unfold FrM.tail; rw [if_neg k1, if_pos k2]
    rw [ht, beB_length] at m4
    exact chs _ _ (by omega)
  rw [if_neg (by omega)]
  by_cases k3 : f.kind = 3
  · rw [if_pos (by omega)]
    have ht : f.tail = beB f.data.length 2 ++ f.data := by unfold FrM.tail; rw [if_neg k1, if_neg k2, if_pos k3]
    have hdl := h8 k3
    have hv := val_be2 (n := f.data.length) (by omega)
    have g : ∀ j, f.enc.getD (3 + j) 0 = f.tail.getD j 0 := fun j => by rw [← m1, getD_drop]
    by_cases k5 : k < 5
    · rw [if_pos k5]
    rw [if_neg k5, take_getD (by omega), take_getD (by omega)]
    have g3 : f.enc.getD 3 0 = (beB f.data.length 2).getD 0 0 := by have := g 0; rw [ht] at this; rw [show 3 + 0 = 3 from rfl] at this; rw [this]; simp [beB]
    have g4 : f.enc.getD 4 0 = (beB f.data.length 2).getD 1 0 := by have := g 1; rw [ht] at this; rw [show 3 + 1 = 4 from rfl] at this; rw [this]; simp [beB]
    rw [g3, g4, hv]
    rw [ht, List.length_append, beB_length] at m4
    exact chs _ _ (by omega)
  rw [if_neg (by omega)]
  by_cases k4 : f.kind = 4
  · have ht : f.tail = [] := by unfold FrM.tail; rw [if_neg k1, if_neg k2, if_neg k3, if_neg (by omega)]
    rw [ht] at m4
    simp at m4
    omega
  rw [if_neg (by omega)]
  have ht : f.tail = beB f.n.toNat 4 := by unfold FrM.tail; rw [if_neg k1, if_neg k2, if_neg k3, if_pos (by omega)]
  rw [ht, beB_length] at m4
  exact chs _ _ (by omega)

theorem chk_inv {b : List UInt8} {g f : FrM} {m n : Nat} (h : chkF b g m = (0, f, n)) : g = f ∧ m = n ∧ m ≤ b.length := by
  unfold chkF at h
  split at h
  · injection h with h _; exact absurd h (by decide)
  · split at h
    · injection h with h _; exact absurd h (by decide)
    · injection h with _ h; injection h with h1 h2; exact ⟨h1, h2, by omega⟩
theorem head3 {b : List UInt8} (h : 3 ≤ b.length) (m : Nat) : b.take (3 + m) = b.getD 0 0 :: b.getD 1 0 :: b.getD 2 0 :: (b.drop 3).take m := by
  match b, h with
  | x :: y :: z :: l, _ =>
    rw [show 3 + m = m + 1 + 1 + 1 by omega]
    simp [List.getD]
theorem head_enc {b : List UInt8} {f : FrM} (hk : f.kind = (kindB b : Int)) (hs : f.stream = (strB b : Int)) (t : List UInt8) (ht : f.tail = t) : f.enc = b.getD 0 0 :: b.getD 1 0 :: b.getD 2 0 :: t := by
  unfold FrM.enc
  rw [ht, hk, hs, Int.toNat_natCast, Int.toNat_natCast]
  unfold kindB strB
  rw [be_val2, ofNat_toNat]
  rfl
theorem take1 {l : List UInt8} (h : 1 ≤ l.length) : l.take 1 = [l.getD 0 0] := by
  match l, h with
  | x :: l, _ => simp
theorem take4 {l : List UInt8} (h : 4 ≤ l.length) : l.take 4 = [l.getD 0 0, l.getD 1 0, l.getD 2 0, l.getD 3 0] := by
  match l, h with
  | x :: y :: z :: u :: l, _ => simp [List.getD]
/-- What is read, of whatever bytes, is written as those bytes. -/
theorem oneD_back {b : List UInt8} {f : FrM} {n : Nat} (h0 : 0 < b.length) (h : oneD b = (0, f, n)) : f.may = true ∧ f.enc = b.take n := by
  have hok := oneD_ok h0 (by rw [h])
  rw [h] at hok
  dsimp only at hok
  obtain ⟨hn3, hnl, hmay⟩ := hok
  refine ⟨hmay, ?_⟩
  have h3 := head3 (b := b) (by omega) (n - 3)
  rw [show 3 + (n - 3) = n by omega] at h3
  rw [h3]
  unfold oneD at h
  by_cases hk : kindB b < 1 ∨ 8 < kindB b
  · rw [if_pos hk] at h; injection h with h _; exact absurd h (by decide)
  rw [if_neg hk, if_neg (by omega)] at h
  have hl3 : (b.drop 3).length = b.length - 3 := List.length_drop
  by_cases k1 : kindB b = 1
  · rw [if_pos k1] at h
    obtain ⟨⟨e, a, m⟩, hd⟩ : ∃ d, decA (b.drop 3) = d := ⟨_, rfl⟩
    rw [hd] at h
    dsimp only at h
    by_cases he : e = 0
    · subst he
      rw [if_neg (by simp)] at h
      obtain ⟨g1, g2, g3⟩ := chk_inv h
      obtain ⟨d1, d2, d3, d4⟩ := dec_ok hd
      subst g1
      refine head_enc (by rw [k1]; rfl) rfl _ ?_
      rw [show n - 3 = m by omega, ← d4]
      rfl
    · rw [if_pos he] at h
      injection h with h _
      exact absurd h he
  rw [if_neg k1] at h
  by_cases k2 : kindB b = 2 ∨ kindB b = 5
  · rw [if_pos k2] at h
    obtain ⟨g1, g2, g3⟩ := chk_inv h
    subst g1
    refine head_enc rfl rfl _ ?_
    unfold FrM.tail
    rw [if_neg (by show ¬ ((kindB b : Nat) : Int) = 1; omega), if_pos (by show ((kindB b : Nat) : Int) = 2 ∨ ((kindB b : Nat) : Int) = 5; omega)]
    show beB ((b.getD 3 0).toNat : Int).toNat 1 = _
    rw [Int.toNat_natCast, be_val1, show n - 3 = 1 by omega, take1 (by omega), getD_drop]
  rw [if_neg k2] at h
  by_cases k3 : kindB b = 3
  · rw [if_pos k3] at h
    by_cases h5 : b.length < 5
    · rw [if_pos h5] at h; injection h with h _; exact absurd h (by decide)
    rw [if_neg h5] at h
    obtain ⟨g1, g2, g3⟩ := chk_inv h
    subst g1
    refine head_enc (by rw [k3]; rfl) rfl _ ?_
    unfold FrM.tail
    rw [if_neg (by show ¬ (3 : Int) = 1; decide), if_neg (by show ¬ ((3 : Int) = 2 ∨ (3 : Int) = 5); decide), if_pos (by rfl)]
    dsimp only
    have hlen : ((b.drop 5).take ((b.getD 3 0).toNat * 256 + (b.getD 4 0).toNat)).length = (b.getD 3 0).toNat * 256 + (b.getD 4 0).toNat := by
      rw [List.length_take, List.length_drop]; omega
    rw [hlen, be_val2, show n - 3 = 2 + ((b.getD 3 0).toNat * 256 + (b.getD 4 0).toNat) by omega]
    rw [show (b.drop 3).take (2 + ((b.getD 3 0).toNat * 256 + (b.getD 4 0).toNat)) = (b.drop 3).take 2 ++ ((b.drop 3).drop 2).take ((b.getD 3 0).toNat * 256 + (b.getD 4 0).toNat) by rw [List.take_add], List.drop_drop]
    have := take_two (l := b.drop 3) (i := 0) (by omega)
    rw [Nat.zero_add] at this
    rw [this, getD_drop, getD_drop]
    rfl
  rw [if_neg k3] at h
  by_cases k4 : kindB b = 4
  · rw [if_pos k4] at h
    obtain ⟨g1, g2, g3⟩ := chk_inv h
    subst g1
    refine head_enc (by rw [k4]; rfl) rfl _ ?_
    rw [show n - 3 = 0 by omega]
    rfl
  rw [if_neg k4] at h
  obtain ⟨g1, g2, g3⟩ := chk_inv h
  subst g1
  refine head_enc rfl rfl _ ?_
  unfold FrM.tail
  rw [if_neg (by show ¬ ((kindB b : Nat) : Int) = 1; omega), if_neg (by show ¬ (((kindB b : Nat) : Int) = 2 ∨ ((kindB b : Nat) : Int) = 5); omega), if_neg (by show ¬ ((kindB b : Nat) : Int) = 3; omega), if_pos (by show ((kindB b : Nat) : Int) = 6 ∨ ((kindB b : Nat) : Int) = 7 ∨ ((kindB b : Nat) : Int) = 8; omega)]
  show beB ((valB ((b.drop 3).take 4) : Nat) : Int).toNat 4 = _
  rw [Int.toNat_natCast, show n - 3 = 4 by omega, take4 (by omega), be_val4]

/-- All the bytes of frames. -/
def encL (l : List FrM) : List UInt8 := l.flatMap FrM.enc
theorem encL_nil : encL [] = [] := rfl
theorem encL_cons (f : FrM) (l : List FrM) : encL (f :: l) = f.enc ++ encL l := rfl
theorem encL_append (a b : List FrM) : encL (a ++ b) = encL a ++ encL b := by unfold encL; simp
theorem encL_snoc (a : List FrM) (f : FrM) : encL (a ++ [f]) = encL a ++ f.enc := by rw [encL_append]; simp [encL]
theorem decF_enc {f : FrM} (h : f.may = true) (more : List UInt8) : decF (f.enc ++ more) = dresF [f] (decF more) := by
  have h1 := oneD_enc h more
  have hl := enc_len3 f
  rw [decF_step (by rw [List.length_append]; omega) (by rw [h1]), h1, drop_app rfl]
theorem decF_encL : ∀ {l : List FrM}, (∀ f ∈ l, f.may = true) → ∀ (more : List UInt8), decF (encL l ++ more) = dresF l (decF more)
  | [], _, more => (dres_nil more).symm
  | f :: l, h, more => by
    rw [encL_cons, List.append_assoc, decF_enc (h f (by simp)), decF_encL (fun g hg => h g (by simp [hg])), dres_dres]
    rfl
theorem decF_all {l : List FrM} (h : ∀ f ∈ l, f.may = true) : decF (encL l) = (0, l) := by
  have := decF_encL h []
  rw [List.append_nil, decF_nil, dres_ok, List.append_nil] at this
  exact this
/-- A byte less is too few. -/
theorem decF_less {l : List FrM} (h : ∀ f ∈ l, f.may = true) (h0 : 0 < (encL l).length) : (decF ((encL l).take ((encL l).length - 1))).1 = 2 := by
  rcases List.eq_nil_or_concat l with rfl | ⟨a, f, rfl⟩
  · simp [encL] at h0
  · rw [List.concat_eq_append] at h h0 ⊢
    have hf := h f (by simp)
    have hl := enc_len3 f
    rw [encL_snoc, List.length_append, show (encL a).length + f.enc.length - 1 = (encL a).length + (f.enc.length - 1) by omega, List.take_length_add_append,
      decF_encL (fun g hg => h g (by simp [hg]))]
    have hs := oneD_short hf (k := f.enc.length - 1) (by omega) (by omega)
    have hlen : (f.enc.take (f.enc.length - 1)).length = f.enc.length - 1 := by rw [List.length_take]; omega
    rw [decF_err (by omega) (by rw [hs]; decide), hs, dres_err _ (by decide)]
/-- An end that is no frame spoils all. -/
theorem decF_spoilt {l : List FrM} (h : ∀ f ∈ l, f.may = true) {x : UInt8} (hx : x.toNat < 1 ∨ 8 < x.toNat) : (decF (encL l ++ [x])).1 = 3 := by
  rw [decF_encL h]
  have : oneD [x] = (3, FrM.of 0 0, 0) := by
    unfold oneD
    rw [if_pos (by exact hx)]
  rw [decF_err (by simp) (by rw [this]; decide), this, dres_err _ (by decide)]
/-- What is read, of whatever bytes, is written as those bytes. -/
theorem decFn_back : ∀ (n : Nat) (b : List UInt8) (l : List FrM), b.length ≤ n → decFn n b = (0, l) → encL l = b ∧ ∀ f ∈ l, f.may = true
  | 0, b, l, hb, h => by
    injection h with _ h
    subst h
    have : b = [] := List.eq_nil_of_length_eq_zero (by omega)
    subst this
    exact ⟨rfl, by simp⟩
  | n + 1, b, l, hb, h => by
    simp only [decFn] at h
    by_cases h0 : b.length = 0
    · rw [if_pos h0] at h
      injection h with _ h
      subst h
      have : b = [] := List.eq_nil_of_length_eq_zero h0
      subst this
      exact ⟨rfl, by simp⟩
    rw [if_neg h0] at h
    obtain ⟨⟨e, f, k⟩, hx⟩ : ∃ x, oneD b = x := ⟨_, rfl⟩
    rw [hx] at h
    dsimp only at h
    by_cases he : e = 0
    · subst he
      have hok := oneD_ok (b := b) (by omega) (by rw [hx])
      rw [hx] at hok
      dsimp only at hok
      rw [if_neg (by simp)] at h
      obtain ⟨⟨e2, l2⟩, hy⟩ : ∃ y, decFn n (b.drop k) = y := ⟨_, rfl⟩
      rw [hy] at h
      by_cases he2 : e2 = 0
      · subst he2
        rw [dres_ok] at h
        injection h with _ h
        obtain ⟨i1, i2⟩ := decFn_back n (b.drop k) l2 (by rw [List.length_drop]; omega) hy
        obtain ⟨j1, j2⟩ := oneD_back (by omega) hx
        subst h
        refine ⟨?_, fun g hg => ?_⟩
        · show f.enc ++ encL l2 = b
          rw [j2, i1, List.take_append_drop]
        · simp at hg
          rcases hg with rfl | hg
          · exact j1
          · exact i2 g hg
      · rw [dres_err _ he2] at h
        injection h with h _
        exact absurd h he2
    · rw [if_pos he] at h
      injection h with h _
      exact absurd h he
theorem decF_back {b : List UInt8} {l : List FrM} (h : decF b = (0, l)) : encL l = b ∧ ∀ f ∈ l, f.may = true := decFn_back _ _ _ (Nat.le_refl _) h
end Go.Proofs.Ytkejadhkebjdcaa
