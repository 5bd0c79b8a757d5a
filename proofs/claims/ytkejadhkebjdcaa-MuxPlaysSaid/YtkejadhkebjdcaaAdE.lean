/- Addresses as bytes, in plain Lean. -/
import Derived.Test.YtkejadhkebjdcaaAddrW
namespace Go.Proofs.Ytkejadhkebjdcaa
open Go Go.RowKit
set_option linter.unusedVariables false
set_option linter.unusedSimpArgs false

/-- An address's bytes. -/
def AdM.enc (a : AdM) : List UInt8 :=
  (UInt8.ofNat a.kind.toNat :: a.ip) ++ (if a.kind = 3 then UInt8.ofNat a.name.size :: a.name.data.toList else []) ++ [UInt8.ofNat (a.port.toNat / 256), UInt8.ofNat a.port.toNat]

/-- How long what stands behind the kind is, and how long what is ahead of a name is; 0: there is such a kind. -/
def lensB (b : List UInt8) : Int × Nat × Nat :=
  if (b.getD 0 0).toNat = 1 then (0, 4, 0)
  else if (b.getD 0 0).toNat = 4 then (0, 16, 0)
  else if (b.getD 0 0).toNat = 3 then (if b.length < 2 then (2, 0, 0) else if (b.getD 1 0).toNat = 0 ∨ 64 < (b.getD 1 0).toNat then (3, 0, 0) else (0, (b.getD 1 0).toNat, 1))
  else (3, 0, 0)

/-- The address without its port. -/
def cutAd (b : List UInt8) (n ah : Nat) : AdM :=
  if (b.getD 0 0).toNat = 3 then ⟨3, [], strOf ((b.drop (1 + ah)).take n), 0⟩ else ⟨(b.getD 0 0).toNat, (b.drop (1 + ah)).take n, ByteArray.empty, 0⟩

/-- The address that bytes begin with, and how many of them it has. -/
def decA (b : List UInt8) : Int × AdM × Nat :=
  if b.length = 0 then (2, AdM.zero, 0)
  else if (lensB b).1 ≠ 0 then ((lensB b).1, AdM.zero, 0)
  else if b.length < 1 + (lensB b).2.2 + (lensB b).2.1 then (2, AdM.zero, 0)
  else if (cutAd b (lensB b).2.1 (lensB b).2.2).may = false then (3, AdM.zero, 0)
  else if b.length < 1 + (lensB b).2.2 + (lensB b).2.1 + 2 then (2, AdM.zero, 0)
  else (0, { cutAd b (lensB b).2.1 (lensB b).2.2 with port := (b.getD (1 + (lensB b).2.2 + (lensB b).2.1) 0).toNat * 256 + (b.getD (1 + (lensB b).2.2 + (lensB b).2.1 + 1) 0).toNat }, 1 + (lensB b).2.2 + (lensB b).2.1 + 2)

theorem may_iff (a : AdM) : a.may = true ↔ 0 ≤ a.port ∧ a.port ≤ 65535 ∧ (a.kind = 1 ∧ a.ip.length = 4 ∧ a.name.size = 0 ∨ a.kind = 4 ∧ a.ip.length = 16 ∧ a.name.size = 0 ∨ a.kind = 3 ∧ nameOk a.name.data.toList = true ∧ a.ip = []) := by
  unfold AdM.may
  by_cases h1 : a.kind = 1
  · simp [h1, and_assoc]
  · by_cases h4 : a.kind = 4
    · simp [h4, and_assoc]
    · by_cases h3 : a.kind = 3
      · simp [h3, and_assoc]
      · simp [h1, h3, h4]
theorem nameOk_len {s : List UInt8} (h : nameOk s = true) : 1 ≤ s.length ∧ s.length ≤ 64 := by
  unfold nameOk at h
  simp at h
  omega
theorem size_data (s : ByteArray) : s.data.toList.length = s.size := by rw [Array.length_toList]; rfl
theorem empty_of_size {s : ByteArray} (h : s.size = 0) : s = ByteArray.empty := by
  have h1 : s.data.toList = [] := List.eq_nil_of_length_eq_zero (by rw [size_data, h])
  have h2 := strOf_data s
  rw [h1] at h2
  rw [← h2]
  rfl
theorem toNat_of {n : Nat} (h : n < 256) : (UInt8.ofNat n).toNat = n := by simp [UInt8.toNat_ofNat']; omega

/-- The bytes by kinds. -/
theorem enc_len (a : AdM) : a.enc.length = a.ip.length + 3 + if a.kind = 3 then 1 + a.name.size else 0 := by
  unfold AdM.enc
  split
  · simp [size_data]; omega
  · simp
theorem enc_four (a : AdM) (h : a.may = true) : 4 ≤ a.enc.length ∧ a.enc.length ≤ 68 := by
  have h1 := (may_iff a).1 h
  rw [enc_len]
  obtain ⟨_, _, h2⟩ := h1
  rcases h2 with ⟨h3, h4, h5⟩ | ⟨h3, h4, h5⟩ | ⟨h3, h4, h5⟩
  · simp [h3, h4]
  · simp [h3, h4]
  · have := nameOk_len h4
    rw [size_data] at this
    simp [h3, h5]
    omega

theorem may_port {a : AdM} (h : a.may = true) : ({ a with port := 0 } : AdM).may = true := by
  rw [may_iff] at h ⊢
  exact ⟨Int.le_refl _, by simp, h.2.2⟩
theorem getD_app {l r : List UInt8} {i : Nat} (h : l.length = i) : (l ++ r).getD i 0 = r.getD 0 0 := by
  subst h
  simp [List.getD, List.getElem?_append_right]
theorem ad_eta {a : AdM} {k : Int} {i : List UInt8} {s : ByteArray} {p : Int} (h : a.kind = k) (h2 : a.ip = i) (h3 : a.name = s) (h4 : a.port = p) : (⟨k, i, s, p⟩ : AdM) = a := by subst h h2 h3 h4; rfl
theorem drop_app {l r : List UInt8} {i : Nat} (h : l.length = i) : (l ++ r).drop i = r := by subst h; simp
theorem port_back {p : Int} (h0 : 0 ≤ p) (h1 : p ≤ 65535) : (((UInt8.ofNat (p.toNat / 256)).toNat : Int)) * 256 + ((UInt8.ofNat p.toNat).toNat : Int) = p := by
  simp only [UInt8.toNat_ofNat']
  omega


theorem take_getD {l : List UInt8} {k i : Nat} (h : i < k) : (l.take k).getD i 0 = l.getD i 0 := by
  simp [List.getD, List.getElem?_take, h]
theorem lens_take {l : List UInt8} {k : Nat} (h : 2 ≤ k) : lensB (l.take k) = lensB l := by
  unfold lensB
  rw [take_getD (by omega), take_getD (by omega), List.length_take]
  have e : (min k l.length < 2) = (l.length < 2) := by rw [eq_iff_iff]; omega
  simp only [e]
theorem cut_take {l : List UInt8} {k n ah : Nat} (h0 : 0 < k) (h : 1 + ah + n ≤ k) : cutAd (l.take k) n ah = cutAd l n ah := by
  unfold cutAd
  rw [take_getD h0, List.drop_take, List.take_take, Nat.min_eq_left (by omega)]

theorem enc_four_parts {a : AdM} (more : List UInt8) (k m : Nat) (hkm : k = 1 ∧ m = 4 ∨ k = 4 ∧ m = 16) (h3 : a.kind = k) (h4 : a.ip.length = m) (h5 : a.name.size = 0) : ∃ n ah, lensB (a.enc ++ more) = (0, n, ah) ∧ cutAd (a.enc ++ more) n ah = { a with port := 0 } ∧ a.enc.length = 1 + ah + n + 2 ∧
    (a.enc ++ more).getD (1 + ah + n) 0 = UInt8.ofNat (a.port.toNat / 256) ∧ (a.enc ++ more).getD (1 + ah + n + 1) 0 = UInt8.ofNat a.port.toNat ∧ (ah = 0 ∧ ((a.enc ++ more).getD 0 0).toNat ≠ 3 ∨ ah = 1 ∧ ((a.enc ++ more).getD 0 0).toNat = 3) := by
  have hlen := enc_len a
  have he := empty_of_size h5
  have e1 : a.enc ++ more = UInt8.ofNat k :: (a.ip ++ (UInt8.ofNat (a.port.toNat / 256) :: UInt8.ofNat a.port.toNat :: more)) := by
    unfold AdM.enc
    rw [if_neg (by omega), h3]
    simp
  have tk : (UInt8.ofNat k).toNat = k := toNat_of (by omega)
  have l1 : lensB (a.enc ++ more) = (0, m, 0) := by
    rw [e1]
    unfold lensB
    simp only [List.getD_cons_zero, tk]
    rcases hkm with ⟨rfl, rfl⟩ | ⟨rfl, rfl⟩ <;> rfl
  have c1 : cutAd (a.enc ++ more) m 0 = { a with port := 0 } := by
    rw [e1]
    unfold cutAd
    simp only [List.getD_cons_zero, Nat.add_zero, List.drop_succ_cons, List.drop_zero, tk]
    rw [if_neg (by omega), List.take_append_of_le_length (by omega), List.take_of_length_le (by omega), ← h3, ← he]
  exact ⟨m, 0, l1, c1, by rw [hlen, if_neg (by omega)]; omega, by
    rw [e1, show 1 + 0 + m = m + 1 by omega]; simp only [List.getD_cons_succ]; rw [getD_app h4]; rfl, by
    rw [e1, show 1 + 0 + m + 1 = m + 1 + 1 by omega]; simp only [List.getD_cons_succ]
    rw [show a.ip ++ UInt8.ofNat (a.port.toNat / 256) :: UInt8.ofNat a.port.toNat :: more = (a.ip ++ [UInt8.ofNat (a.port.toNat / 256)]) ++ UInt8.ofNat a.port.toNat :: more by simp, getD_app (by simp [h4])]
    rfl, .inl ⟨rfl, by rw [e1]; simp only [List.getD_cons_zero, tk]; omega⟩⟩
/-- The parts that a decoder meets. -/
theorem enc_parts {a : AdM} (h : a.may = true) (more : List UInt8) : ∃ n ah, lensB (a.enc ++ more) = (0, n, ah) ∧ cutAd (a.enc ++ more) n ah = { a with port := 0 } ∧ a.enc.length = 1 + ah + n + 2 ∧
    (a.enc ++ more).getD (1 + ah + n) 0 = UInt8.ofNat (a.port.toNat / 256) ∧ (a.enc ++ more).getD (1 + ah + n + 1) 0 = UInt8.ofNat a.port.toNat ∧ (ah = 0 ∧ ((a.enc ++ more).getD 0 0).toNat ≠ 3 ∨ ah = 1 ∧ ((a.enc ++ more).getD 0 0).toNat = 3) := by
  obtain ⟨hp0, hp1, hk⟩ := (may_iff a).1 h
  have hlen := enc_len a
  rcases hk with ⟨h3, h4, h5⟩ | ⟨h3, h4, h5⟩ | ⟨h3, h4, h5⟩
  · exact enc_four_parts more 1 4 (.inl ⟨rfl, rfl⟩) h3 h4 h5
  · exact enc_four_parts more 4 16 (.inr ⟨rfl, rfl⟩) h3 h4 h5
  · have hn := nameOk_len h4
    rw [size_data] at hn
    have e1 : a.enc ++ more = UInt8.ofNat 3 :: UInt8.ofNat a.name.size :: (a.name.data.toList ++ (UInt8.ofNat (a.port.toNat / 256) :: UInt8.ofNat a.port.toNat :: more)) := by unfold AdM.enc; simp [h3, h5]
    have t1 : (UInt8.ofNat a.name.size).toNat = a.name.size := toNat_of (by omega)
    have l1 : lensB (a.enc ++ more) = (0, a.name.size, 1) := by
      rw [e1]
      unfold lensB
      simp only [List.getD_cons_zero, List.getD_cons_succ, t1]
      rw [if_neg (by simp), if_neg (by simp), if_pos (by simp), if_neg (by simp), if_neg (by omega)]
    have c1 : cutAd (a.enc ++ more) a.name.size 1 = { a with port := 0 } := by
      rw [e1]
      unfold cutAd
      simp only [List.getD_cons_zero, Nat.reduceAdd, List.drop_succ_cons, List.drop_zero]
      rw [List.take_append_of_le_length (by rw [size_data]; omega), List.take_of_length_le (by rw [size_data]; omega), strOf_data]
      simp [h3, h5]
    exact ⟨a.name.size, 1, l1, c1, by rw [hlen, if_pos h3, h5]; simp; omega, by
      rw [e1, show 1 + 1 + a.name.size = a.name.size + 1 + 1 by omega]; simp only [List.getD_cons_succ]; rw [getD_app (size_data _)]; rfl, by
      rw [e1, show 1 + 1 + a.name.size + 1 = a.name.size + 1 + 1 + 1 by omega]; simp only [List.getD_cons_succ]
      rw [show a.name.data.toList ++ UInt8.ofNat (a.port.toNat / 256) :: UInt8.ofNat a.port.toNat :: more = (a.name.data.toList ++ [UInt8.ofNat (a.port.toNat / 256)]) ++ UInt8.ofNat a.port.toNat :: more by simp, getD_app (by simp [size_data])]
      rfl, .inr ⟨rfl, by rw [e1]; rfl⟩⟩

/-- WHAT IS ENCODED IS DECODED, whatever stands behind. -/
theorem dec_enc {a : AdM} (h : a.may = true) (more : List UInt8) : decA (a.enc ++ more) = (0, a, a.enc.length) := by
  obtain ⟨n, ah, l1, c1, hl, g1, g2, _⟩ := enc_parts h more
  obtain ⟨hp0, hp1, _⟩ := (may_iff a).1 h
  unfold decA
  rw [l1]
  simp only []
  rw [c1, may_port h, g1, g2, port_back hp0 hp1, hl, List.length_append, hl, if_neg (by omega), if_neg (by simp), if_neg (by omega), if_neg (by simp), if_neg (by omega)]
/-- A shorter beginning is too short. -/
theorem dec_short {a : AdM} (h : a.may = true) {k : Nat} (hk : k < a.enc.length) : (decA (a.enc.take k)).1 = 2 := by
  obtain ⟨n, ah, l1, c1, hl, _, _, h3⟩ := enc_parts h []
  rw [List.append_nil] at l1 c1 h3
  have hln : (a.enc.take k).length = k := by rw [List.length_take]; omega
  unfold decA
  rw [hln]
  by_cases h0 : k = 0
  · rw [if_pos h0]
  rw [if_neg h0]
  have hb : (lensB (a.enc.take k) = (0, n, ah)) ∨ (k = 1 ∧ lensB (a.enc.take k) = (2, 0, 0)) := by
    by_cases h2 : 2 ≤ k
    · left; rw [lens_take h2, l1]
    · have hk1 : k = 1 := by omega
      rcases h3 with ⟨_, h3⟩ | ⟨_, h3⟩
      · left
        rw [← l1]
        unfold lensB
        rw [take_getD (by omega)]
        simp only [if_neg h3]
      · right
        refine ⟨hk1, ?_⟩
        unfold lensB
        rw [take_getD (by omega), hln, h3, if_neg (by simp), if_neg (by simp), if_pos rfl, if_pos (by omega)]
  rcases hb with hb | ⟨hk1, hb⟩
  · rw [hb]
    simp only []
    rw [if_neg (by simp)]
    by_cases h4 : k < 1 + ah + n
    · rw [if_pos h4]
    · rw [if_neg h4, cut_take (by omega) (by omega), c1, may_port h, if_neg (by simp), if_pos (by omega)]
  · rw [hb]
    simp

theorem ofNat_toNat (b : UInt8) : UInt8.ofNat b.toNat = b := by simp
theorem port_bytes (x y : UInt8) : UInt8.ofNat (((x.toNat : Int) * 256 + (y.toNat : Int)).toNat / 256) = x ∧ UInt8.ofNat ((x.toNat : Int) * 256 + (y.toNat : Int)).toNat = y := by
  have hx := x.toNat_lt
  have hy := y.toNat_lt
  constructor <;> apply UInt8.toNat_inj.1 <;> simp only [UInt8.toNat_ofNat'] <;> omega
theorem take_two {l : List UInt8} {i : Nat} (h : i + 2 ≤ l.length) : l.take (i + 2) = l.take i ++ [l.getD i 0, l.getD (i + 1) 0] := by
  rw [show i + 2 = i + 1 + 1 from rfl, List.take_succ_eq_append_getElem (by omega), List.take_succ_eq_append_getElem (by omega)]
  simp only [List.getD, List.getElem?_eq_getElem (show i < l.length by omega), List.getElem?_eq_getElem (show i + 1 < l.length by omega), Option.getD_some, List.append_assoc, List.cons_append, List.nil_append]
theorem take_one {l : List UInt8} (h : 0 < l.length) (n : Nat) : l.take (1 + n) = l.getD 0 0 :: (l.drop 1).take n := by
  cases l with
  | nil => simp at h
  | cons x l => rw [Nat.add_comm]; simp

/-- What is decoded may be, and these are its bytes. -/
theorem dec_ok {b : List UInt8} {a : AdM} {n : Nat} (h : decA b = (0, a, n)) : a.may = true ∧ n = a.enc.length ∧ n ≤ b.length ∧ a.enc = b.take n := by
  unfold decA at h
  by_cases h0 : b.length = 0
  · rw [if_pos h0] at h; simp at h
  rw [if_neg h0] at h
  obtain ⟨⟨e, m, ah⟩, hl⟩ : ∃ x, lensB b = x := ⟨_, rfl⟩
  rw [hl] at h
  simp only [] at h
  by_cases he : e = 0
  case neg => rw [if_pos he] at h; simp at h; exact absurd h.1 he
  rw [if_neg (by simp [he])] at h
  by_cases h1 : b.length < 1 + ah + m
  · rw [if_pos h1] at h; simp at h
  rw [if_neg h1] at h
  cases hm : (cutAd b m ah).may
  · rw [hm] at h; simp at h
  rw [hm, if_neg (by simp)] at h
  by_cases h2 : b.length < 1 + ah + m + 2
  · rw [if_pos h2] at h; simp at h
  rw [if_neg h2] at h
  injection h with _ h
  injection h with ha hn
  subst hn
  have hx := (b.getD (1 + ah + m) 0).toNat_lt
  have hy := (b.getD (1 + ah + m + 1) 0).toNat_lt
  obtain ⟨p1, p2⟩ := port_bytes (b.getD (1 + ah + m) 0) (b.getD (1 + ah + m + 1) 0)
  have hmay : a.may = true := by
    rw [← ha]
    rw [may_iff] at hm ⊢
    exact ⟨by dsimp only; omega, by dsimp only; omega, hm.2.2⟩
  have hk1 := ((may_iff _).1 hm).2.2
  have henc : a.enc = b.take (1 + ah + m + 2) := by
    rw [take_two (by omega), ← ha]
    unfold AdM.enc
    simp only []
    rw [p1, p2]
    congr 1
    unfold lensB at hl
    unfold cutAd at hk1 ⊢
    by_cases k3 : (b.getD 0 0).toNat = 3
    · simp only [k3, if_true] at hk1 ⊢
      rw [k3, if_neg (by simp), if_neg (by simp), if_pos rfl] at hl
      by_cases h5 : b.length < 2
      · rw [if_pos h5] at hl; simp at hl; omega
      rw [if_neg h5] at hl
      by_cases h6 : (b.getD 1 0).toNat = 0 ∨ 64 < (b.getD 1 0).toNat
      · rw [if_pos h6] at hl; simp at hl; omega
      rw [if_neg h6] at hl
      injection hl with _ hl
      injection hl with hl1 hl2
      subst hl1 hl2
      have hsz : (strOf ((b.drop (1 + 1)).take (b.getD 1 0).toNat)).size = (b.getD 1 0).toNat := by
        rw [← size_data, strOf_toList, List.length_take, List.length_drop]; omega
      rw [hsz, ofNat_toNat, strOf_toList]
      rw [show 1 + 1 + (b.getD 1 0).toNat = 1 + (1 + (b.getD 1 0).toNat) by omega, take_one (by omega), take_one (by simp; omega)]
      have hb0 : b.getD 0 0 = UInt8.ofNat 3 := by rw [← k3, ofNat_toNat]
      rw [hb0]
      simp [List.getD, List.getElem?_drop]
    · simp only [k3, if_false] at hk1 ⊢
      rw [if_neg k3] at hl
      have hz : ah = 0 := by
        split at hl
        · simp at hl; omega
        · split at hl <;> simp at hl <;> omega
      subst hz
      rw [if_neg (by omega), show 1 + 0 + m = 1 + m by omega, take_one (by omega), List.append_nil]
      simp
  refine ⟨hmay, ?_, by omega, henc⟩
  rw [henc, List.length_take]
  omega
end Go.Proofs.Ytkejadhkebjdcaa
