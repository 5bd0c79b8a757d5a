/- The reader of frames: bytes, number; walked. -/
import Derived.Deep.LoopGhost
import Derived.Deep.RegionHeld3
import Derived.Test.YtkejadhkebjdcaaFrE
import Derived.Test.YtkejadhkebjdcaaAdH
namespace Go.Proofs.Ytkejadhkebjdcaa
open Go Go.RowKit
set_option linter.unusedVariables false
set_option linter.unusedSimpArgs false

structure RdM where
  b : List UInt8
  short : Bool
def RdM.bytes (r : RdM) (n : Nat) : List UInt8 × RdM := if r.short || decide (r.b.length < n) then ([], ⟨r.b, true⟩) else (r.b.take n, ⟨r.b.drop n, false⟩)
def valB (l : List UInt8) : Nat := l.foldl (fun n c => n * 256 + c.toNat) 0
def RdM.number (r : RdM) (n : Nat) : Nat × RdM := (valB (r.bytes n).1, (r.bytes n).2)
theorem RdM.bytes_no {r : RdM} {n : Nat} (h : r.short = true ∨ r.b.length < n) : r.bytes n = ([], ⟨r.b, true⟩) := by
  unfold RdM.bytes
  rw [if_pos]
  rcases h with h | h <;> simp [h]
theorem RdM.bytes_yes {r : RdM} {n : Nat} (h : r.short = false) (h2 : n ≤ r.b.length) : r.bytes n = (r.b.take n, ⟨r.b.drop n, false⟩) := by
  unfold RdM.bytes
  rw [if_neg]
  simp [h]; omega
theorem RdB.emp {w : World} {a : Addr} {c : Nat} (h : c ≤ maxLen) : RdB w (.slice (some a) 0 c) [] := ⟨some a, c, rfl, Nat.zero_le _, h, (fun e => nomatch e), fun h => absurd h (Nat.lt_irrefl _)⟩

/-- A slice that reads as l as long as what is owned stays. -/
def Vw (w0 : World) (L : List Assn) (v : Value) (l : List UInt8) : Prop := ∀ (W : World) (L' : List Assn), Sat w0 W (L' ++ L) → RdB W v l
theorem Vw.more {w0 : World} {L : List Assn} {v : Value} {l : List UInt8} (h : Vw w0 L v l) (M : List Assn) : Vw w0 (M ++ L) v l := fun W L' hs => h W (L' ++ M) (by rw [List.append_assoc]; exact hs)
theorem Vw.cut {w0 : World} {L : List Assn} {b o c lo hi : Nat} {l : List UInt8} (h : Vw w0 L (.slice (some ⟨b, o, none⟩) l.length c) l) (h1 : lo ≤ hi) (h2 : hi ≤ l.length) : Vw w0 L (.slice (some ⟨b, o + lo, none⟩) (hi - lo) (c - lo)) ((l.drop lo).take (hi - lo)) :=
  fun W L' hs => RdB.cut (h W L' hs) h1 h2
theorem Vw.drop {w0 : World} {L : List Assn} {b o c n m : Nat} {l : List UInt8} (h : Vw w0 L (.slice (some ⟨b, o, none⟩) l.length c) l) (h1 : n ≤ l.length) (hm : l.length - n = m) : Vw w0 L (.slice (some ⟨b, o + n, none⟩) m (c - n)) (l.drop n) := by
  have h2 := h.cut h1 (Nat.le_refl _)
  rw [List.take_of_length_le (by rw [List.length_drop]; exact Nat.le_refl _), hm] at h2
  exact h2
theorem Vw.take {w0 : World} {L : List Assn} {b o c n : Nat} {l : List UInt8} (h : Vw w0 L (.slice (some ⟨b, o, none⟩) l.length c) l) (h1 : n ≤ l.length) : Vw w0 L (.slice (some ⟨b, o, none⟩) n c) (l.take n) := by
  have h2 := h.cut (Nat.zero_le n) h1
  simpa using h2

/-- What the reader answers. -/
def BytesOk (w0 : World) (M L : List Assn) (g : Nat) (p : List UInt8 × RdM) (e : Ending) (w' : World) : Prop :=
  ∃ a c v', e = .returned (.slice a p.1.length c) ∧ Vw w0 M v' p.2.b ∧ Sat w0 w' (OwnB 5 (.slice a p.1.length c) p.1 :: Blk g (.cells #[v', .bool p.2.short] 96 (0, 0)) :: L)

def NumOk (w0 : World) (M L : List Assn) (g : Nat) (p : Nat × RdM) (e : Ending) (w' : World) : Prop :=
  ∃ v', e = .returned (.int .i64 p.1) ∧ Vw w0 M v' p.2.b ∧ Sat w0 w' (Blk g (.cells #[v', .bool p.2.short] 96 (0, 0)) :: L)
section
variable {w0 w : World} {L : List Assn}
set_option maxRecDepth 100000 in
set_option maxHeartbeats 1000000 in
theorem reader_bytes {M : List Assn} (F : List Assn) {g : Nat} {v : Value} {l : List UInt8} {short : Bool} {n : Nat} {ni : Int} (hni : ni = (n : Int)) (hn : n ≤ 100000) (hs : Sat w0 w (Blk g (.cells #[v, .bool short] 96 (0, 0)) :: (F ++ M))) (hm : Vw w0 M v l) :
    Calls Try.prog 83 #[.pointer (some ⟨g, 0, none⟩), .int .i64 ni] w (BytesOk w0 M (F ++ M) g (RdM.bytes ⟨l, short⟩ n)) := by
  subst hni
  have hv := hm.more F
  obtain ⟨L, hL⟩ : ∃ L, F ++ M = L := ⟨_, rfl⟩
  rw [hL] at hs hv ⊢
  clear hL
  obtain ⟨a, c, rfl, hc1, hc2, hc3⟩ := (hv w [_] hs).form
  have hcm := hc2
  unfold maxLen at hcm
  have p0 : w.cell? ⟨g, 0, none⟩ = some (.slice a l.length c) := hs.cell 0 rfl
  have p1 : w.cell? ⟨g, 1, none⟩ = some (.bool short) := hs.cell 1 rfl
  have f0 : w.frozen? ⟨g, 0, none⟩ = false := hs.frozen 0
  have f1 : w.frozen? ⟨g, 1, none⟩ = false := hs.frozen 1
  by_cases hno : short = true ∨ l.length < n
  · have hb := RdM.bytes_no (r := ⟨l, short⟩) (n := n) hno
    have HB := hid_ hb
    clear hb
    have hs2 : Sat w0 _ (Blk g (.cells #[.slice a l.length c, .bool true] 96 (0, 0)) :: L) := hs.set 1 (.bool true)
    rcases Bool.eq_false_or_eq_true short with h1 | h1
    · subst h1
      clear hno
      go_enter Try.func83, Try.ntmps83
      go_wp2
      go_ret
      rw [HB.out]
      exact ⟨none, 0, _, rfl, hm, OwnB.nilI hs2⟩
    · subst h1
      have h2 : decide (l.length < n) = true := by simp; simpa using hno
      have h3 : decide ((l.length : Int) < (n : Int)) = true := by simp; simpa using hno
      clear hno
      go_enter Try.func83, Try.ntmps83
      go_wp2
      go_ret
      rw [HB.out]
      exact ⟨none, 0, _, rfl, hm, OwnB.nilI hs2⟩
  · obtain rfl : short = false := by simp at hno; simpa using hno.1
    have hle : n ≤ l.length := by omega
    have hb := RdM.bytes_yes (r := ⟨l, false⟩) (n := n) rfl hle
    have HB := hid_ hb
    have h2 : decide (l.length < n) = false := by simp; omega
    have h3 : decide ((l.length : Int) < (n : Int)) = false := by simp; omega
    have b1 : (n : Int) ≤ (l.length : Int) ∧ (l.length : Int) ≤ (c : Int) := by omega
    have hs2 : Sat w0 (w.setCell ⟨g, 1, none⟩ (.bool false)) (Blk g (.cells #[.slice a l.length c, .bool false] 96 (0, 0)) :: L) := hs.set 1 (.bool false)
    clear hb hno
    by_cases h0 : l.length = 0
    · have hn0 : n = 0 := by omega
      subst hn0
      have hl0 : l = [] := List.eq_nil_of_length_eq_zero h0
      subst hl0
      clear h0 h2 h3 hle
      simp only [List.length_nil] at *
      cases a with
      | none =>
        obtain rfl := hc3 rfl
        go_enter Try.func83, Try.ntmps83
        go_wp2_with fail
        refine (clone_any _ [] (hv _ [_] hs2) (Nat.zero_le _)).mono ?_
        rintro _ w3 ⟨a3, c3, rfl, h3⟩
        replace h3 := hs2.trans h3
        have hB := Sat.front [_] h3
        have q0 : w3.cell? ⟨g, 0, none⟩ = some (.slice none 0 0) := hB.cell 0 rfl
        have r0 : w3.frozen? ⟨g, 0, none⟩ = false := hB.frozen 0
        clear p0 p1 f0 f1
        go_wp2
        go_ret
        rw [HB.out]
        exact ⟨a3, c3, .slice none 0 0, rfl, hm, Sat.swap (hB.set 0 (.slice none 0 0))⟩
      | some ad =>
        go_enter Try.func83, Try.ntmps83
        go_wp2_with fail
        refine (clone_any _ [] (hv _ [_] hs2) (Nat.zero_le _)).mono ?_
        rintro _ w3 ⟨a3, c3, rfl, h3⟩
        replace h3 := hs2.trans h3
        have hB := Sat.front [_] h3
        have q0 : w3.cell? ⟨g, 0, none⟩ = some (.slice (some ad) 0 c) := hB.cell 0 rfl
        have r0 : w3.frozen? ⟨g, 0, none⟩ = false := hB.frozen 0
        clear p0 p1 f0 f1
        go_wp2
        go_ret
        rw [HB.out]
        exact ⟨a3, c3, .slice (some ad) 0 c, rfl, hm, Sat.swap (hB.set 0 (.slice (some ad) 0 c))⟩
    · obtain ⟨b0, o0, c0, he, -, -, -, -⟩ := (hv w [_] hs).at (i := 0) (by omega)
      injection he with he1 _ he2
      subst he1 he2
      have hz : 0 ≤ (n : Int) := by omega
      have hvt := hv.take hle
      by_cases hcap : n = c
      · subst hcap
        obtain rfl : l.length = n := by omega
        have hn2 : (l.take l.length).length ≤ 1000000 := by rw [List.length_take]; omega
        clear hle h2 h3 b1 hn
        have b1 : (l.length : Int) ≤ (l.length : Int) := Int.le_refl _
        go_enter Try.func83, Try.ntmps83
        go_wp2_with fail
        refine (clone_any _ (l.take l.length) (hvt _ [_] hs2) hn2).mono ?_
        rintro _ w3 ⟨a3, c3, rfl, h3⟩
        replace h3 := hs2.trans h3
        have hB := Sat.front [_] h3
        have q0 : w3.cell? ⟨g, 0, none⟩ = some (.slice (some ⟨b0, o0, none⟩) l.length l.length) := hB.cell 0 rfl
        have r0 : w3.frozen? ⟨g, 0, none⟩ = false := hB.frozen 0
        have HT : Hid ((l.take l.length).length = l.length) := hid_ (by rw [List.length_take]; exact Nat.min_self _)
        rw [HT.out] at h3 hB
        clear p0 p1 f0 f1
        go_wp2
        go_ret
        rw [HB.out]
        refine ⟨a3, c3, .slice (some ⟨b0, o0, none⟩) 0 0, ?_, ?_, ?_⟩
        · show _ = Ending.returned (.slice a3 (l.take l.length).length c3)
          rw [HT.out]
          rfl
        · show Vw w0 M _ (l.drop l.length)
          rw [List.drop_length]
          exact fun W L' h => RdB.emp (Nat.zero_le _)
        · show Sat w0 _ (OwnB 5 (.slice a3 (l.take l.length).length c3) (l.take l.length) :: _)
          rw [HT.out]
          exact Sat.swap (hB.set 0 (.slice (some ⟨b0, o0, none⟩) 0 0))
      · have hcap2 : (n : Int) < (c : Int) := by omega
        have hvd := hm.drop hle rfl
        go_enter Try.func83, Try.ntmps83
        go_wp2_with fail
        refine (clone_any _ (l.take n) (hvt _ [_] hs2) (by rw [List.length_take]; omega)).mono ?_
        rintro _ w3 ⟨a3, c3, rfl, h3⟩
        replace h3 := hs2.trans h3
        have hB := Sat.front [_] h3
        have q0 : w3.cell? ⟨g, 0, none⟩ = some (.slice (some ⟨b0, o0, none⟩) l.length c) := hB.cell 0 rfl
        have r0 : w3.frozen? ⟨g, 0, none⟩ = false := hB.frozen 0
        have HT : Hid ((l.take n).length = n) := hid_ (by rw [List.length_take]; omega)
        rw [HT.out] at h3 hB
        clear p0 p1 f0 f1
        go_wp2
        go_ret
        rw [HB.out]
        refine ⟨a3, c3, .slice (some ⟨b0, o0 + n, none⟩) (l.length - n) (c - n), ?_, hvd, ?_⟩
        · show _ = Ending.returned (.slice a3 (l.take n).length c3)
          rw [HT.out]
          rfl
        · show Sat w0 _ (OwnB 5 (.slice a3 (l.take n).length c3) (l.take n) :: _)
          rw [HT.out]
          exact Sat.swap (hB.set 0 (.slice (some ⟨b0, o0 + n, none⟩) (l.length - n) (c - n)))

theorem valB_snoc (l : List UInt8) (c : UInt8) : valB (l ++ [c]) = valB l * 256 + c.toNat := by simp [valB]
theorem valB_take {l : List UInt8} {i : Nat} (h : i < l.length) : valB (l.take (i + 1)) = valB (l.take i) * 256 + (l.getD i 0).toNat := by
  rw [List.take_succ_eq_append_getElem h, valB_snoc]
  simp [List.getD, h]
theorem valB_lt (l : List UInt8) (i : Nat) (h : i ≤ l.length) : valB (l.take i) < 256 ^ i := by
  induction i with
  | zero => simp [valB]
  | succ i ih =>
    rw [valB_take (by omega), Nat.pow_succ]
    have := (l.getD i 0).toNat_lt
    have := ih (by omega)
    omega
set_option maxRecDepth 100000 in
set_option maxHeartbeats 1000000 in
theorem reader_number {M : List Assn} (F : List Assn) {g : Nat} {v : Value} {l : List UInt8} {short : Bool} {n : Nat} {ni : Int} (hni : ni = (n : Int)) (hn : n ≤ 4) (hs : Sat w0 w (Blk g (.cells #[v, .bool short] 96 (0, 0)) :: (F ++ M))) (hv : Vw w0 M v l) :
    Calls Try.prog 81 #[.pointer (some ⟨g, 0, none⟩), .int .i64 ni] w (NumOk w0 M (F ++ M) g (RdM.number ⟨l, short⟩ n)) := by
  subst hni
  unfold RdM.number
  have hpl : (RdM.bytes ⟨l, short⟩ n).1.length ≤ 4 := by
    unfold RdM.bytes
    split
    · simp
    · simp; omega
  obtain ⟨⟨p, r⟩, hpr⟩ : ∃ p, RdM.bytes ⟨l, short⟩ n = p := ⟨_, rfl⟩
  have hb := reader_bytes F (n := n) rfl (by omega) hs hv
  rw [hpr] at hb hpl ⊢
  have Hb := hid_ hb
  clear hb hpr
  go_enter Try.func81, Try.ntmps81
  go_wp2_with fail
  refine Hb.out.mono ?_
  rintro _ w1 ⟨a, c, v', rfl, hv', h1⟩
  go_wp2_with fail
  go_loop [5, 7, 12] (fun v5 v7 v12 => ∃ i : Nat, i ≤ p.length ∧ v12 = .int .i64 i ∧ v5 = .int .i64 (valB (p.take i))) (fun _ _ v12 => p.length - (intOf v12).toNat)
  case atStart => exact ⟨0, Nat.zero_le _, rfl, rfl⟩
  case round =>
    obtain ⟨i, hi, rfl, rfl⟩ := hrel
    by_cases hlt : i < p.length
    · obtain ⟨b, o, c', he, _, _, hcc, _⟩ := OwnS.cells h1 (by omega)
      injection he with he1 _ _
      subst he1
      have hc := hcc i _ (bytesC_get hlt)
      have hst := valB_take hlt
      have hb1 := valB_lt p i (by omega)
      obtain ⟨x, hx⟩ : ∃ x, valB (p.take i) = x := ⟨_, rfl⟩
      obtain ⟨y, hy⟩ : ∃ y : Nat, (p.getD i 0).toNat = y := ⟨_, rfl⟩
      have hyb : y < 256 := by rw [← hy]; exact UInt8.toNat_lt _
      rw [hx] at hb1 hst
      rw [hy] at hc hst
      have hxb : x < 16777216 := by
        have : i = 0 ∨ i = 1 ∨ i = 2 ∨ i = 3 := by omega
        rcases this with rfl | rfl | rfl | rfl <;> omega
      rw [hx]
      have HS := hid_ hst
      have hor := i64_or8 x y (by omega) hyb
      have z1 : 0 ≤ (i : Int) ∧ (i : Int) < (p.length : Int) ∧ (i : Int) ≤ 3 := by omega
      clear hcc hx hy hst hb1
      go_wp2_with fail
      go_round
      case rel => exact ⟨i + 1, by omega, by go_num, by rw [HS.out]; go_num⟩
      case measure => simp [intOf]; omega
    · obtain rfl : i = p.length := by omega
      go_wp2
      go_ret
      exact ⟨v', rfl, hv', h1.drop⟩
end
end Go.Proofs.Ytkejadhkebjdcaa
