/- addr.Text, given what addr.host gives; the law's own helper 'awake': walked. -/
import Derived.Test.YtanihjibjjpdbaaDoorAdT
namespace Go.Proofs.YtanihjibjjpdbaaDoor
open Go Go.RowKit
set_option linter.unusedVariables false
set_option linter.unusedSimpArgs false

theorem str_add (a b : List UInt8) : (strOf a) ++ (strOf b) = strOf (a ++ b) := by
  apply ByteArray.ext
  simp [strOf]
theorem run_str_add {P : Program} (W : World) (t : TypeId) (a b : ByteArray) (h : a.size + b.size ≤ 100000) : (binOp .add t (.string a) (.string b)).run P W = .ok (.string (a ++ b)) W := by
  have h2 : ¬ ((a.size + b.size : Nat) : Int) > IntKind.i64.max := by rw [show IntKind.i64.max = 9223372036854775807 by decide]; omega
  simp [binOp, Op.stringOp, h2]
  omega
theorem decDigits_len : ∀ (k u : Nat), u < 10 ^ (k + 1) → (Lib.decDigits u).length ≤ k + 1
  | 0, u, h => by rw [Lib.decDigits, dif_pos (by omega)]; simp
  | k + 1, u, h => by
    rw [Lib.decDigits]
    split
    · simp
    · have := decDigits_len k (u / 10) (by rw [Nat.pow_succ] at h; omega)
      rw [List.length_append]
      simp only [List.length_singleton]
      omega
theorem itoa_port {p : Int} (h0 : 0 ≤ p) (h1 : p ≤ 65535) : (Lib.itoa p).length ≤ 5 := by
  unfold Lib.itoa
  rw [if_neg (by omega)]
  exact decDigits_len 4 p.toNat (by omega)
section
variable {w0 w : World} {L : List Assn}
/-- What addr.host is to give for this address, wherever it is called. -/
def HostIs (w0 : World) (L : List Assn) (a : AdM) (x : Option Addr) (c : Nat) (h : List UInt8) : Prop :=
  ∀ (W : World) (L' : List Assn), Sat w0 W (L' ++ L) → Calls Tryd.prog 21 #[.agg #[.int .i64 a.kind, .slice x a.ip.length c, .string a.name, .int .i64 a.port]] W fun e W' => e = .returned (.string (strOf h)) ∧ Sat w0 W' (L' ++ L)
theorem host4_is (a : AdM) (x : Option Addr) (c : Nat) (hk : a.kind = 1) (h4 : a.ip.length = 4) (ht : TabOk w0) (hz : 0 < w0.heap.size) (hr0 : ∀ (W : World) (L' : List Assn), Sat w0 W (L' ++ L) → RdB W (.slice x a.ip.length c) a.ip) : HostIs w0 L a x c (ip4 a.ip) :=
  fun W L' hs => addr_host4 a x c hk h4 ht hz hs (fun V M hv => hr0 V (M ++ L') (by rw [List.append_assoc]; exact hv))
set_option maxRecDepth 100000 in
set_option maxHeartbeats 2000000 in
theorem addr_Text_may (a : AdM) (x : Option Addr) (c : Nat) {h : List UInt8} (hnn : a.name.size ≤ maxLen) (hl : a.ip.length ≤ maxLen) (hm : a.may = true) (ht : TabOk w0) (hz : 0 < w0.heap.size) (hs : Sat w0 w L) (hh : HostIs w0 L a x c h) (hhl : h.length ≤ 1000) :
    Calls Tryd.prog 12 #[.agg #[.int .i64 a.kind, .slice x a.ip.length c, .string a.name, .int .i64 a.port]] w fun e w' => e = .returned (.string (strOf (h ++ [58] ++ Lib.itoa a.port))) ∧ Sat w0 w' L := by
  have HM := hid_ hm
  have hp := (may_iff a).1 hm
  have HP := hid_ (show -9223372036854775808 ≤ a.port ∧ a.port ≤ 9223372036854775807 by omega)
  have HZ := hid_ hz
  have HL := hid_ (show (Lib.itoa a.port).length ≤ 1000 by have := itoa_port hp.1 hp.2.1; omega)
  clear hp hm hz
  go_enter Tryd.func12, Tryd.ntmps12
  go_wp2_with fail
  refine (addr_May a x c hnn hl).mono ?_
  rintro _ w2 ⟨rfl, hb⟩
  rw [HM.out]
  have h2 := (hs.alloc (.cells #[.int .i64 a.kind, .slice x a.ip.length c, .string a.name, .int .i64 a.port] 25 (0, 0))).under hb
  obtain ⟨g, hg⟩ : ∃ g, w.heap.size = g := ⟨_, rfl⟩
  rw [hg] at h2
  rw [hg]
  clear hb hg
  have hbx : ∀ W, Sat w0 W (Blk g (.cells #[.int .i64 a.kind, .slice x a.ip.length c, .string a.name, .int .i64 a.port] 25 (0, 0)) :: L) → (W.cell? ⟨g, 0, none⟩ = some (.int .i64 a.kind) ∧ W.cell? ⟨g, 1, none⟩ = some (.slice x a.ip.length c) ∧ W.cell? ⟨g, 2, none⟩ = some (.string a.name) ∧ W.cell? ⟨g, 3, none⟩ = some (.int .i64 a.port)) :=
    fun W hW => ⟨hW.cell 0 rfl, hW.cell 1 rfl, hW.cell 2 rfl, hW.cell 3 rfl⟩
  have hH : ∀ W, Sat w0 W (Blk g (.cells #[.int .i64 a.kind, .slice x a.ip.length c, .string a.name, .int .i64 a.port] 25 (0, 0)) :: L) → Calls Tryd.prog 21 #[.agg #[.int .i64 a.kind, .slice x a.ip.length c, .string a.name, .int .i64 a.port]] W fun e W' => e = .returned (.string (strOf h)) ∧ Sat w0 W' (Blk g (.cells #[.int .i64 a.kind, .slice x a.ip.length c, .string a.name, .int .i64 a.port] 25 (0, 0)) :: L) := fun W hW => hh W [_] hW
  have hI : ∀ W, Sat w0 W (Blk g (.cells #[.int .i64 a.kind, .slice x a.ip.length c, .string a.name, .int .i64 a.port] 25 (0, 0)) :: L) → Calls Tryd.prog 22 #[.int .i64 a.port] W fun e W' => e = .returned (.string (itoaB a.port)) ∧ Sat w0 W' (Blk g (.cells #[.int .i64 a.kind, .slice x a.ip.length c, .string a.name, .int .i64 a.port] 25 (0, 0)) :: L) := by
    intro W hW
    refine (itoa_walk a.port HP.out.1 HP.out.2 (ht.later hW.below HZ.out)).mono ?_
    rintro _ W' ⟨rfl, hb⟩
    exact ⟨rfl, hW.under hb⟩
  obtain ⟨H, hHs⟩ : ∃ H, strOf h = H := ⟨_, rfl⟩
  obtain ⟨T, hTs⟩ : ∃ T, itoaB a.port = T := ⟨_, rfl⟩
  have HH := hid_ hHs
  have HT := hid_ hTs
  rw [hHs] at hH
  rw [hTs] at hI
  have k1 : H.size ≤ 1000 := by rw [← hHs]; simpa [strOf, ByteArray.size] using hhl
  have k2 : T.size ≤ 1000 := by rw [← hTs]; simpa [itoaB, strOf, ByteArray.size] using HL.out
  have k3 : (H ++ ⟨#[58]⟩).size = H.size + 1 := by rw [ByteArray.size_append]; rfl
  clear hHs hTs hhl
  have t0 := h2.drew
  have r1 : ¬ 9223372036854775807 < H.size + 1 := by omega
  have r2 : ¬ 9223372036854775807 < H.size + 1 + T.size := by omega
  have r3 : ¬ 9223372036854775807 < (H ++ ⟨#[58]⟩).size + T.size := by omega
  clear hh k1 k2 k3
  go_upto_region 3 with fail
  go_region_held3 (fun W => W.cell? ⟨g, 0, none⟩ = some (.int .i64 a.kind) ∧ W.cell? ⟨g, 1, none⟩ = some (.slice x a.ip.length c) ∧ W.cell? ⟨g, 2, none⟩ = some (.string a.name) ∧ W.cell? ⟨g, 3, none⟩ = some (.int .i64 a.port))
    (first | with_reducible exact hbx _ hn | with_reducible exact hbx _ t0)
    (first | (go_at_call 21; with_reducible refine (hH _ ?_).mono ?_; (first | with_reducible exact hn | with_reducible exact t0); rintro _ wn ⟨rfl, hn⟩)
           | (go_at_call 22; with_reducible refine (hI _ ?_).mono ?_; (first | with_reducible exact hn | with_reducible exact t0); rintro _ wn ⟨rfl, hn⟩))
  go_wp2_with fail
  go_ret
  rw [← HH.out, ← HT.out]
  exact ⟨by rw [itoaB, show (ByteArray.mk #[58]) = strOf [58] from rfl, str_add, str_add]; rfl, hn.drop⟩
def aw : AdM := ⟨1, [1, 2, 3, 4], ⟨#[]⟩, 80⟩
theorem aw_may : aw.may = true := by decide +kernel
theorem aw_enc : aw.enc = [1, 1, 2, 3, 4, 0, 80] := by decide +kernel
theorem itoa_one {i : Nat} (h : i < 10) : Lib.itoa (i : Int) = [UInt8.ofNat (48 + i)] := by
  unfold Lib.itoa
  rw [if_neg (by omega)]
  exact Lib.decDigits_one (by omega)
theorem itoa_two {i : Nat} (h1 : ¬ i < 10) (h2 : i < 100) : Lib.itoa (i : Int) = [UInt8.ofNat (48 + i / 10), UInt8.ofNat (48 + i % 10)] := by
  unfold Lib.itoa
  rw [if_neg (by omega)]
  exact Lib.decDigits_two (by omega) (by omega)
theorem aw_text : ip4 [1, 2, 3, 4] ++ [58] ++ Lib.itoa 80 = [49, 46, 50, 46, 51, 46, 52, 58, 56, 48] := by
  have h1 := itoa_one (i := 1) (by omega)
  have h2 := itoa_one (i := 2) (by omega)
  have h3 := itoa_one (i := 3) (by omega)
  have h4 := itoa_one (i := 4) (by omega)
  have h5 := itoa_two (i := 80) (by omega) (by omega)
  rw [show Lib.itoa 80 = [56, 48] from h5]
  show Lib.join [Lib.itoa ((1 : Nat) : Int), Lib.itoa ((2 : Nat) : Int), Lib.itoa ((3 : Nat) : Int), Lib.itoa ((4 : Nat) : Int)] [46] ++ [58] ++ [56, 48] = _
  rw [h1, h2, h3, h4]
  rfl
set_option maxRecDepth 100000 in
set_option maxHeartbeats 2000000 in
theorem ad_awake (ht : TabOk w0) (hz : 0 < w0.heap.size) (hs : Sat w0 w L) : Calls Tryd.prog 8 #[] w fun e w' => e = .returned (.bool true) ∧ Sat w0 w' L := by
  have e7 : ((strOf [1, 1, 2, 3, 4, 0, 80]).toList == [1, 1, 2, 3, 4, 0, 80]) = true := by decide +kernel
  have eT : ((strOf [49, 46, 50, 46, 51, 46, 52, 58, 56, 48]).toList == [49, 46, 50, 46, 51, 46, 52, 58, 56, 48]) = true := by decide +kernel
  have HZ := hid_ hz
  clear hz
  have h2 := OwnB.ofNew (l := [1, 2, 3, 4]) (n := 4) (hs.alloc2 (.cells #[.int .u8 1, .int .u8 2, .int .u8 3, .int .u8 4] 5 (0, 0)) (.cells #[.int .i64 1, .slice (some ⟨w.heap.size, 0, none⟩) 4 4, .string ⟨#[]⟩, .int .i64 80] 25 (0, 0))).swap rfl rfl (by omega)
  go_enter Tryd.func8, Tryd.ntmps8
  go_wp2_with fail
  have hE : ∀ W, Sat w0 W (OwnB 5 (.slice (some ⟨w.heap.size, 0, none⟩) 4 4) [1, 2, 3, 4] :: Blk (w.heap.size + 1) (.cells #[.int .i64 1, .slice (some ⟨w.heap.size, 0, none⟩) 4 4, .string ⟨#[]⟩, .int .i64 80] 25 (0, 0)) :: L) → Calls Tryd.prog 9 #[.agg #[.int .i64 1, .slice (some ⟨w.heap.size, 0, none⟩) 4 4, .string ⟨#[]⟩, .int .i64 80]] W fun e w' => ∃ p k, e = .returned (.tuple #[.slice p 7 k, .int .i64 0]) ∧ Sat w0 w' (OwnB 5 (.slice p 7 k) [1, 1, 2, 3, 4, 0, 80] :: OwnB 5 (.slice (some ⟨w.heap.size, 0, none⟩) 4 4) [1, 2, 3, 4] :: Blk (w.heap.size + 1) (.cells #[.int .i64 1, .slice (some ⟨w.heap.size, 0, none⟩) 4 4, .string ⟨#[]⟩, .int .i64 80] 25 (0, 0)) :: L) := by
    intro W hW
    have h := addr_Encode_yes aw (some ⟨w.heap.size, 0, none⟩) 4 aw_may hW (fun W L' h => OwnB.rd (Sat.front L' h))
    rw [aw_enc] at h
    exact h
  refine (hE _ h2).mono ?_
  rintro _ w3 ⟨p, k, rfl, h3⟩
  have hc : (convert 23 9 (.slice p 7 k)).run Tryd.prog w3 = .ok (.string (strOf [1, 1, 2, 3, 4, 0, 80])) w3 := conv_rd Tryd.underlying23 Tryd.underlying5 Tryd.underlying9 (OwnB.rd h3)
  have hB := Sat.front [_, _] h3
  have c0 : w3.cell? ⟨w.heap.size + 1, 0, none⟩ = some (.int .i64 1) := hB.cell 0 rfl
  have c1 : w3.cell? ⟨w.heap.size + 1, 1, none⟩ = some (.slice (some ⟨w.heap.size, 0, none⟩) 4 4) := hB.cell 1 rfl
  have c2 : w3.cell? ⟨w.heap.size + 1, 2, none⟩ = some (.string ⟨#[]⟩) := hB.cell 2 rfl
  have c3 : w3.cell? ⟨w.heap.size + 1, 3, none⟩ = some (.int .i64 80) := hB.cell 3 rfl
  have hT : Calls Tryd.prog 12 #[.agg #[.int .i64 1, .slice (some ⟨w.heap.size, 0, none⟩) 4 4, .string ⟨#[]⟩, .int .i64 80]] w3 fun e w' => e = .returned (.string (strOf [49, 46, 50, 46, 51, 46, 52, 58, 56, 48])) ∧ Sat w0 w' L := by
    have h := addr_Text_may aw (some ⟨w.heap.size, 0, none⟩) 4 (h := ip4 [1, 2, 3, 4]) (by decide) (by decide) aw_may ht HZ.out h3.swap (host4_is aw _ _ rfl rfl ht HZ.out (fun W L' h => OwnB.rd (Sat.front L' h))) (by have := ip4_len (l := [1, 2, 3, 4]) rfl; omega)
    rw [show aw.port = 80 from rfl, aw_text] at h
    exact h.mono fun e w' ⟨he, hw⟩ => ⟨he, hw.drop.drop.drop⟩
  clear hE h2 h3 hB
  go_wp2_with (go_at_call 12; refine hT.mono ?_; rintro _ w4 ⟨rfl, h4⟩)
  go_ret
  exact ⟨rfl, h4⟩
end
end Go.Proofs.YtanihjibjjpdbaaDoor
