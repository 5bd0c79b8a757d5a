/- The law AclWider, walked. -/
import Derived.Deep.RegionLaw
import Derived.Test.YtmnjaaeljpleeaaAclW
namespace Go.Proofs.Ytmnjaaeljpleeaa
open Go Go.RowKit
set_option linter.unusedVariables false
set_option linter.unusedSimpArgs false

def four (q : List UInt8) : List UInt8 := q.take 4 ++ (zerosB 4).drop q.length
theorem four_len (q : List UInt8) : (four q).length = 4 := by unfold four; simp [zerosB]; omega
def toA (Y : List UInt8) : AdM := ⟨1, Y, ByteArray.empty, 80⟩
theorem toA_may {Y : List UInt8} (h : Y.length = 4) : (toA Y).may = true := by
  unfold AdM.may toA
  simp only [h]
  rfl
theorem netR_may {X : List UInt8} {k : Nat} (h : X.length = 4) (hk : k ≤ 32) : (netR X k).may = true := by
  have hl : (netL X k (32 - k)).length = 4 := by rw [netL_len, h]
  have hp := plain_net (l := X) (k := k) (by omega)
  rw [show 8 * X.length - k = 32 - k by omega] at hp
  unfold RuleM.may RuleM.kindB netR
  simp only [hl, Int.toNat_natCast, hp]
  have h1 : decide ((0 : Int) ≤ (k : Int)) = true := decide_eq_true (by omega)
  have h2 : decide ((k : Int) ≤ 8 * ((4 : Nat) : Int)) = true := decide_eq_true (by omega)
  rw [h1, h2]
  rfl
theorem netR_hit {X Y : List UInt8} {k : Nat} (h : X.length = 4) (hY : Y.length = 4) (hk : k ≤ 32) : (netR X k).hit (toA Y) = startsB Y X k := by
  have hl : (netL X k (32 - k)).length = 4 := by rw [netL_len, h]
  have hs := starts_net (l := X) (b := Y) (k := k) (by omega)
  rw [show 8 * X.length - k = 32 - k by omega] at hs
  have e : (netR X k).hit (toA Y) = ((netR X k).may && (toA Y).may && true && true && (Y.length == (netL X k (32 - k)).length && startsB Y (netL X k (32 - k)) ((k : Int)).toNat)) := rfl
  rw [e, netR_may h hk, toA_may hY, hl, hY, Int.toNat_natCast, hs]
  rfl
def anyM : RuleM := ⟨0, false, [], 0, ByteArray.empty, 0, 65535⟩
theorem any_hits {Y : List UInt8} (hY : Y.length = 4) : anyM.hit (toA Y) = true := by
  have e : anyM.hit (toA Y) = (true && (toA Y).may && true && true && true) := rfl
  rw [e, toA_may hY]
  rfl

abbrev BoxN (w : World) (b k : Nat) (a : Option Addr) (c : Nat) : Prop := w.cell? ⟨b, 0, none⟩ = some (.int .i64 1) ∧ w.cell? ⟨b, 1, none⟩ = some (.bool false) ∧ w.cell? ⟨b, 2, none⟩ = some (.slice a 4 c) ∧ w.cell? ⟨b, 3, none⟩ = some (.int .i64 k) ∧ w.cell? ⟨b, 4, none⟩ = some (.string ByteArray.empty) ∧ w.cell? ⟨b, 5, none⟩ = some (.int .i64 0) ∧ w.cell? ⟨b, 6, none⟩ = some (.int .i64 65535)
abbrev BoxT (w : World) (b : Nat) (a : Option Addr) (c : Nat) : Prop := w.cell? ⟨b, 0, none⟩ = some (.int .i64 1) ∧ w.cell? ⟨b, 1, none⟩ = some (.slice a 4 c) ∧ w.cell? ⟨b, 2, none⟩ = some (.string ByteArray.empty) ∧ w.cell? ⟨b, 3, none⟩ = some (.int .i64 80)

section
variable {w0 w : World} {L : List Assn}
theorem netR_len {X : List UInt8} {k : Nat} (h : X.length = 4) : (netR X k).net.length = 4 := (netL_len _ _ _).trans h
theorem match_net {X Y : List UInt8} {k : Nat} {s : Bool} {a y : Option Addr} {c d : Nat} (hX : X.length = 4) (hY : Y.length = 4) (ht : Hid ((netR X k).hit (toA Y) = s)) (hr : RdB w (.slice a 4 c) (netR X k).net) (ha : RdB w (.slice y 4 d) Y) :
    Calls Try.prog 11 #[.agg #[.int .i64 1, .bool false, .slice a 4 c, .int .i64 k, .string ByteArray.empty, .int .i64 0, .int .i64 65535], .agg #[.int .i64 1, .slice y 4 d, .string ByteArray.empty, .int .i64 80]] w fun e w' => e = .returned (.bool s) ∧ Below w.heap.size w w' := by
  rw [← ht.out]
  have h := acl_Match (netR X k) (toA Y) a y c d ⟨by rw [netR_len hX]; exact hr, Nat.zero_le _⟩ ⟨by rw [show (toA Y).ip.length = 4 from hY]; exact ha, Nat.zero_le _⟩
  rw [netR_len hX, show (toA Y).ip.length = 4 from hY] at h
  exact h
theorem match_any {Y : List UInt8} {s : Bool} {y : Option Addr} {d : Nat} (hY : Y.length = 4) (ht : Hid (anyM.hit (toA Y) = s)) (ha : RdB w (.slice y 4 d) Y) :
    Calls Try.prog 11 #[.agg #[.int .i64 0, .bool false, .slice none 0 0, .int .i64 0, .string ByteArray.empty, .int .i64 0, .int .i64 65535], .agg #[.int .i64 1, .slice y 4 d, .string ByteArray.empty, .int .i64 80]] w fun e w' => e = .returned (.bool s) ∧ Below w.heap.size w w' := by
  rw [← ht.out]
  have h := acl_Match anyM (toA Y) none y 0 d ⟨RdB.nil w, Nat.zero_le _⟩ ⟨by rw [show (toA Y).ip.length = 4 from hY]; exact ha, Nat.zero_le _⟩
  rw [show (toA Y).ip.length = 4 from hY] at h
  exact h
theorem may_net {X : List UInt8} {k : Nat} {a : Option Addr} {c : Nat} (hX : X.length = 4) (ht : Hid ((netR X k).may = true)) (hr : RdB w (.slice a 4 c) (netR X k).net) :
    Calls Try.prog 14 #[.agg #[.int .i64 1, .bool false, .slice a 4 c, .int .i64 k, .string ByteArray.empty, .int .i64 0, .int .i64 65535]] w fun e w' => e = .returned (.bool true) ∧ Below w.heap.size w w' := by
  rw [← ht.out]
  have h := acl_May (netR X k) a c (by rw [netR_len hX]; exact hr) (Nat.zero_le _)
  rw [netR_len hX] at h
  exact h
set_option maxRecDepth 100000 in
set_option maxHeartbeats 4000000 in
theorem acl_wider_law (v u t r : Value) (w : World) (hv : IsBytes w v) (hu : IsBytes w u) (ht : IsInt w t) (hr : IsInt w r) :
    Calls Try.prog 7 #[v, u, t, r] w fun e w' => e = .returned (.bool true) ∧ Below w.heap.size w w' := by
  obtain ⟨p, hp⟩ := hv
  obtain ⟨q, hq⟩ := hu
  obtain ⟨n0, rfl, _⟩ := ht
  obtain ⟨n1, rfl, _⟩ := hr
  have hs := Sat.refl w
  have hmk : ∀ w : World, (Instr.makeSlice 23 (.int .i64 4) (.int .i64 4)).run Try.prog w = .ok (.slice (some ⟨w.heap.size, 0, none⟩) 4 4) (w.alloc (.cells (bytesC (zerosB 4)).toArray 5 (0, 0))) := mk_u8 4 (by omega)
  have b0 := um_bd n0 (m := 33) (by omega) (by omega)
  have b1 := um_bd n1 (m := 33) (by omega) (by omega)
  obtain ⟨ka, hka⟩ := Int.eq_ofNat_of_zero_le b0.1
  obtain ⟨kb, hkb⟩ := Int.eq_ofNat_of_zero_le b1.1
  rw [hka] at b0
  rw [hkb] at b1
  go_enter Try.func7, Try.ntmps7
  go_upto_region 1 with fail
  go_cut [9, 10] (fun v9 v10 wx => ∃ g1 g2 : Nat, v9 = .slice (some ⟨g1, 0, none⟩) 4 4 ∧ v10 = .slice (some ⟨g2, 0, none⟩) 4 4 ∧ Sat w wx [OwnB 5 (.slice (some ⟨g1, 0, none⟩) 4 4) (zerosB 4), OwnB 5 (.slice (some ⟨g2, 0, none⟩) 4 4) (zerosB 4)])
  case first =>
    have h2 := hs.drew.alloc2 (.cells (bytesC (zerosB 4)).toArray 5 (0, 0)) (.cells (bytesC (zerosB 4)).toArray 5 (0, 0))
    have h3 := OwnB.mk (by omega) (Sat.swap (OwnB.mk (by omega) h2))
    go_region
    all_goals
      go_wp2_with fail
      go_meet
      first
      | exact ⟨_, _, rfl, rfl, h3⟩
      | exact ⟨_, _, rfl, rfl, h3.swap⟩
  obtain ⟨g1, g2, rfl, rfl, h3⟩ := hcut
  go_wp2_with (refine wpList_copy_bytes (w0 := w) (p := zerosB 4) rfl _ _ rfl (zerosB_length 4) rfl rfl h3 (hp.later h3) ?_)
  intro w4 h4
  go_wp2_with (refine wpList_copy_bytes (w0 := w) (p := zerosB 4) rfl _ _ rfl (zerosB_length 4) rfl rfl h4.swap (hq.later h4) ?_)
  intro w5 h5
  replace h5 : Sat w w5 [OwnB 5 (.slice (some ⟨g2, 0, none⟩) 4 4) (four q), OwnB 5 (.slice (some ⟨g1, 0, none⟩) 4 4) (four p)] := h5
  clear h3 h4 hmk
  go_upto_if 32 with fail
  go_cut [2, 3] (fun v2 v3 wx => ∃ A B : Nat, v2 = .int .i64 A ∧ v3 = .int .i64 B ∧ A ≤ B ∧ B ≤ 32 ∧ wx = w5)
  case first =>
    by_cases h : kb < ka
    · have h1 : (kb : Int) < (ka : Int) := by omega
      go_wp2_with fail
      go_meet
      exact ⟨kb, ka, by first | rfl | rw [hkb], by first | rfl | rw [hka], by omega, by omega, rfl⟩
    · have h1 : ¬ (kb : Int) < (ka : Int) := by omega
      go_wp2_with fail
      go_meet
      exact ⟨ka, kb, by first | rfl | rw [hka], by first | rfl | rw [hkb], by omega, by omega, rfl⟩
  obtain ⟨A, B, rfl, rfl, hAB, hB, rfl⟩ := hcut
  obtain ⟨X, hX⟩ : ∃ X, four p = X := ⟨_, rfl⟩
  obtain ⟨Y, hY⟩ : ∃ Y, four q = Y := ⟨_, rfl⟩
  have hXl : X.length = 4 := by rw [← hX]; exact four_len p
  have hYl : Y.length = 4 := by rw [← hY]; exact four_len q
  rw [hX, hY] at h5
  have m1 := hid_ (netR_may hXl (show A ≤ 32 by omega))
  have m2 := hid_ (netR_may hXl hB)
  obtain ⟨sa, hsa⟩ : ∃ sa, startsB Y X A = sa := ⟨_, rfl⟩
  obtain ⟨sb, hsb⟩ : ∃ sb, startsB Y X B = sb := ⟨_, rfl⟩
  have t1 := hid_ ((netR_hit hXl hYl (show A ≤ 32 by omega)).trans hsa)
  have t2 := hid_ ((netR_hit hXl hYl hB).trans hsb)
  have t3 := hid_ (any_hits hYl)
  have himp : sb = true → sa = true := fun h => by rw [← hsa]; exact starts_less hAB (by rw [hsb]; exact h)
  have HXl := hid_ hXl
  have HYl := hid_ hYl
  have hA32 : A ≤ 32 := by omega
  clear hX hY hXl hYl hsa hsb
  go_wp2_with fail
  have h6 := h5.alloc (.cells #[.int .i64 1, .slice (some ⟨g2, 0, none⟩) 4 4, .string ByteArray.empty, .int .i64 80] 25 (0, 0))
  refine (acl_net HXl.out hA32 (fun W A h => OwnB.rd (Sat.front [_, _, _] h)) h6).mono ?_
  rintro _ w6 ⟨a1, c1, rfl, h7⟩
  simp only [ruV]
  go_wp2_with fail
  refine (acl_net HXl.out hB (fun W A h => OwnB.rd (Sat.front [_, _, _, _] h)) h7).mono ?_
  rintro _ w7 ⟨a2, c2, rfl, h8⟩
  simp only [ruV, netR]
  replace h8 : Sat w w7 [OwnB 5 (.slice a2 4 c2) (netR X B).net, OwnB 5 (.slice a1 4 c1) (netR X A).net, Blk wc.heap.size (.cells #[.int .i64 1, .slice (some ⟨g2, 0, none⟩) 4 4, .string ByteArray.empty, .int .i64 80] 25 (0, 0)), OwnB 5 (.slice (some ⟨g2, 0, none⟩) 4 4) Y, OwnB 5 (.slice (some ⟨g1, 0, none⟩) 4 4) X] := h8
  have h9 := h8.alloc2 (.cells #[.int .i64 1, .bool false, .slice a1 4 c1, .int .i64 A, .string ByteArray.empty, .int .i64 0, .int .i64 65535] 30 (0, 0)) (.cells #[.int .i64 1, .bool false, .slice a2 4 c2, .int .i64 B, .string ByteArray.empty, .int .i64 0, .int .i64 65535] 30 (0, 0))
  go_upto_region 9 with fail
  generalize wc.heap.size = tb at *
  generalize (w7.alloc (.cells #[.int .i64 1, .bool false, .slice a1 4 c1, .int .i64 A, .string ByteArray.empty, .int .i64 0, .int .i64 65535] 30 (0, 0))).alloc (.cells #[.int .i64 1, .bool false, .slice a2 4 c2, .int .i64 B, .string ByteArray.empty, .int .i64 0, .int .i64 65535] 30 (0, 0)) = w8 at *
  generalize w7.heap.size = n7 at *
  clear h5 h6 h7 h8
  have facts : ∀ W, Sat w W [Blk (n7 + 1) (.cells #[.int .i64 1, .bool false, .slice a2 4 c2, .int .i64 B, .string ByteArray.empty, .int .i64 0, .int .i64 65535] 30 (0, 0)), Blk n7 (.cells #[.int .i64 1, .bool false, .slice a1 4 c1, .int .i64 A, .string ByteArray.empty, .int .i64 0, .int .i64 65535] 30 (0, 0)), OwnB 5 (.slice a2 4 c2) (netR X B).net, OwnB 5 (.slice a1 4 c1) (netR X A).net, Blk tb (.cells #[.int .i64 1, .slice (some ⟨g2, 0, none⟩) 4 4, .string ByteArray.empty, .int .i64 80] 25 (0, 0)), OwnB 5 (.slice (some ⟨g2, 0, none⟩) 4 4) Y, OwnB 5 (.slice (some ⟨g1, 0, none⟩) 4 4) X] →
      BoxN W (n7 + 1) B a2 c2 ∧ BoxN W n7 A a1 c1 ∧ BoxT W tb (some ⟨g2, 0, none⟩) 4 ∧ RdB W (.slice a2 4 c2) (netR X B).net ∧ RdB W (.slice a1 4 c1) (netR X A).net ∧ RdB W (.slice (some ⟨g2, 0, none⟩) 4 4) Y := fun W h =>
    ⟨boxR h, boxR h.drop, boxA (a := toA Y) (Sat.front [_, _, _, _] h), OwnB.rd (Sat.front [_, _] h), OwnB.rd (Sat.front [_, _, _] h), OwnB.rd (Sat.front [_, _, _, _, _] h)⟩
  obtain ⟨⟨x0, x1, x2, x3, x4, x5, x6⟩, ⟨y0, y1, y2, y3, y4, y5, y6⟩, ⟨z0, z1, z2, z3⟩, rB, rA, rY⟩ := facts _ h9
  cases sb
  · go_wp2_with fail
    refine (match_net HXl.out HYl.out t2 rB rY).mono ?_
    rintro _ w9 ⟨rfl, hb9⟩
    have h10 := h9.under hb9
    clear x0 x1 x2 x3 x4 x5 x6 y0 y1 y2 y3 y4 y5 y6 z0 z1 z2 z3
    obtain ⟨⟨x0, x1, x2, x3, x4, x5, x6⟩, ⟨y0, y1, y2, y3, y4, y5, y6⟩, ⟨z0, z1, z2, z3⟩, rB, rA, rY⟩ := facts _ h10
    go_wp2_with fail
    refine (match_any HYl.out t3 rY).mono ?_
    rintro _ w10 ⟨rfl, hb10⟩
    have h11 := h10.under hb10
    clear x0 x1 x2 x3 x4 x5 x6 y0 y1 y2 y3 y4 y5 y6 z0 z1 z2 z3
    obtain ⟨⟨x0, x1, x2, x3, x4, x5, x6⟩, ⟨y0, y1, y2, y3, y4, y5, y6⟩, ⟨z0, z1, z2, z3⟩, rB, rA, rY⟩ := facts _ h11
    go_wp2_with fail
    refine (may_net HXl.out m1 rA).mono ?_
    rintro _ w11 ⟨rfl, hb11⟩
    have h12 := h11.under hb11
    clear x0 x1 x2 x3 x4 x5 x6 y0 y1 y2 y3 y4 y5 y6 z0 z1 z2 z3
    obtain ⟨⟨x0, x1, x2, x3, x4, x5, x6⟩, ⟨y0, y1, y2, y3, y4, y5, y6⟩, ⟨z0, z1, z2, z3⟩, rB, rA, rY⟩ := facts _ h12
    go_wp2_with fail
    refine (may_net HXl.out m2 rB).mono ?_
    rintro _ w12 ⟨rfl, hb12⟩
    have h13 := h12.under hb12
    go_wp2_with fail
    refine (acl_awake h13).mono ?_
    rintro _ w13 ⟨rfl, h14⟩
    go_wp2_with fail
    go_ret
    exact ⟨rfl, h14.below⟩
  · rw [himp rfl] at t1
    clear himp
    go_wp2_with fail
    refine (match_net HXl.out HYl.out t2 rB rY).mono ?_
    rintro _ w9 ⟨rfl, hb9⟩
    have h10 := h9.under hb9
    clear x0 x1 x2 x3 x4 x5 x6 y0 y1 y2 y3 y4 y5 y6 z0 z1 z2 z3
    obtain ⟨⟨x0, x1, x2, x3, x4, x5, x6⟩, ⟨y0, y1, y2, y3, y4, y5, y6⟩, ⟨z0, z1, z2, z3⟩, rB, rA, rY⟩ := facts _ h10
    go_wp2_with fail
    refine (match_net HXl.out HYl.out t1 rA rY).mono ?_
    rintro _ w9b ⟨rfl, hb9b⟩
    have h10b := h10.under hb9b
    clear x0 x1 x2 x3 x4 x5 x6 y0 y1 y2 y3 y4 y5 y6 z0 z1 z2 z3
    obtain ⟨⟨x0, x1, x2, x3, x4, x5, x6⟩, ⟨y0, y1, y2, y3, y4, y5, y6⟩, ⟨z0, z1, z2, z3⟩, rB, rA, rY⟩ := facts _ h10b
    go_wp2_with fail
    refine (match_any HYl.out t3 rY).mono ?_
    rintro _ w10 ⟨rfl, hb10⟩
    have h11 := h10b.under hb10
    clear x0 x1 x2 x3 x4 x5 x6 y0 y1 y2 y3 y4 y5 y6 z0 z1 z2 z3
    obtain ⟨⟨x0, x1, x2, x3, x4, x5, x6⟩, ⟨y0, y1, y2, y3, y4, y5, y6⟩, ⟨z0, z1, z2, z3⟩, rB, rA, rY⟩ := facts _ h11
    go_wp2_with fail
    refine (may_net HXl.out m1 rA).mono ?_
    rintro _ w11 ⟨rfl, hb11⟩
    have h12 := h11.under hb11
    clear x0 x1 x2 x3 x4 x5 x6 y0 y1 y2 y3 y4 y5 y6 z0 z1 z2 z3
    obtain ⟨⟨x0, x1, x2, x3, x4, x5, x6⟩, ⟨y0, y1, y2, y3, y4, y5, y6⟩, ⟨z0, z1, z2, z3⟩, rB, rA, rY⟩ := facts _ h12
    go_wp2_with fail
    refine (may_net HXl.out m2 rB).mono ?_
    rintro _ w12 ⟨rfl, hb12⟩
    have h13 := h12.under hb12
    go_wp2_with fail
    refine (acl_awake h13).mono ?_
    rintro _ w13 ⟨rfl, h14⟩
    go_wp2_with fail
    go_ret
    exact ⟨rfl, h14.below⟩
end
end Go.Proofs.Ytmnjaaeljpleeaa
