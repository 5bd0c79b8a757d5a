/- The document's oneFrame, walked. -/
import Derived.Test.YtlkkmnbglememaaFrW
import Derived.Test.YtlkkmnbglememaaRefDa
import Derived.Test.YtlkkmnbglememaaRefMf
namespace Go.Proofs.Ytlkkmnbglememaa
open Go Go.RowKit
set_option linter.unusedVariables false
set_option linter.unusedSimpArgs false

theorem post_cell9b {P : Program} {fn : Func} {R : Ending → World → Prop} {a : Act} {w : World} {p q r : Tmp} {ty g : Nat} {t : TypeId} {cs : Array Value} {d : TypeDesc} (h : fn.results = #[.cell p ty, .tmp q, .tmp r]) (hp : a.tmps.getD p undef = .pointer (some ⟨g, 0, none⟩))
    (hg : w.heap[g]? = some (.cells cs t (0, 0))) (hu : P.underlying ty = some d) (hd : (match d with | .struct _ | .array _ _ => true | _ => false) = true) (hi : (P.info? ty).map (·.size) = some cs.size) (hdf : a.defers = []) {v u : Value} (hv : a.tmps.getD q undef = v) (hu2 : a.tmps.getD r undef = u) (hR : R (.returned (.tuple #[.agg cs, v, u])) w) : bodyPost P fn R .ret a w := by
  refine bodyPost_ret (v := .tuple #[.agg cs, v, u]) ?_ hdf hR
  have hp' : a.tmps[p]?.getD undef = .pointer (some ⟨g, 0, none⟩) := by simpa using hp
  have hv' : a.tmps[q]?.getD undef = v := by simpa using hv
  have hu' : a.tmps[r]?.getD undef = u := by simpa using hu2
  simp [results, h, hp', hv', hu', asAddr, run_loadVar_row w g t ty cs (0, 0) d hg hu hd hi]

section plain
variable {b : List UInt8} {S : Nat}
theorem high1 (b : List UInt8) (i : Nat) : highB b i 1 = (b.getD i 0).toNat := by simp [highB]
theorem chkF_any {f h : FrM} {n : Nat} (hl : b.length < n) : chkF b f n = chkF b h n := by unfold chkF; rw [if_pos hl, if_pos hl]
theorem oneD_bad (h : kindB b < 1 ∨ 8 < kindB b) : oneD b = (3, FrM.of 0 0, 0) := by unfold oneD; rw [if_pos h]
theorem oneD_sh (h : ¬ (kindB b < 1 ∨ 8 < kindB b)) (h3 : b.length < 3) : oneD b = (2, FrM.of 0 0, 0) := by unfold oneD; rw [if_neg h, if_pos h3]
theorem oneD_1 (h : kindB b = 1) (h3 : ¬ b.length < 3) (hS : highB b 1 2 = S) : oneD b = if (decA (b.drop 3)).1 ≠ 0 then ((decA (b.drop 3)).1, FrM.of 0 0, 0) else chkF b { FrM.of 1 S with addr := (decA (b.drop 3)).2.1 } (3 + (decA (b.drop 3)).2.2) := by
  unfold oneD
  rw [if_neg (by omega), if_neg h3, if_pos h, ← hS, high2]
  rfl
theorem oneD_25 {k : Nat} (h : kindB b = k) (hk : k = 2 ∨ k = 5) (h3 : ¬ b.length < 3) (hS : highB b 1 2 = S) : oneD b = chkF b { FrM.of k S with code := highB b 3 1 } 4 := by
  unfold oneD
  rw [if_neg (by omega), if_neg h3, if_neg (by omega), if_pos (by omega), ← hS, high2, high1, h]
  rfl
theorem oneD_3 (h : kindB b = 3) (h3 : ¬ b.length < 3) (hS : highB b 1 2 = S) : oneD b = if b.length < 5 then (2, FrM.of 0 0, 0) else chkF b { FrM.of 3 S with data := (b.drop 5).take (highB b 3 2) } (5 + highB b 3 2) := by
  unfold oneD
  rw [if_neg (by omega), if_neg h3, if_neg (by omega), if_neg (by omega), if_pos h, ← hS, high2, high2]
  rfl
theorem oneD_4 (h : kindB b = 4) (h3 : ¬ b.length < 3) (hS : highB b 1 2 = S) : oneD b = chkF b (FrM.of 4 S) 3 := by
  unfold oneD
  rw [if_neg (by omega), if_neg h3, if_neg (by omega), if_neg (by omega), if_neg (by omega), if_pos h, ← hS, high2]
  rfl
theorem oneD_6 {k : Nat} (h : kindB b = k) (hk : 6 ≤ k) (hk8 : k ≤ 8) (h3 : ¬ b.length < 3) (hS : highB b 1 2 = S) : oneD b = chkF b { FrM.of k S with n := highB b 3 4 } 7 := by
  by_cases h7 : b.length < 7
  · rw [chkF_any (h := { FrM.of (kindB b) (strB b) with n := valB ((b.drop 3).take 4) }) h7]
    unfold oneD
    rw [if_neg (by omega), if_neg h3, if_neg (by omega), if_neg (by omega), if_neg (by omega), if_neg (by omega)]
  · unfold oneD
    rw [if_neg (by omega), if_neg h3, if_neg (by omega), if_neg (by omega), if_neg (by omega), if_neg (by omega), ← hS, high2, highB_val b 3 4 (by omega), h]
    rfl
end plain

/-- What oneFrame answers. -/
def OneFOk (w0 : World) (L : List Assn) (x : Int × FrM × Nat) (e : Ending) (w' : World) : Prop :=
  ∃ a c z k, e = .returned (.tuple #[frV x.2.1 (.slice a x.2.1.addr.ip.length c) (.slice z x.2.1.data.length k), .int .i64 x.2.2, .int .i64 x.1]) ∧ Sat w0 w' (OwnB 5 (.slice a x.2.1.addr.ip.length c) x.2.1.addr.ip :: OwnB 5 (.slice z x.2.1.data.length k) x.2.1.data :: L)
/-- What stands behind the switch of oneFrame. -/
def SwD (w0 : World) (L : List Assn) (g g1 m : Nat) (b : List UInt8) (v7 : Value) (wx : World) : Prop :=
  ∃ (f : FrM) (n : Nat) (a : Option Addr) (c : Nat) (z : Option Addr) (k : Nat), v7 = .int .i64 n ∧ n ≤ 1000000 ∧ f.addr.name.size ≤ maxLen ∧ Hid (oneD b = chkF b f n) ∧
    Sat w0 wx (OwnB 5 (.slice a f.addr.ip.length c) f.addr.ip :: OwnB 5 (.slice z f.data.length k) f.data :: Blk m (frO f (.slice a f.addr.ip.length c) (.slice z f.data.length k)) :: Blk g1 frZ :: Blk g frZ :: L)
section
variable {w0 w : World} {L : List Assn}
set_option maxRecDepth 100000 in
set_option maxHeartbeats 2000000 in
theorem ref_oneFrame {v : Value} {b : List UInt8} (hpos : 0 < b.length) (hs : Sat w0 w L) (hv : Vw w0 L v b) :
    Calls Try.prog 31 #[v] w (OneFOk w0 L (oneD b)) := by
  have hr := hv w [] hs
  obtain ⟨b0, o0, c0, rfl, -, hc0, hcm, -⟩ := hr.at hpos
  unfold maxLen at hcm
  have h2 := hs.alloc2 frZ frZ
  have HC := hid_ (And.intro hc0 hcm)
  clear hc0 hcm
  obtain ⟨W2, hW2⟩ : ∃ W, (w.alloc frZ).alloc frZ = W := ⟨_, rfl⟩
  rw [hW2] at h2
  have HW := hid_ hW2
  obtain ⟨g, hgg⟩ : ∃ g, w.heap.size = g := ⟨_, rfl⟩
  obtain ⟨g1, hg1⟩ : ∃ g1, g + 1 = g1 := ⟨_, rfl⟩
  rw [hgg, hg1] at h2
  have HG := hid_ hgg
  have HG1 := hid_ hg1
  clear hW2 hgg hg1 hr
  unfold frZ at HW
  go_enter Try.func31, Try.ntmps31
  go_upto_region 2 with fail
  rw [HW.out, HG.out, HG1.out]
  clear HW HG HG1
  obtain ⟨kd, hkd⟩ : ∃ k, (b.getD 0 0).toNat = k := ⟨_, rfl⟩
  have hkb : kd < 256 := by rw [← hkd]; exact UInt8.toNat_lt _
  have e0 : W2.cell? ⟨b0, o0, none⟩ = some (.int .u8 (kd : Int)) := by rw [← hkd]; exact hv.cell (L' := [_, _]) (i := 0) h2 hpos
  have HK : Hid (kindB b = kd) := hid_ hkd
  have s0 : IntKind.i64.wrap (kd : Int) = (kd : Int) := i64_in (by omega) (by omega)
  have hz0 : (0 : Int) < (b.length : Int) := by omega
  by_cases k0 : kd = 0
  · have E := hid_ (oneD_bad (b := b) (by rw [HK.out]; omega))
    have q1 : decide ((kd : Int) < 1) = true := decide_eq_true (by omega)
    clear k0 hkd
    have hz := Sat.front [] h2
    have hg := Sat.front [_] h2
    unfold frZ at hz hg
    obtain ⟨z0, z1, z2, z3, z4, z5, z6, z7, z8⟩ := hz.cells9
    obtain ⟨r0, r1, r2, r3, r4, r5, r6, r7, r8⟩ := hg.cells9
    obtain ⟨f0, f1, f2, f3, f4, f5, f6, f7, f8⟩ := hg.frz9
    go_wp2_with fail
    have h9 := hg.fr9 (u0 := .int .i64 0) (u1 := .int .i64 0) (u2 := .int .i64 0) (u3 := .int .i64 0) (u4 := .int .i64 0) (u5 := .slice none 0 0) (u6 := .string ⟨#[]⟩) (u7 := .int .i64 0) (u8 := .slice none 0 0)
    refine post_cell9b (p := 2) (q := 3) (r := 4) (ty := 26) rfl rfl h9.blk.1 Try.underlying26 rfl (by kernel_rfl) rfl rfl rfl ?_
    rw [E.out]
    exact ⟨none, 0, none, 0, rfl, OwnB.nilI (OwnB.nilI h9.drop.drop)⟩
  have q1 : decide ((kd : Int) < 1) = false := decide_eq_false (by omega)
  by_cases k9 : 8 < kd
  · have E := hid_ (oneD_bad (b := b) (by rw [HK.out]; omega))
    have q2 : decide (8 < (kd : Int)) = true := decide_eq_true (by omega)
    clear k0 k9 hkd
    have hz := Sat.front [] h2
    have hg := Sat.front [_] h2
    unfold frZ at hz hg
    obtain ⟨z0, z1, z2, z3, z4, z5, z6, z7, z8⟩ := hz.cells9
    obtain ⟨r0, r1, r2, r3, r4, r5, r6, r7, r8⟩ := hg.cells9
    obtain ⟨f0, f1, f2, f3, f4, f5, f6, f7, f8⟩ := hg.frz9
    go_wp2_with fail
    have h9 := hg.fr9 (u0 := .int .i64 0) (u1 := .int .i64 0) (u2 := .int .i64 0) (u3 := .int .i64 0) (u4 := .int .i64 0) (u5 := .slice none 0 0) (u6 := .string ⟨#[]⟩) (u7 := .int .i64 0) (u8 := .slice none 0 0)
    refine post_cell9b (p := 2) (q := 3) (r := 4) (ty := 26) rfl rfl h9.blk.1 Try.underlying26 rfl (by kernel_rfl) rfl rfl rfl ?_
    rw [E.out]
    exact ⟨none, 0, none, 0, rfl, OwnB.nilI (OwnB.nilI h9.drop.drop)⟩
  have q2 : decide (8 < (kd : Int)) = false := decide_eq_false (by omega)
  by_cases l3 : b.length < 3
  · have E := hid_ (oneD_sh (b := b) (by rw [HK.out]; omega) l3)
    have q3 : decide ((b.length : Int) < 3) = true := decide_eq_true (by omega)
    clear k0 k9 hkd l3
    have hz := Sat.front [] h2
    have hg := Sat.front [_] h2
    unfold frZ at hz hg
    obtain ⟨z0, z1, z2, z3, z4, z5, z6, z7, z8⟩ := hz.cells9
    obtain ⟨r0, r1, r2, r3, r4, r5, r6, r7, r8⟩ := hg.cells9
    obtain ⟨f0, f1, f2, f3, f4, f5, f6, f7, f8⟩ := hg.frz9
    go_wp2_with fail
    have h9 := hg.fr9 (u0 := .int .i64 0) (u1 := .int .i64 0) (u2 := .int .i64 0) (u3 := .int .i64 0) (u4 := .int .i64 0) (u5 := .slice none 0 0) (u6 := .string ⟨#[]⟩) (u7 := .int .i64 0) (u8 := .slice none 0 0)
    refine post_cell9b (p := 2) (q := 3) (r := 4) (ty := 26) rfl rfl h9.blk.1 Try.underlying26 rfl (by kernel_rfl) rfl rfl rfl ?_
    rw [E.out]
    exact ⟨none, 0, none, 0, rfl, OwnB.nilI (OwnB.nilI h9.drop.drop)⟩
  have q3 : decide ((b.length : Int) < 3) = false := decide_eq_false (by omega)
  have H3 := hid_ l3
  have hl3 : 3 ≤ (b.length : Int) := by omega
  obtain ⟨S, hS⟩ : ∃ S, highB b 1 2 = S := ⟨_, rfl⟩
  have hSb := highB_lt b 1 2
  have HHi := hid_ (fun (W : World) (L' : List Assn) (hW : Sat w0 W (L' ++ L)) => ref_High (v := .slice (some ⟨b0, o0, none⟩) b.length c0) (b := b) (i := 1) (n := 2) (ii := 1) (ni := 2) rfl rfl (by omega) (by omega) (hv.more L') hW)
  rw [hS] at hSb HHi
  have HS := hid_ hS
  have s1 : IntKind.i64.wrap (S : Int) = (S : Int) := i64_in (by omega) (by omega)
  have hK : kd = 1 ∨ kd = 2 ∨ kd = 3 ∨ kd = 4 ∨ kd = 5 ∨ kd = 6 ∨ kd = 7 ∨ kd = 8 := by omega
  clear k0 k9 hkd l3 hS
  go_upto_region 6 with fail
  go_cut [6] (fun v6 wx => ∃ m, v6 = .pointer (some ⟨m, 0, none⟩) ∧ Sat w0 wx (Blk m (frK kd S) :: Blk g1 frZ :: Blk g frZ :: L))
  case first =>
    have he2 : ∀ W : World, Sat w0 W (Blk g1 frZ :: Blk g frZ :: L) → W.cell? ⟨b0, o0, none⟩ = some (.int .u8 (kd : Int)) := fun W hW => by rw [← HK.out]; exact hv.cell (L' := [_, _]) (i := 0) hW hpos
    have he3 : ∀ (W : World) (q : Nat) (o : Obj), Sat w0 W (Blk q o :: Blk g1 frZ :: Blk g frZ :: L) → W.cell? ⟨b0, o0, none⟩ = some (.int .u8 (kd : Int)) := fun W q o hW => by rw [← HK.out]; exact hv.cell (L' := [_, _, _]) (i := 0) hW hpos
    have hh2 : ∀ W : World, Sat w0 W (Blk g1 frZ :: Blk g frZ :: L) → Calls Try.prog 37 #[.slice (some ⟨b0, o0, none⟩) b.length c0, .int .i64 1, .int .i64 2] W fun e w' => e = .returned (.int .u64 S) ∧ Sat w0 w' (Blk g1 frZ :: Blk g frZ :: L) := fun W hW => HHi.out W [_, _] hW
    have hh3 : ∀ (W : World) (q : Nat) (o : Obj), Sat w0 W (Blk q o :: Blk g1 frZ :: Blk g frZ :: L) → Calls Try.prog 37 #[.slice (some ⟨b0, o0, none⟩) b.length c0, .int .i64 1, .int .i64 2] W fun e w' => e = .returned (.int .u64 S) ∧ Sat w0 w' (Blk q o :: Blk g1 frZ :: Blk g frZ :: L) := fun W q o hW => HHi.out W [_, _, _] hW
    have hX := h2.drew
    have hA : Sat w0 _ (Blk W2.heap.size (.cells #[.int .i64 0, .int .i64 0, .int .i64 0, .int .i64 0, .int .i64 0, .slice none 0 0, .string ⟨#[]⟩, .int .i64 0, .slice none 0 0] 26 (0, 0)) :: _) := (h2.alloc (.cells #[.int .i64 0, .int .i64 0, .int .i64 0, .int .i64 0, .int .i64 0, .slice none 0 0, .string ⟨#[]⟩, .int .i64 0, .slice none 0 0] 26 (0, 0))).drew
    have hAn : Sat w0 _ (Blk W2.heap.size (.cells #[.int .i64 0, .int .i64 0, .int .i64 0, .int .i64 0, .int .i64 0, .slice none 0 0, .string ⟨#[]⟩, .int .i64 0, .slice none 0 0] 26 (0, 0)) :: _) := (h2.alloc (.cells #[.int .i64 0, .int .i64 0, .int .i64 0, .int .i64 0, .int .i64 0, .slice none 0 0, .string ⟨#[]⟩, .int .i64 0, .slice none 0 0] 26 (0, 0)))
    have kX := he2 _ hX
    have kA := he3 _ _ _ hA
    have kAn := he3 _ _ _ hAn
    have HE2 := hid_ he2
    have HE3 := hid_ he3
    have HH2 := hid_ hh2
    have HH3 := hid_ hh3
    clear hK h2 HHi he2 he3 hh2 hh3
    have KX := hid_ kX
    have KA := hid_ kA
    have KAn := hid_ kAn
    clear kX kA kAn
    go_region_held3 (fun w' => w'.cell? ⟨b0, o0, none⟩ = some (.int .u8 (kd : Int))) (first | with_reducible exact KX.out | with_reducible exact KA.out | with_reducible exact KAn.out | with_reducible exact K1.out | with_reducible exact K2.out)
      (first | (go_at_call 37; with_reducible refine (HH2.out _ hX).mono ?_; clear hX KX; rintro _ W ⟨rfl, hX⟩; have KX := hid_ (HE2.out _ hX); have K1 := hid_ (HE3.out _ _ _ (hX.alloc (.cells #[.int .i64 0, .int .i64 0, .int .i64 0, .int .i64 0, .int .i64 0, .slice none 0 0, .string ⟨#[]⟩, .int .i64 0, .slice none 0 0] 26 (0, 0)))); have hY := hX.alloc (.cells #[.int .i64 kd, .int .i64 S, .int .i64 0, .int .i64 0, .int .i64 0, .slice none 0 0, .string ⟨#[]⟩, .int .i64 0, .slice none 0 0] 26 (0, 0)); have K2 := hid_ (HE3.out _ _ _ hY))
             | (go_at_call 37; with_reducible refine (HH3.out _ _ _ hA).mono ?_; clear hX KX; rintro _ W ⟨rfl, hX⟩; have KX := hid_ (HE3.out _ _ _ hX); have hY := Sat.fr9 (u0 := .int .i64 kd) (u1 := .int .i64 S) (u2 := .int .i64 0) (u3 := .int .i64 0) (u4 := .int .i64 0) (u5 := .slice none 0 0) (u6 := .string ⟨#[]⟩) (u7 := .int .i64 0) (u8 := .slice none 0 0) hX; have K1 := hid_ (HE3.out _ _ _ hY); obtain ⟨m0, m1, m2, m3, m4, m5, m6, m7, m8⟩ := Sat.cells9 hX; obtain ⟨n0, n1, n2, n3, n4, n5, n6, n7, n8⟩ := Sat.frz9 hX))
    all_goals
      go_wp2_with fail
      go_meet
      unfold frK
      with_reducible exact ⟨_, rfl, hY⟩
  obtain ⟨m, rfl, h4⟩ := hcut
  clear e0 h2 q1 q2 q3
  unfold frK at h4
  clear hSb s1 HHi
  have x0 : wc.cell? ⟨m, 0, none⟩ = some (.int .i64 kd) := h4.cell 0 rfl
  go_upto_block 0 with fail
  go_cut [7] (fun v7 wx => SwD w0 L g g1 m b v7 wx)
  case first =>
    have hM := h4
    have x0 : wc.cell? ⟨m, 0, none⟩ = some (.int .i64 kd) := h4.cell 0 rfl
    rcases hK with rfl | rfl | rfl | rfl | rfl | rfl | rfl | rfl
    · have HD0 := hid_ (oneD_1 HK.out H3.out HS.out)
      have hd := fun (v3 : Value) (hv3 : Vw w0 L v3 (b.drop 3)) => ref_DecodeAddr (v := v3) (b := b.drop 3) h4 (hv3.more [_, _, _])
      obtain ⟨⟨er, A, n⟩, hA⟩ : ∃ d, decA (b.drop 3) = d := ⟨_, rfl⟩
      have hok : er = 0 → n ≤ 68 := fun he => by
        subst he
        have h6 := dec_ok hA
        have := enc_four A h6.1
        omega
      have hnm := hid_ (dec_name hA)
      rw [hA] at hd HD0
      have Hd := hid_ hd
      clear hd hA
      by_cases hc3 : c0 = 3
      · subst hc3
        have hv3 : Vw w0 L (.slice (some ⟨b0, o0, none⟩) 0 0) (b.drop 3) := by
          rw [List.eq_nil_of_length_eq_zero (l := b.drop 3) (by have := HC.out; rw [List.length_drop]; omega)]
          exact fun W L' h => RdB.emp (Nat.zero_le _)
        have hb3 : b.length - 3 = 0 := by have := HC.out; omega
        have hb4 : (b.length : Int) ≤ 3 := by have := HC.out; omega
        go_wp2_with fail
        refine (Hd.out _ hv3).mono ?_
        rintro _ w4 ⟨a4, c4, rfl, h5⟩
        clear x0 hM
        dsimp only at h5
        have h6 := h5.alloc (.cells #[.int .i64 A.kind, .slice a4 A.ip.length c4, .string A.name, .int .i64 A.port] 24 (0, 0))
        by_cases he : er = 0
        · subst he
          have HD := hid_ (show oneD b = chkF b { FrM.of 1 S with addr := A } (3 + n) by rw [HD0.out]; simp)
          obtain ⟨q, hq⟩ : ∃ q, w4.heap.size = q := ⟨_, rfl⟩
          obtain ⟨W5, hW5⟩ : ∃ W, w4.alloc (.cells #[.int .i64 A.kind, .slice a4 A.ip.length c4, .string A.name, .int .i64 A.port] 24 (0, 0)) = W := ⟨_, rfl⟩
          rw [hq, hW5] at h6
          have HQ := hid_ hq
          have HW := hid_ hW5
          have hn68 := hok rfl
          have s3 : IntKind.i64.wrap (3 + (n : Int)) = 3 + (n : Int) := i64_in (by omega) (by omega)
          clear hq hW5 hok HD0
          go_upto_region 11 with fail
          rw [HW.out, HQ.out]
          clear HW HQ
          have a0 : W5.cell? ⟨q, 0, none⟩ = some (.int .i64 A.kind) := h6.cell 0 rfl
          have a1 : W5.cell? ⟨q, 1, none⟩ = some (.slice a4 A.ip.length c4) := h6.cell 1 rfl
          have a2 : W5.cell? ⟨q, 2, none⟩ = some (.string A.name) := h6.cell 2 rfl
          have a3 : W5.cell? ⟨q, 3, none⟩ = some (.int .i64 A.port) := h6.cell 3 rfl
          have h7 := Sat.front [_, _] h6
          have x4 : W5.cell? ⟨m, 4, none⟩ = some (.int .i64 0) := h7.cell 4 rfl
          have x5 : W5.cell? ⟨m, 5, none⟩ = some (.slice none 0 0) := h7.cell 5 rfl
          have x6 : W5.cell? ⟨m, 6, none⟩ = some (.string ⟨#[]⟩) := h7.cell 6 rfl
          have x7 : W5.cell? ⟨m, 7, none⟩ = some (.int .i64 0) := h7.cell 7 rfl
          have y4 := h7.frozen 4
          have y5 := h7.frozen 5
          have y6 := h7.frozen 6
          have y7 := h7.frozen 7
          have h8 := (((h7.set 4 (.int .i64 A.kind)).set 5 (.slice a4 A.ip.length c4)).set 6 (.string A.name)).set 7 (.int .i64 A.port)
          simp only [List.setIfInBounds_toArray, List.set_cons_zero, List.set_cons_succ] at h8
          go_wp2_with fail
          go_meet
          exact ⟨{ FrM.of 1 S with addr := A }, 3 + n, a4, c4, none, 0, by push_cast; rfl, by omega, hnm.out, HD, (OwnB.nilI h8.d2.swap).swap⟩
        · have E := hid_ (show oneD b = (er, FrM.of 0 0, 0) by rw [HD0.out]; simp [he])
          have qe : (er != 0) = true := by simp [he]
          obtain ⟨q, hq⟩ : ∃ q, w4.heap.size = q := ⟨_, rfl⟩
          obtain ⟨W5, hW5⟩ : ∃ W, w4.alloc (.cells #[.int .i64 A.kind, .slice a4 A.ip.length c4, .string A.name, .int .i64 A.port] 24 (0, 0)) = W := ⟨_, rfl⟩
          rw [hq, hW5] at h6
          have HQ := hid_ hq
          have HW := hid_ hW5
          clear hq hW5 hok he HD0
          go_upto_region 11 with fail
          rw [HW.out, HQ.out]
          clear HW HQ
          have hz := Sat.front [_, _, _] h6
          have hg := Sat.front [_, _, _, _] h6
          unfold frZ at hz hg
          obtain ⟨z0, z1, z2, z3, z4, z5, z6, z7, z8⟩ := hz.cells9
          obtain ⟨r0, r1, r2, r3, r4, r5, r6, r7, r8⟩ := hg.cells9
          obtain ⟨f0, f1, f2, f3, f4, f5, f6, f7, f8⟩ := hg.frz9
          go_wp2_with fail
          have h9 := hg.fr9 (u0 := .int .i64 0) (u1 := .int .i64 0) (u2 := .int .i64 0) (u3 := .int .i64 0) (u4 := .int .i64 0) (u5 := .slice none 0 0) (u6 := .string ⟨#[]⟩) (u7 := .int .i64 0) (u8 := .slice none 0 0)
          refine post_cell9b (p := 2) (q := 3) (r := 4) (ty := 26) rfl rfl h9.blk.1 Try.underlying26 rfl (by kernel_rfl) rfl rfl rfl ?_
          rw [E.out]
          exact ⟨none, 0, none, 0, rfl, OwnB.nilI (OwnB.nilI h9.drop.drop.drop.drop.drop)⟩
      · have hb3 : 3 < (c0 : Int) := by have := HC.out; omega
        have hb4 : (b.length : Int) ≤ (c0 : Int) := by have := HC.out; omega
        have hv3 := hv.drop (n := 3) (by omega) rfl
        clear hc3
        go_wp2_with fail
        refine (Hd.out _ hv3).mono ?_
        rintro _ w4 ⟨a4, c4, rfl, h5⟩
        clear x0 hM
        dsimp only at h5
        have h6 := h5.alloc (.cells #[.int .i64 A.kind, .slice a4 A.ip.length c4, .string A.name, .int .i64 A.port] 24 (0, 0))
        by_cases he : er = 0
        · subst he
          have HD := hid_ (show oneD b = chkF b { FrM.of 1 S with addr := A } (3 + n) by rw [HD0.out]; simp)
          obtain ⟨q, hq⟩ : ∃ q, w4.heap.size = q := ⟨_, rfl⟩
          obtain ⟨W5, hW5⟩ : ∃ W, w4.alloc (.cells #[.int .i64 A.kind, .slice a4 A.ip.length c4, .string A.name, .int .i64 A.port] 24 (0, 0)) = W := ⟨_, rfl⟩
          rw [hq, hW5] at h6
          have HQ := hid_ hq
          have HW := hid_ hW5
          have hn68 := hok rfl
          have s3 : IntKind.i64.wrap (3 + (n : Int)) = 3 + (n : Int) := i64_in (by omega) (by omega)
          clear hq hW5 hok HD0
          go_upto_region 11 with fail
          rw [HW.out, HQ.out]
          clear HW HQ
          have a0 : W5.cell? ⟨q, 0, none⟩ = some (.int .i64 A.kind) := h6.cell 0 rfl
          have a1 : W5.cell? ⟨q, 1, none⟩ = some (.slice a4 A.ip.length c4) := h6.cell 1 rfl
          have a2 : W5.cell? ⟨q, 2, none⟩ = some (.string A.name) := h6.cell 2 rfl
          have a3 : W5.cell? ⟨q, 3, none⟩ = some (.int .i64 A.port) := h6.cell 3 rfl
          have h7 := Sat.front [_, _] h6
          have x4 : W5.cell? ⟨m, 4, none⟩ = some (.int .i64 0) := h7.cell 4 rfl
          have x5 : W5.cell? ⟨m, 5, none⟩ = some (.slice none 0 0) := h7.cell 5 rfl
          have x6 : W5.cell? ⟨m, 6, none⟩ = some (.string ⟨#[]⟩) := h7.cell 6 rfl
          have x7 : W5.cell? ⟨m, 7, none⟩ = some (.int .i64 0) := h7.cell 7 rfl
          have y4 := h7.frozen 4
          have y5 := h7.frozen 5
          have y6 := h7.frozen 6
          have y7 := h7.frozen 7
          have h8 := (((h7.set 4 (.int .i64 A.kind)).set 5 (.slice a4 A.ip.length c4)).set 6 (.string A.name)).set 7 (.int .i64 A.port)
          simp only [List.setIfInBounds_toArray, List.set_cons_zero, List.set_cons_succ] at h8
          go_wp2_with fail
          go_meet
          exact ⟨{ FrM.of 1 S with addr := A }, 3 + n, a4, c4, none, 0, by push_cast; rfl, by omega, hnm.out, HD, (OwnB.nilI h8.d2.swap).swap⟩
        · have E := hid_ (show oneD b = (er, FrM.of 0 0, 0) by rw [HD0.out]; simp [he])
          have qe : (er != 0) = true := by simp [he]
          obtain ⟨q, hq⟩ : ∃ q, w4.heap.size = q := ⟨_, rfl⟩
          obtain ⟨W5, hW5⟩ : ∃ W, w4.alloc (.cells #[.int .i64 A.kind, .slice a4 A.ip.length c4, .string A.name, .int .i64 A.port] 24 (0, 0)) = W := ⟨_, rfl⟩
          rw [hq, hW5] at h6
          have HQ := hid_ hq
          have HW := hid_ hW5
          clear hq hW5 hok he HD0
          go_upto_region 11 with fail
          rw [HW.out, HQ.out]
          clear HW HQ
          have hz := Sat.front [_, _, _] h6
          have hg := Sat.front [_, _, _, _] h6
          unfold frZ at hz hg
          obtain ⟨z0, z1, z2, z3, z4, z5, z6, z7, z8⟩ := hz.cells9
          obtain ⟨r0, r1, r2, r3, r4, r5, r6, r7, r8⟩ := hg.cells9
          obtain ⟨f0, f1, f2, f3, f4, f5, f6, f7, f8⟩ := hg.frz9
          go_wp2_with fail
          have h9 := hg.fr9 (u0 := .int .i64 0) (u1 := .int .i64 0) (u2 := .int .i64 0) (u3 := .int .i64 0) (u4 := .int .i64 0) (u5 := .slice none 0 0) (u6 := .string ⟨#[]⟩) (u7 := .int .i64 0) (u8 := .slice none 0 0)
          refine post_cell9b (p := 2) (q := 3) (r := 4) (ty := 26) rfl rfl h9.blk.1 Try.underlying26 rfl (by kernel_rfl) rfl rfl rfl ?_
          rw [E.out]
          exact ⟨none, 0, none, 0, rfl, OwnB.nilI (OwnB.nilI h9.drop.drop.drop.drop.drop)⟩
    · have hN := highB_lt b 3 1
      have HH := hid_ (ref_High (v := .slice (some ⟨b0, o0, none⟩) b.length c0) (b := b) (i := 3) (n := 1) (ii := 3) (ni := 1) rfl rfl (by omega) (by omega) (hv.more [_, _, _]) h4)
      have HD := hid_ (oneD_25 HK.out (by omega) H3.out HS.out)
      obtain ⟨N, hN2⟩ : ∃ N, highB b 3 1 = N := ⟨_, rfl⟩
      rw [hN2] at hN HH HD
      have s2 : IntKind.i64.wrap (N : Int) = (N : Int) := i64_in (by omega) (by omega)
      clear hN2
      go_wp2_with fail
      refine HH.out.mono ?_
      rintro _ w5 ⟨rfl, h5⟩
      have x1 : w5.cell? ⟨m, 2, none⟩ = some (.int .i64 0) := h5.cell 2 rfl
      have x2 : w5.frozen? ⟨m, 2, none⟩ = false := h5.frozen 2
      have h6 := h5.set 2 (.int .i64 N)
      go_wp2_with fail
      go_meet
      exact ⟨{ FrM.of 2 S with code := N }, 4, none, 0, none, 0, rfl, by omega, Nat.zero_le _, HD, OwnB.nilI (OwnB.nilI h6)⟩
    · have HD0 := hid_ (oneD_3 HK.out H3.out HS.out)
      by_cases l5 : b.length < 5
      · have E := hid_ (HD0.out.trans (if_pos l5))
        have q1 : decide ((b.length : Int) < 5) = true := decide_eq_true (by omega)
        clear l5 HD0
        have hz := Sat.front [_] h4
        have hg := Sat.front [_, _] h4
        unfold frZ at hz hg
        obtain ⟨z0, z1, z2, z3, z4, z5, z6, z7, z8⟩ := hz.cells9
        obtain ⟨r0, r1, r2, r3, r4, r5, r6, r7, r8⟩ := hg.cells9
        obtain ⟨f0, f1, f2, f3, f4, f5, f6, f7, f8⟩ := hg.frz9
        go_wp2_with fail
        have h9 := hg.fr9 (u0 := .int .i64 0) (u1 := .int .i64 0) (u2 := .int .i64 0) (u3 := .int .i64 0) (u4 := .int .i64 0) (u5 := .slice none 0 0) (u6 := .string ⟨#[]⟩) (u7 := .int .i64 0) (u8 := .slice none 0 0)
        refine post_cell9b (p := 2) (q := 3) (r := 4) (ty := 26) rfl rfl h9.blk.1 Try.underlying26 rfl (by kernel_rfl) rfl rfl rfl ?_
        rw [E.out]
        exact ⟨none, 0, none, 0, rfl, OwnB.nilI (OwnB.nilI h9.drop.drop.drop)⟩
      have HD := hid_ (HD0.out.trans (if_neg l5))
      have q1 : decide ((b.length : Int) < 5) = false := decide_eq_false (by omega)
      have hN := highB_lt b 3 2
      have HH := hid_ (ref_High (v := .slice (some ⟨b0, o0, none⟩) b.length c0) (b := b) (i := 3) (n := 2) (ii := 3) (ni := 2) rfl rfl (by omega) (by omega) (hv.more [_, _, _]) h4)
      obtain ⟨N, hN2⟩ : ∃ N, highB b 3 2 = N := ⟨_, rfl⟩
      rw [hN2] at hN HH HD
      have s2 : IntKind.i64.wrap (N : Int) = (N : Int) := i64_in (by omega) (by omega)
      have s3 : IntKind.i64.wrap (5 + (N : Int)) = 5 + (N : Int) := i64_in (by omega) (by omega)
      have hl5 : 5 ≤ b.length := by omega
      clear hN2 HD0 l5
      go_wp2_with fail
      refine HH.out.mono ?_
      rintro _ w5 ⟨rfl, h5⟩
      clear HH h4 hM x0
      by_cases lN : b.length < 5 + N
      · have HD2 := hid_ (HD.out.trans (chkF_any (h := FrM.of 3 S) lN))
        have q2 : decide ((5 + (N : Int)) ≤ (b.length : Int)) = false := decide_eq_false (by omega)
        clear lN HD
        go_wp2_with fail
        go_meet
        exact ⟨FrM.of 3 S, 5 + N, none, 0, none, 0, by push_cast; rfl, by omega, Nat.zero_le _, HD2, OwnB.nilI (OwnB.nilI h5)⟩
      · have q2 : decide ((5 + (N : Int)) ≤ (b.length : Int)) = true := decide_eq_true (by omega)
        obtain ⟨x, hx⟩ : ∃ x, (b.drop 5).take N = x := ⟨_, rfl⟩
        have hxl : x.length = N := by rw [← hx, List.length_take, List.length_drop]; omega
        have h6 := OwnB.nilI (t := 5) h5
        rw [hx] at HD
        by_cases hc5 : c0 = 5
        · subst hc5
          obtain rfl : N = 0 := by have := HC.out; omega
          obtain rfl : x = [] := List.eq_nil_of_length_eq_zero hxl
          have hvx : RdB w5 (.slice (some ⟨b0, o0, none⟩) 0 0) [] := RdB.emp (Nat.zero_le _)
          have hb : 5 ≤ (b.length : Int) ∧ (b.length : Int) ≤ 5 := by have := HC.out; omega
          have q3 : decide (5 ≤ (b.length : Int)) = true := decide_eq_true (by omega)
          clear lN hx hxl hN s2 s3
          go_wp2_with (at_builtin; refine wpList_append_b (w0 := w0) rfl _ _ 22 rfl rfl h6 rfl (slSrc hvx) [] 0 rfl rfl (by omega) ?_)
          intro a3 c3 w3 h7
          replace h7 := h7.swap
          clear h6 hvx
          have x1 : w3.cell? ⟨m, 8, none⟩ = some (.slice none 0 0) := h7.cell 8 rfl
          have x2 : w3.frozen? ⟨m, 8, none⟩ = false := h7.frozen 8
          have h8 := h7.set 8 (.slice a3 0 c3)
          go_wp2_with fail
          go_meet
          exact ⟨{ FrM.of 3 S with data := [] }, 5, none, 0, a3, c3, rfl, by omega, Nat.zero_le _, HD, OwnB.nilI (Sat.swap h8)⟩
        have hvx := hv.cut (lo := 5) (hi := 5 + N) (by omega) (by omega)
        rw [show 5 + N - 5 = N by omega, hx] at hvx
        replace hvx := hvx w5 [_, _, _] h5
        have hb : 5 + (N : Int) ≤ (b.length : Int) ∧ (b.length : Int) ≤ (c0 : Int) ∧ 0 ≤ (N : Int) ∧ 5 < (c0 : Int) := by have := HC.out; omega
        have t1 : (5 + (N : Int)).toNat = 5 + N := by omega
        have t2 : 5 + N - 5 = N := by omega
        have HX := hid_ hxl
        have HN := hid_ hN
        clear lN hx hxl
        go_wp2_with (at_builtin; refine wpList_append_b (w0 := w0) rfl _ _ 22 rfl rfl h6 rfl (slSrc hvx) x N rfl HX.out (by omega) ?_)
        intro a3 c3 w3 h7
        replace h7 := h7.swap
        clear h6 hvx
        have x1 : w3.cell? ⟨m, 8, none⟩ = some (.slice none 0 0) := h7.cell 8 rfl
        have x2 : w3.frozen? ⟨m, 8, none⟩ = false := h7.frozen 8
        have h8 := h7.set 8 (.slice a3 N c3)
        go_wp2_with fail
        go_meet
        have hXX := HX.out
        subst hXX
        exact ⟨{ FrM.of 3 S with data := x }, 5 + x.length, none, 0, a3, c3, by push_cast; rfl, by have := HN.out; omega, Nat.zero_le _, HD, OwnB.nilI (Sat.swap h8)⟩
    · have HD := hid_ (oneD_4 HK.out H3.out HS.out)
      go_wp2_with fail
      go_meet
      exact ⟨FrM.of 4 S, 3, none, 0, none, 0, rfl, by omega, Nat.zero_le _, HD, OwnB.nilI (OwnB.nilI h4)⟩
    · have hN := highB_lt b 3 1
      have HH := hid_ (ref_High (v := .slice (some ⟨b0, o0, none⟩) b.length c0) (b := b) (i := 3) (n := 1) (ii := 3) (ni := 1) rfl rfl (by omega) (by omega) (hv.more [_, _, _]) h4)
      have HD := hid_ (oneD_25 HK.out (by omega) H3.out HS.out)
      obtain ⟨N, hN2⟩ : ∃ N, highB b 3 1 = N := ⟨_, rfl⟩
      rw [hN2] at hN HH HD
      have s2 : IntKind.i64.wrap (N : Int) = (N : Int) := i64_in (by omega) (by omega)
      clear hN2
      go_wp2_with fail
      refine HH.out.mono ?_
      rintro _ w5 ⟨rfl, h5⟩
      have x1 : w5.cell? ⟨m, 2, none⟩ = some (.int .i64 0) := h5.cell 2 rfl
      have x2 : w5.frozen? ⟨m, 2, none⟩ = false := h5.frozen 2
      have h6 := h5.set 2 (.int .i64 N)
      go_wp2_with fail
      go_meet
      exact ⟨{ FrM.of 5 S with code := N }, 4, none, 0, none, 0, rfl, by omega, Nat.zero_le _, HD, OwnB.nilI (OwnB.nilI h6)⟩
    · have hN := highB_lt b 3 4
      have HH := hid_ (ref_High (v := .slice (some ⟨b0, o0, none⟩) b.length c0) (b := b) (i := 3) (n := 4) (ii := 3) (ni := 4) rfl rfl (by omega) (by omega) (hv.more [_, _, _]) h4)
      have HD := hid_ (oneD_6 HK.out (by omega) (by omega) H3.out HS.out)
      obtain ⟨N, hN2⟩ : ∃ N, highB b 3 4 = N := ⟨_, rfl⟩
      rw [hN2] at hN HH HD
      have s2 : IntKind.i64.wrap (N : Int) = (N : Int) := i64_in (by omega) (by omega)
      clear hN2
      go_wp2_with fail
      refine HH.out.mono ?_
      rintro _ w5 ⟨rfl, h5⟩
      have x1 : w5.cell? ⟨m, 3, none⟩ = some (.int .i64 0) := h5.cell 3 rfl
      have x2 : w5.frozen? ⟨m, 3, none⟩ = false := h5.frozen 3
      have h6 := h5.set 3 (.int .i64 N)
      go_wp2_with fail
      go_meet
      exact ⟨{ FrM.of 6 S with n := N }, 7, none, 0, none, 0, rfl, by omega, Nat.zero_le _, HD, OwnB.nilI (OwnB.nilI h6)⟩
    · have hN := highB_lt b 3 4
      have HH := hid_ (ref_High (v := .slice (some ⟨b0, o0, none⟩) b.length c0) (b := b) (i := 3) (n := 4) (ii := 3) (ni := 4) rfl rfl (by omega) (by omega) (hv.more [_, _, _]) h4)
      have HD := hid_ (oneD_6 HK.out (by omega) (by omega) H3.out HS.out)
      obtain ⟨N, hN2⟩ : ∃ N, highB b 3 4 = N := ⟨_, rfl⟩
      rw [hN2] at hN HH HD
      have s2 : IntKind.i64.wrap (N : Int) = (N : Int) := i64_in (by omega) (by omega)
      clear hN2
      go_wp2_with fail
      refine HH.out.mono ?_
      rintro _ w5 ⟨rfl, h5⟩
      have x1 : w5.cell? ⟨m, 3, none⟩ = some (.int .i64 0) := h5.cell 3 rfl
      have x2 : w5.frozen? ⟨m, 3, none⟩ = false := h5.frozen 3
      have h6 := h5.set 3 (.int .i64 N)
      go_wp2_with fail
      go_meet
      exact ⟨{ FrM.of 7 S with n := N }, 7, none, 0, none, 0, rfl, by omega, Nat.zero_le _, HD, OwnB.nilI (OwnB.nilI h6)⟩
    · have hN := highB_lt b 3 4
      have HH := hid_ (ref_High (v := .slice (some ⟨b0, o0, none⟩) b.length c0) (b := b) (i := 3) (n := 4) (ii := 3) (ni := 4) rfl rfl (by omega) (by omega) (hv.more [_, _, _]) h4)
      have HD := hid_ (oneD_6 HK.out (by omega) (by omega) H3.out HS.out)
      obtain ⟨N, hN2⟩ : ∃ N, highB b 3 4 = N := ⟨_, rfl⟩
      rw [hN2] at hN HH HD
      have s2 : IntKind.i64.wrap (N : Int) = (N : Int) := i64_in (by omega) (by omega)
      clear hN2
      go_wp2_with fail
      refine HH.out.mono ?_
      rintro _ w5 ⟨rfl, h5⟩
      have x1 : w5.cell? ⟨m, 3, none⟩ = some (.int .i64 0) := h5.cell 3 rfl
      have x2 : w5.frozen? ⟨m, 3, none⟩ = false := h5.frozen 3
      have h6 := h5.set 3 (.int .i64 N)
      go_wp2_with fail
      go_meet
      exact ⟨{ FrM.of 8 S with n := N }, 7, none, 0, none, 0, rfl, by omega, Nat.zero_le _, HD, OwnB.nilI (OwnB.nilI h6)⟩
  obtain ⟨f, n, a, c, z, k, rfl, hn, hnm, hD, h8⟩ := hcut
  clear h4
  have hip := OwnB.rd h8
  have hda := OwnB.rd h8.drop
  by_cases ln : b.length < n
  · have E := hid_ (show oneD b = (2, FrM.of 0 0, 0) by rw [hD.out]; unfold chkF; rw [if_pos ln])
    have q1 : decide ((b.length : Int) < (n : Int)) = true := decide_eq_true (by omega)
    have q2 : decide (b.length < n) = true := decide_eq_true ln
    clear ln hD
    have hz := Sat.front [_, _, _] h8
    have hg := Sat.front [_, _, _, _] h8
    unfold frZ at hz hg
    obtain ⟨z0, z1, z2, z3, z4, z5, z6, z7, z8⟩ := hz.cells9
    obtain ⟨r0, r1, r2, r3, r4, r5, r6, r7, r8⟩ := hg.cells9
    obtain ⟨f0, f1, f2, f3, f4, f5, f6, f7, f8⟩ := hg.frz9
    go_wp2_with fail
    have h9 := hg.fr9 (u0 := .int .i64 0) (u1 := .int .i64 0) (u2 := .int .i64 0) (u3 := .int .i64 0) (u4 := .int .i64 0) (u5 := .slice none 0 0) (u6 := .string ⟨#[]⟩) (u7 := .int .i64 0) (u8 := .slice none 0 0)
    refine post_cell9b (p := 2) (q := 3) (r := 4) (ty := 26) rfl rfl h9.blk.1 Try.underlying26 rfl (by kernel_rfl) rfl rfl rfl ?_
    rw [E.out]
    exact ⟨none, 0, none, 0, rfl, OwnB.nilI (OwnB.nilI h9.drop.drop.drop.drop.drop)⟩
  have q1 : decide ((b.length : Int) < (n : Int)) = false := decide_eq_false (by omega)
  have q2 : decide (b.length < n) = false := decide_eq_false ln
  have hM := Sat.front [_, _] h8
  unfold frO at hM
  obtain ⟨m0, m1, m2, m3, m4, m5, m6, m7, m8⟩ := hM.cells9
  have hMy := ref_MayFrame (w := wc) f a z c k ⟨hip, hda, hnm⟩
  obtain ⟨mb, hmb⟩ : ∃ mb, f.may = mb := ⟨_, rfl⟩
  rw [hmb] at hMy
  unfold frV at hMy
  have HMy := hid_ hMy
  have hE := hD.out
  unfold chkF at hE
  rw [if_neg ln, hmb] at hE
  have HE := hid_ hE
  clear hMy hmb hE ln hD
  go_wp2_with fail
  refine HMy.out.mono ?_
  rintro _ w5 ⟨rfl, hb5⟩
  have hX := h8.under hb5
  clear hM m0 m1 m2 m3 m4 m5 m6 m7 m8 hip hda HMy
  cases mb
  · have E := hid_ (HE.out.trans (if_pos rfl))
    clear HE h8 hb5
    have hz := Sat.front [_, _, _] hX
    have hg := Sat.front [_, _, _, _] hX
    unfold frZ at hz hg
    obtain ⟨z0, z1, z2, z3, z4, z5, z6, z7, z8⟩ := hz.cells9
    obtain ⟨r0, r1, r2, r3, r4, r5, r6, r7, r8⟩ := hg.cells9
    obtain ⟨f0, f1, f2, f3, f4, f5, f6, f7, f8⟩ := hg.frz9
    go_wp2_with fail
    have h9 := hg.fr9 (u0 := .int .i64 0) (u1 := .int .i64 0) (u2 := .int .i64 0) (u3 := .int .i64 0) (u4 := .int .i64 0) (u5 := .slice none 0 0) (u6 := .string ⟨#[]⟩) (u7 := .int .i64 0) (u8 := .slice none 0 0)
    refine post_cell9b (p := 2) (q := 3) (r := 4) (ty := 26) rfl rfl h9.blk.1 Try.underlying26 rfl (by kernel_rfl) rfl rfl rfl ?_
    rw [E.out]
    exact ⟨none, 0, none, 0, rfl, OwnB.nilI (OwnB.nilI h9.drop.drop.drop.drop.drop)⟩
  have E := HE.out.trans (if_neg (by decide))
  clear HE h8 hb5
  have hM := Sat.front [_, _] hX
  have hg := Sat.front [_, _, _, _] hX
  unfold frO at hM
  unfold frZ at hg
  obtain ⟨m0, m1, m2, m3, m4, m5, m6, m7, m8⟩ := hM.cells9
  obtain ⟨r0, r1, r2, r3, r4, r5, r6, r7, r8⟩ := hg.cells9
  obtain ⟨f0, f1, f2, f3, f4, f5, f6, f7, f8⟩ := hg.frz9
  go_wp2_with fail
  have h9 := hg.fr9 (u0 := .int .i64 f.kind) (u1 := .int .i64 f.stream) (u2 := .int .i64 f.code) (u3 := .int .i64 f.n) (u4 := .int .i64 f.addr.kind) (u5 := .slice a f.addr.ip.length c) (u6 := .string f.addr.name) (u7 := .int .i64 f.addr.port) (u8 := .slice z f.data.length k)
  refine post_cell9b (p := 2) (q := 3) (r := 4) (ty := 26) rfl rfl h9.blk.1 Try.underlying26 rfl (by kernel_rfl) rfl rfl rfl ?_
  rw [E]
  exact ⟨a, c, z, k, rfl, (Sat.front [_, _] (Sat.front [_, _, _] h9.drop).drop).drop⟩
end
end Go.Proofs.Ytlkkmnbglememaa
