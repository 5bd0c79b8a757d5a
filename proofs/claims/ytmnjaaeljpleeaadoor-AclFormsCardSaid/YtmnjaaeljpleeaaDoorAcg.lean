/- The law AclForms, walked. -/
import Derived.Deep.RegionHeld3
import Derived.Deep.RegionLaw
import Derived.Deep.DeepCutAuto
import Derived.BigQuiet
import Derived.Test.YtmnjaaeljpleeaaDoorRux
import Derived.Test.YtmnjaaeljpleeaaDoorAclU
import Derived.Test.YtmnjaaeljpleeaaDoorOpnA
namespace Go.Proofs.YtmnjaaeljpleeaaDoor
open Go Go.RowKit
set_option linter.unusedVariables false
set_option linter.unusedSimpArgs false
section
variable {w0 w : World} {L : List Assn}
theorem str_ne_self (X : ByteArray) : (X.toList != X.toList) = false := by simp
set_option maxRecDepth 100000 in
set_option maxHeartbeats 8000000 in
theorem acl_forms_law (v u : Value) (w : World) (ht : TabOk w) (hz : TzOk w) (hv : IsRules w v) (hu : IsAddr w u) :
    Calls Tryd.prog 3 #[v, u] w fun e w' => e = .returned (.bool true) ∧ Below w.heap.size w w' := by
  obtain ⟨la, cap, rs, rfl, hr⟩ := hv
  obtain ⟨a, y, d, rfl, ha⟩ := hu
  obtain ⟨n, hn⟩ : ∃ n, rs.length = n := ⟨_, rfl⟩
  have HN := hid_ hn
  have hle := hr.le
  have hcap := hr.cap
  unfold maxLen at hcap
  have hLt := acl_light (w := w.alloc (.cells #[.int .i64 a.kind, .slice y a.ip.length d, .string a.name, .int .i64 a.port] 25 (0, 0))) la cap rs a y d (hr.mono ((Below.refl _ _).alloc (Nat.le_refl _) _)) (ha.mono ((Below.refl _ _).alloc (Nat.le_refl _) _))
  rw [hn] at hLt hle ⊢
  unfold adA at hLt ⊢
  have hs := (Sat.refl w).alloc (.cells #[.int .i64 a.kind, .slice y a.ip.length d, .string a.name, .int .i64 a.port] 25 (0, 0))
  obtain ⟨ga, hga⟩ : ∃ ga, w.heap.size = ga := ⟨_, rfl⟩
  have HGA := hid_ hga
  clear hn
  go_enter Tryd.func3, Tryd.ntmps3
  go_wp2_with fail
  refine hLt.mono ?_
  rintro _ w1 ⟨b, rfl, _, hb1⟩
  have h1 := hs.under hb1
  rw [hga] at h1
  clear hLt hs hb1 hga
  cases b
  · go_wp2_with fail
    refine (acl_awake h1).mono ?_
    rintro _ w2 ⟨rfl, h2⟩
    go_wp2_with fail
    go_ret
    exact ⟨rfl, h2.below⟩
  go_wp2_with fail
  go_loopg [6, 14] n (fun gg _ v14 wr => ∃ i : Nat, i ≤ n ∧ n - i ≤ gg ∧ v14 = .int .i64 i ∧ Sat w wr [Blk ga (.cells #[.int .i64 a.kind, .slice y a.ip.length d, .string a.name, .int .i64 a.port] 25 (0, 0))])
  case atStart => exact ⟨0, Nat.zero_le _, by omega, rfl, h1⟩
  case round =>
    obtain ⟨i, hi, hgg, rfl, h2⟩ := hrel
    clear h1
    by_cases hlt : i < n
    · obtain ⟨r, hri⟩ : ∃ r, rs[i]? = some r := ⟨_, List.getElem?_eq_getElem (by rw [HN.out]; exact hlt)⟩
      obtain ⟨b, off, x, c, rfl, hb, hc, hru⟩ := hr.at_ i r hri
      have hcell : ∀ j u, (ruC r (.slice x r.net.length c))[j]? = some u → wr.cell? ⟨b, off + i * 7 + j, none⟩ = some u := fun j u hj => (h2.below.cell (p := ⟨b, off + i * 7 + j, none⟩) hb).trans (hc j u hj)
      have r0 : wr.cell? ⟨b, off + i * 7, none⟩ = some (.int .i64 r.kind) := hcell 0 _ rfl
      have r1 : wr.cell? ⟨b, off + i * 7 + 1, none⟩ = some (.bool r.allow) := hcell 1 _ rfl
      have r2 : wr.cell? ⟨b, off + i * 7 + 2, none⟩ = some (.slice x r.net.length c) := hcell 2 _ rfl
      have r3 : wr.cell? ⟨b, off + i * 7 + 3, none⟩ = some (.int .i64 r.bits) := hcell 3 _ rfl
      have r4 : wr.cell? ⟨b, off + i * 7 + 4, none⟩ = some (.string r.name) := hcell 4 _ rfl
      have r5 : wr.cell? ⟨b, off + i * 7 + 5, none⟩ = some (.int .i64 r.low) := hcell 5 _ rfl
      have r6 : wr.cell? ⟨b, off + i * 7 + 6, none⟩ = some (.int .i64 r.high) := hcell 6 _ rfl
      have h3 := h2.alloc (.cells #[.int .i64 r.kind, .bool r.allow, .slice x r.net.length c, .int .i64 r.bits, .string r.name, .int .i64 r.low, .int .i64 r.high] 29 (0, 0))
      obtain ⟨gr, hgr⟩ : ∃ gr, wr.heap.size = gr := ⟨_, rfl⟩
      rw [hgr] at h3
      obtain ⟨LL, hLL⟩ : ∃ LL, [Blk gr (.cells #[.int .i64 r.kind, .bool r.allow, .slice x r.net.length c, .int .i64 r.bits, .string r.name, .int .i64 r.low, .int .i64 r.high] 29 (0, 0)), Blk ga (.cells #[.int .i64 a.kind, .slice y a.ip.length d, .string a.name, .int .i64 a.port] 25 (0, 0))] = LL := ⟨_, rfl⟩
      have hS : ∀ W, Sat w W LL → (W.cell? ⟨gr, 0, none⟩ = some (.int .i64 r.kind) ∧ W.cell? ⟨gr, 1, none⟩ = some (.bool r.allow) ∧ W.cell? ⟨gr, 2, none⟩ = some (.slice x r.net.length c) ∧ W.cell? ⟨gr, 3, none⟩ = some (.int .i64 r.bits) ∧ W.cell? ⟨gr, 4, none⟩ = some (.string r.name) ∧ W.cell? ⟨gr, 5, none⟩ = some (.int .i64 r.low) ∧ W.cell? ⟨gr, 6, none⟩ = some (.int .i64 r.high) ∧ W.cell? ⟨ga, 0, none⟩ = some (.int .i64 a.kind) ∧ W.cell? ⟨ga, 1, none⟩ = some (.slice y a.ip.length d) ∧ W.cell? ⟨ga, 2, none⟩ = some (.string a.name) ∧ W.cell? ⟨ga, 3, none⟩ = some (.int .i64 a.port)) := by
        intro W hW
        rw [← hLL] at hW
        have hW2 := hW.drop
        exact ⟨hW.cell 0 rfl, hW.cell 1 rfl, hW.cell 2 rfl, hW.cell 3 rfl, hW.cell 4 rfl, hW.cell 5 rfl, hW.cell 6 rfl, hW2.cell 0 rfl, hW2.cell 1 rfl, hW2.cell 2 rfl, hW2.cell 3 rfl⟩
      have hD : ∀ W, Sat w W LL → Sat w W [Blk ga (.cells #[.int .i64 a.kind, .slice y a.ip.length d, .string a.name, .int .i64 a.port] 25 (0, 0))] := by
        intro W hW
        rw [← hLL] at hW
        exact hW.drop
      rw [hLL] at h3
      obtain ⟨mb, hmb⟩ : ∃ mb, r.may = mb := ⟨_, rfl⟩
      obtain ⟨hb2, hhb⟩ : ∃ hb2, r.hit a = hb2 := ⟨_, rfl⟩
      obtain ⟨tx, htx⟩ : ∃ tx, strOf (txtR r) = tx := ⟨_, rfl⟩
      have A1 : ∀ W, Sat w W LL → Calls Tryd.prog 6 #[.agg #[.int .i64 r.kind, .bool r.allow, .slice x r.net.length c, .int .i64 r.bits, .string r.name, .int .i64 r.low, .int .i64 r.high]] W fun e w' => e = .returned (.bool mb) ∧ Sat w w' LL := fun W h => (acl_MayV (hid_ hmb) (hru.mono h.below)).mono (by rintro _ w' ⟨rfl, hb⟩; exact ⟨rfl, h.under hb⟩)
      have A2 : ∀ W, Sat w W LL → Calls Tryd.prog 7 #[.agg #[.int .i64 r.kind, .bool r.allow, .slice x r.net.length c, .int .i64 r.bits, .string r.name, .int .i64 r.low, .int .i64 r.high]] W fun e w' => e = .returned (.bool mb) ∧ Sat w w' LL := fun W h => (ref_MayRuleV (hid_ hmb) (hru.mono h.below)).mono (by rintro _ w' ⟨rfl, hb⟩; exact ⟨rfl, h.under hb⟩)
      have A3 : ∀ W, Sat w W LL → Calls Tryd.prog 8 #[.agg #[.int .i64 r.kind, .bool r.allow, .slice x r.net.length c, .int .i64 r.bits, .string r.name, .int .i64 r.low, .int .i64 r.high], .agg #[.int .i64 a.kind, .slice y a.ip.length d, .string a.name, .int .i64 a.port]] W fun e w' => e = .returned (.bool hb2) ∧ Sat w w' LL := fun W h => (acl_Match r a x y c d (hru.mono h.below) (ha.mono h.below)).mono (by rw [hhb]; rintro _ w' ⟨rfl, hb⟩; exact ⟨rfl, h.under hb⟩)
      have A4 : ∀ W, Sat w W LL → Calls Tryd.prog 9 #[.agg #[.int .i64 r.kind, .bool r.allow, .slice x r.net.length c, .int .i64 r.bits, .string r.name, .int .i64 r.low, .int .i64 r.high], .agg #[.int .i64 a.kind, .slice y a.ip.length d, .string a.name, .int .i64 a.port]] W fun e w' => e = .returned (.bool hb2) ∧ Sat w w' LL := fun W h => (ref_Match W r a x y c d (hru.mono h.below) (ha.mono h.below)).mono (by rw [hhb]; rintro _ w' ⟨rfl, hb⟩; exact ⟨rfl, h.under hb⟩)
      have A5 : ∀ W, Sat w W LL → Calls Tryd.prog 10 #[.agg #[.int .i64 r.kind, .bool r.allow, .slice x r.net.length c, .int .i64 r.bits, .string r.name, .int .i64 r.low, .int .i64 r.high]] W fun e w' => e = .returned (.string tx) ∧ Sat w w' LL := fun W h => (acl_Text r x c ht hz hru h).mono (by rw [htx]; exact fun _ _ h => h)
      have A6 : ∀ W, Sat w W LL → Calls Tryd.prog 11 #[.agg #[.int .i64 r.kind, .bool r.allow, .slice x r.net.length c, .int .i64 r.bits, .string r.name, .int .i64 r.low, .int .i64 r.high]] W fun e w' => e = .returned (.string tx) ∧ Sat w w' LL := fun W h => (ref_RuleText r x c ht hz hru h).mono (by rw [htx]; exact fun _ _ h => h)
      have n1 : (mb != mb) = false := by simp
      have n2 : (hb2 != hb2) = false := by simp
      have n3 := str_ne_self tx
      have z1 : 0 ≤ (i : Int) ∧ (i : Int) < (n : Int) := by omega
      clear hcell hc hri hru hmb hhb htx hLL
      go_upto_region 6 with fail
      have t0 := h3.drew
      go_region_held3 (fun W => W.cell? ⟨gr, 0, none⟩ = some (.int .i64 r.kind) ∧ W.cell? ⟨gr, 1, none⟩ = some (.bool r.allow) ∧ W.cell? ⟨gr, 2, none⟩ = some (.slice x r.net.length c) ∧ W.cell? ⟨gr, 3, none⟩ = some (.int .i64 r.bits) ∧ W.cell? ⟨gr, 4, none⟩ = some (.string r.name) ∧ W.cell? ⟨gr, 5, none⟩ = some (.int .i64 r.low) ∧ W.cell? ⟨gr, 6, none⟩ = some (.int .i64 r.high) ∧ W.cell? ⟨ga, 0, none⟩ = some (.int .i64 a.kind) ∧ W.cell? ⟨ga, 1, none⟩ = some (.slice y a.ip.length d) ∧ W.cell? ⟨ga, 2, none⟩ = some (.string a.name) ∧ W.cell? ⟨ga, 3, none⟩ = some (.int .i64 a.port))
        (first | with_reducible exact hS _ hn | with_reducible exact hS _ t0)
        (first | (go_at_call 6; with_reducible refine (A1 _ ?_).mono ?_; (first | with_reducible exact hn | with_reducible exact t0); rintro _ wn ⟨rfl, hn⟩)
               | (go_at_call 7; with_reducible refine (A2 _ ?_).mono ?_; (first | with_reducible exact hn | with_reducible exact t0); rintro _ wn ⟨rfl, hn⟩)
               | (go_at_call 8; with_reducible refine (A3 _ ?_).mono ?_; (first | with_reducible exact hn | with_reducible exact t0); rintro _ wn ⟨rfl, hn⟩)
               | (go_at_call 9; with_reducible refine (A4 _ ?_).mono ?_; (first | with_reducible exact hn | with_reducible exact t0); rintro _ wn ⟨rfl, hn⟩)
               | (go_at_call 10; with_reducible refine (A5 _ ?_).mono ?_; (first | with_reducible exact hn | with_reducible exact t0); rintro _ wn ⟨rfl, hn⟩)
               | (go_at_call 11; with_reducible refine (A6 _ ?_).mono ?_; (first | with_reducible exact hn | with_reducible exact t0); rintro _ wn ⟨rfl, hn⟩))
      go_wp2_with fail
      go_roundg (n - (i + 1))
      case measure => omega
      case rel => exact ⟨i + 1, by omega, by omega, by go_num, hD _ hn⟩
    · obtain rfl : i = n := by omega
      obtain ⟨LL, hLL⟩ : ∃ LL, [Blk ga (.cells #[.int .i64 a.kind, .slice y a.ip.length d, .string a.name, .int .i64 a.port] 25 (0, 0))] = LL := ⟨_, rfl⟩
      have hS : ∀ W, Sat w W LL → (W.cell? ⟨ga, 0, none⟩ = some (.int .i64 a.kind) ∧ W.cell? ⟨ga, 1, none⟩ = some (.slice y a.ip.length d) ∧ W.cell? ⟨ga, 2, none⟩ = some (.string a.name) ∧ W.cell? ⟨ga, 3, none⟩ = some (.int .i64 a.port)) := by
        intro W hW
        rw [← hLL] at hW
        exact ⟨hW.cell 0 rfl, hW.cell 1 rfl, hW.cell 2 rfl, hW.cell 3 rfl⟩
      rw [hLL] at h2
      obtain ⟨fi, hfi⟩ : ∃ fi, firstM rs a = fi := ⟨_, rfl⟩
      obtain ⟨al, hal⟩ : ∃ al, allowsM rs a = al := ⟨_, rfl⟩
      have A1 : ∀ W, Sat w W LL → Calls Tryd.prog 12 #[.slice la i cap, .agg #[.int .i64 a.kind, .slice y a.ip.length d, .string a.name, .int .i64 a.port]] W fun e w' => e = .returned (.int .i64 fi) ∧ Sat w w' LL := fun W h => by
        have h1 := acl_First la cap rs a y d (hr.mono h.below) (ha.mono h.below)
        rw [HN.out, hfi] at h1
        exact h1.mono (by rintro _ w' ⟨rfl, hb⟩; exact ⟨rfl, h.under hb⟩)
      have A2 : ∀ W, Sat w W LL → Calls Tryd.prog 13 #[.slice la i cap, .agg #[.int .i64 a.kind, .slice y a.ip.length d, .string a.name, .int .i64 a.port]] W fun e w' => e = .returned (.int .i64 fi) ∧ Sat w w' LL := fun W h => by
        have h1 := ref_First ref_Match la cap rs a y d (hr.mono h.below) (ha.mono h.below)
        rw [HN.out, hfi] at h1
        exact h1.mono (by rintro _ w' ⟨rfl, hb⟩; exact ⟨rfl, h.under hb⟩)
      have A3 : ∀ W, Sat w W LL → Calls Tryd.prog 14 #[.slice la i cap, .agg #[.int .i64 a.kind, .slice y a.ip.length d, .string a.name, .int .i64 a.port]] W fun e w' => e = .returned (.bool al) ∧ Sat w w' LL := fun W h => by
        have h1 := acl_Allows la cap rs a y d (hr.mono h.below) (ha.mono h.below)
        rw [HN.out, hal] at h1
        exact h1.mono (by rintro _ w' ⟨rfl, hb⟩; exact ⟨rfl, h.under hb⟩)
      have A4 : ∀ W, Sat w W LL → Calls Tryd.prog 15 #[.slice la i cap, .agg #[.int .i64 a.kind, .slice y a.ip.length d, .string a.name, .int .i64 a.port]] W fun e w' => e = .returned (.bool al) ∧ Sat w w' LL := fun W h => by
        have h1 := ref_Allows ref_Match la cap rs a y d (hr.mono h.below) (ha.mono h.below)
        rw [HN.out, hal] at h1
        exact h1.mono (by rintro _ w' ⟨rfl, hb⟩; exact ⟨rfl, h.under hb⟩)
      have A5 : ∀ W, Sat w W LL → Calls Tryd.prog 5 #[] W fun e w' => e = .returned (.bool true) ∧ Sat w w' LL := fun W h => acl_awake h
      have n1 : (fi == fi) = true := by simp
      have n2 : (al == al) = true := by simp
      clear hfi hal hLL
      go_upto_region 9 with fail
      have t0 := h2.drew
      go_region_held3 (fun W => W.cell? ⟨ga, 0, none⟩ = some (.int .i64 a.kind) ∧ W.cell? ⟨ga, 1, none⟩ = some (.slice y a.ip.length d) ∧ W.cell? ⟨ga, 2, none⟩ = some (.string a.name) ∧ W.cell? ⟨ga, 3, none⟩ = some (.int .i64 a.port))
        (first | with_reducible exact hS _ hn | with_reducible exact hS _ t0)
        (first | (go_at_call 12; with_reducible refine (A1 _ ?_).mono ?_; (first | with_reducible exact hn | with_reducible exact t0); rintro _ wn ⟨rfl, hn⟩)
               | (go_at_call 13; with_reducible refine (A2 _ ?_).mono ?_; (first | with_reducible exact hn | with_reducible exact t0); rintro _ wn ⟨rfl, hn⟩)
               | (go_at_call 14; with_reducible refine (A3 _ ?_).mono ?_; (first | with_reducible exact hn | with_reducible exact t0); rintro _ wn ⟨rfl, hn⟩)
               | (go_at_call 15; with_reducible refine (A4 _ ?_).mono ?_; (first | with_reducible exact hn | with_reducible exact t0); rintro _ wn ⟨rfl, hn⟩)
               | (go_at_call 5; with_reducible refine (A5 _ ?_).mono ?_; (first | with_reducible exact hn | with_reducible exact t0); rintro _ wn ⟨rfl, hn⟩))
      go_wp2_with fail
      go_ret
      exact ⟨rfl, hn.below⟩
end
end Go.Proofs.YtmnjaaeljpleeaaDoor
