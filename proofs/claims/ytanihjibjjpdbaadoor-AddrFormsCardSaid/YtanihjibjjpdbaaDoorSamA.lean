/- addr.Same, walked (as in SameW, over RefSa's words); a cut s[n:] of bytes. -/
import Derived.Test.YtanihjibjjpdbaaDoorRefSa
import Derived.Test.YtanihjibjjpdbaaDoorEqW
import Derived.Test.YtanihjibjjpdbaaDoorAdB
namespace Go.Proofs.YtanihjibjjpdbaaDoor
open Go Go.RowKit
set_option linter.unusedVariables false
set_option linter.unusedSimpArgs false
section
variable {w0 w : World} {L : List Assn}
theorem equal_below (v v' : Value) (a b : List UInt8) (ha : RdB w v a) (hb : RdB w v' b) :
    Calls Tryd.prog 20 #[v, v'] w fun e w' => e = .returned (.bool (a == b)) ∧ Below w.heap.size w w' :=
  (equal_bytes v v' a b ha hb).mono fun e w' ⟨h1, n, h2⟩ => ⟨h1, by rw [h2]; exact ⟨rfl, rfl, rfl, Nat.le_refl _, fun _ _ => rfl⟩⟩

set_option maxRecDepth 100000 in
set_option maxHeartbeats 1000000 in
theorem addr_Same (a b : AdM) (x y : Option Addr) (c d : Nat) (ha : RdB w (.slice x a.ip.length c) a.ip) (hb : RdB w (.slice y b.ip.length d) b.ip) :
    Calls Tryd.prog 11 #[adC a (.slice x a.ip.length c), adC b (.slice y b.ip.length d)] w fun e w' => e = .returned (.bool (sameAd a b)) ∧ Below w.heap.size w w' := by
  unfold adC
  have hA : ∀ o p, Sat w ((w.alloc o).alloc p) (Blk (w.heap.size + 1) p :: Blk w.heap.size o :: []) := fun o p => (Sat.refl w).alloc2 o p
  have hB : ∀ o p, Below w.heap.size w ((w.alloc o).alloc p) := fun o p => (hA o p).below
  by_cases hk : a.kind = b.kind
  · have hkb : (a.kind == b.kind) = true := by simp [hk]
    have e1 := hid_ (show sameAd a b = (a.ip == b.ip && a.name.data.toList == b.name.data.toList && a.port == b.port) by unfold sameAd; rw [hkb]; simp)
    clear hk
    go_enter Tryd.func11, Tryd.ntmps11
    go_wp2_with fail
    refine (equal_below _ _ a.ip b.ip (ha.mono (hB _ _)) (hb.mono (hB _ _))).mono ?_
    rintro _ w1 ⟨rfl, h1⟩
    have h2 := (hA _ _).under h1
    clear h1
    have c1 : w1.cell? ⟨w.heap.size + 1, 2, none⟩ = some (.string b.name) := h2.cell 2 rfl
    have c2 : w1.cell? ⟨w.heap.size, 2, none⟩ = some (.string a.name) := h2.drop.cell 2 rfl
    have c3 : w1.cell? ⟨w.heap.size + 1, 3, none⟩ = some (.int .i64 b.port) := h2.cell 3 rfl
    have c4 : w1.cell? ⟨w.heap.size, 3, none⟩ = some (.int .i64 a.port) := h2.drop.cell 3 rfl
    cases hip : a.ip == b.ip
    all_goals
      have HIP := hid_ hip
      clear hip
      go_wp2
      all_goals
        go_ret
        exact ⟨ret_bool (by rw [e1.out, HIP.out]; (try simp only [ByteArray.toList_eq] at *); simp_all), h2.below⟩
  · have hkb : (a.kind == b.kind) = false := by simp [hk]
    have e1 := hid_ (show sameAd a b = false by unfold sameAd; rw [hkb]; simp)
    clear hk
    go_enter Tryd.func11, Tryd.ntmps11
    go_wp2
    all_goals
      go_ret
      exact ⟨ret_bool e1.out.symm, hB _ _⟩

theorem slc_from {b o len c n : Nat} {ni : Int} (hni : ni = (n : Int)) (h : n ≤ len) (hc : len ≤ c) (hm : c ≤ maxLen) :
    ∃ V, (∀ W : World, (Instr.slice 23 (.slice (some ⟨b, o, none⟩) len c) (some (.int .i64 ni)) none none).run Tryd.prog W = .ok V W) ∧
      ∀ (W : World) (l : List UInt8), l.length = len → RdB W (.slice (some ⟨b, o, none⟩) len c) l → RdB W V (l.drop n) := by
  subst hni
  have e : Tryd.prog.elem 23 = 5 := rfl
  have hs : ∀ W : World, (sizeOf 5).run Tryd.prog W = .ok 1 W := fun W => by kernel_rfl
  by_cases h1 : n = c
  · refine ⟨.slice (some ⟨b, o, none⟩) 0 0, fun W => ?_, fun W l hl hr => ?_⟩
    · rw [run_slice_l (P := Tryd.prog) (w := W) (t := 23) (ht := Tryd.underlying23) (h0 := by omega) (h1 := by omega), e, hs]
      simp only [Result.andThen_ok]
      unfold sliced
      rw [Int.toNat_natCast, if_pos h1.symm, h1, Nat.sub_self, Nat.sub_eq_zero_of_le hc]
    · have : l.drop n = [] := List.drop_eq_nil_iff.2 (by omega)
      rw [this]
      exact RdB.emp (Nat.zero_le _)
  · refine ⟨.slice (some ⟨b, o + n, none⟩) (len - n) (c - n), fun W => ?_, fun W l hl hr => ?_⟩
    · rw [run_slice_l (P := Tryd.prog) (w := W) (t := 23) (ht := Tryd.underlying23) (h0 := by omega) (h1 := by omega), e, hs]
      simp only [Result.andThen_ok]
      unfold sliced
      rw [Int.toNat_natCast, if_neg (fun h => h1 h.symm), Nat.mul_one, Option.map_some, addr_add]
    · subst hl
      have h2 := RdB.cut (lo := n) (hi := l.length) hr h (Nat.le_refl _)
      rw [List.take_of_length_le (by rw [List.length_drop]; exact Nat.le_refl _)] at h2
      exact h2

end
end Go.Proofs.YtanihjibjjpdbaaDoor
