/- The document's SameAddr, SameFrame, walked. -/
import Derived.Test.YtkejadhkebjdcaaSameW
namespace Go.Proofs.Ytkejadhkebjdcaa
open Go Go.RowKit
set_option linter.unusedVariables false
set_option linter.unusedSimpArgs false
section
variable {w0 w : World} {L : List Assn}

set_option maxRecDepth 100000 in
set_option maxHeartbeats 1000000 in
theorem ref_SameAddr (a b : AdM) (x y : Option Addr) (c d : Nat) (ha : RdB w (.slice x a.ip.length c) a.ip) (hb : RdB w (.slice y b.ip.length d) b.ip) :
    Calls Try.prog 71 #[adC a (.slice x a.ip.length c), adC b (.slice y b.ip.length d)] w fun e w' => e = .returned (.bool (sameAd a b)) ∧ Below w.heap.size w w' := by
  unfold adC
  have hA : ∀ o p, Sat w ((w.alloc o).alloc p) (Blk (w.heap.size + 1) p :: Blk w.heap.size o :: []) := fun o p => (Sat.refl w).alloc2 o p
  have hB : ∀ o p, Below w.heap.size w ((w.alloc o).alloc p) := fun o p => (hA o p).below
  have ka : ∀ o p, (convert 37 9 (.slice x a.ip.length c)).run Try.prog ((w.alloc o).alloc p) = .ok (.string (strOf a.ip)) ((w.alloc o).alloc p) := fun o p => conv_rd (P := Try.prog) (dst := 9) Try.underlying37 Try.underlying5 Try.underlying9 (ha.mono (hB _ _))
  have kb : ∀ o p, (convert 37 9 (.slice y b.ip.length d)).run Try.prog ((w.alloc o).alloc p) = .ok (.string (strOf b.ip)) ((w.alloc o).alloc p) := fun o p => conv_rd (P := Try.prog) (dst := 9) Try.underlying37 Try.underlying5 Try.underlying9 (hb.mono (hB _ _))
  have e1 := hid_ (show sameAd a b = (a.kind == b.kind && (strOf a.ip).data.toList == (strOf b.ip).data.toList && a.name.data.toList == b.name.data.toList && a.port == b.port) by unfold sameAd; rw [strOf_toList, strOf_toList])
  go_enter Try.func71, Try.ntmps71
  go_wp2
  all_goals
    go_ret
    exact ⟨ret_bool (by rw [e1.out]; (try simp only [ByteArray.toList_eq] at *); simp_all), hB _ _⟩
set_option maxRecDepth 100000 in
set_option maxHeartbeats 2000000 in
theorem ref_SameFrame (f g : FrM) (x y z u : Option Addr) (c d k l : Nat) (ha : RdB w (.slice x f.addr.ip.length c) f.addr.ip) (hb : RdB w (.slice y g.addr.ip.length d) g.addr.ip)
    (hc : RdB w (.slice z f.data.length k) f.data) (hd : RdB w (.slice u g.data.length l) g.data) :
    Calls Try.prog 50 #[frV f (.slice x f.addr.ip.length c) (.slice z f.data.length k), frV g (.slice y g.addr.ip.length d) (.slice u g.data.length l)] w fun e w' => e = .returned (.bool (sameFr f g)) ∧ Below w.heap.size w w' := by
  unfold frV
  have hA : ∀ o p, Sat w ((w.alloc o).alloc p) (Blk (w.heap.size + 1) p :: Blk w.heap.size o :: []) := fun o p => (Sat.refl w).alloc2 o p
  have hB : ∀ o p, Below w.heap.size w ((w.alloc o).alloc p) := fun o p => (hA o p).below
  by_cases hk : f.kind = g.kind ∧ f.stream = g.stream ∧ f.code = g.code ∧ f.n = g.n
  · obtain ⟨k1, k2, k3, k4⟩ := hk
    have b1 : (f.kind == g.kind) = true := by simp [k1]
    have b2 : (f.stream == g.stream) = true := by simp [k2]
    have b3 : (f.code == g.code) = true := by simp [k3]
    have b4 : (f.n == g.n) = true := by simp [k4]
    have e1 := hid_ (show sameFr f g = (sameAd f.addr g.addr && (strOf f.data).data.toList == (strOf g.data).data.toList) by unfold sameFr; rw [b1, b2, b3, b4, strOf_toList, strOf_toList]; simp)
    clear k1 k2 k3 k4
    go_enter Try.func50, Try.ntmps50
    go_wp2_with fail
    refine (ref_SameAddr f.addr g.addr x y c d (ha.mono (hB _ _)) (hb.mono (hB _ _))).mono ?_
    rintro _ w1 ⟨rfl, h1⟩
    have h2 := (hA _ _).under h1
    clear h1
    have c1 : w1.cell? ⟨w.heap.size + 1, 8, none⟩ = some (.slice u g.data.length l) := h2.cell 8 rfl
    have c2 : w1.cell? ⟨w.heap.size, 8, none⟩ = some (.slice z f.data.length k) := h2.drop.cell 8 rfl
    have ka : (convert 37 9 (.slice z f.data.length k)).run Try.prog w1 = .ok (.string (strOf f.data)) w1 := conv_rd (P := Try.prog) (dst := 9) Try.underlying37 Try.underlying5 Try.underlying9 (hc.mono h2.below)
    have kb : (convert 37 9 (.slice u g.data.length l)).run Try.prog w1 = .ok (.string (strOf g.data)) w1 := conv_rd (P := Try.prog) (dst := 9) Try.underlying37 Try.underlying5 Try.underlying9 (hd.mono h2.below)
    cases hip : sameAd f.addr g.addr
    all_goals
      have HIP := hid_ hip
      clear hip
      go_wp2
      go_ret
      exact ⟨ret_bool (by rw [e1.out, HIP.out]; (try simp only [ByteArray.toList_eq] at *); simp_all), h2.below⟩
  · have e1 := hid_ (show sameFr f g = false by unfold sameFr; rw [Bool.eq_false_iff]; simp; intro a1 a2 a3 a4; exact absurd ⟨a1, a2, a3, a4⟩ hk)
    cases b1 : (f.kind == g.kind)
    all_goals cases b2 : (f.stream == g.stream)
    all_goals cases b3 : (f.code == g.code)
    all_goals cases b4 : (f.n == g.n)
    all_goals first
      | (exfalso; simp only [beq_iff_eq] at b1 b2 b3 b4; exact hk ⟨b1, b2, b3, b4⟩)
      | (clear hk
         go_enter Try.func50, Try.ntmps50
         go_wp2
         all_goals
           go_ret
           exact ⟨ret_bool e1.out.symm, hB _ _⟩)
end
end Go.Proofs.Ytkejadhkebjdcaa
