/- Same addresses, same frames; frames that may be: walked. -/
import Derived.Test.YtkejadhkebjdcaaAddrW
import Derived.Test.YtkejadhkebjdcaaEqW
namespace Go.Proofs.Ytkejadhkebjdcaa
open Go Go.RowKit
set_option linter.unusedVariables false
set_option linter.unusedSimpArgs false

def adC (a : AdM) (ip : Value) : Value := .agg #[.int .i64 a.kind, ip, .string a.name, .int .i64 a.port]
def sameAd (a b : AdM) : Bool := a.kind == b.kind && a.ip == b.ip && a.name.data.toList == b.name.data.toList && a.port == b.port

section
variable {w0 w : World} {L : List Assn}
theorem equal_below (v v' : Value) (a b : List UInt8) (ha : RdB w v a) (hb : RdB w v' b) :
    Calls Try.prog 80 #[v, v'] w fun e w' => e = .returned (.bool (a == b)) ∧ Below w.heap.size w w' :=
  (equal_bytes v v' a b ha hb).mono fun e w' ⟨h1, n, h2⟩ => ⟨h1, by rw [h2]; exact ⟨rfl, rfl, rfl, Nat.le_refl _, fun _ _ => rfl⟩⟩

set_option maxRecDepth 100000 in
set_option maxHeartbeats 1000000 in
theorem addr_Same (a b : AdM) (x y : Option Addr) (c d : Nat) (ha : RdB w (.slice x a.ip.length c) a.ip) (hb : RdB w (.slice y b.ip.length d) b.ip) :
    Calls Try.prog 79 #[adC a (.slice x a.ip.length c), adC b (.slice y b.ip.length d)] w fun e w' => e = .returned (.bool (sameAd a b)) ∧ Below w.heap.size w w' := by
  unfold adC
  have hA : ∀ o p, Sat w ((w.alloc o).alloc p) (Blk (w.heap.size + 1) p :: Blk w.heap.size o :: []) := fun o p => (Sat.refl w).alloc2 o p
  have hB : ∀ o p, Below w.heap.size w ((w.alloc o).alloc p) := fun o p => (hA o p).below
  by_cases hk : a.kind = b.kind
  · have hkb : (a.kind == b.kind) = true := by simp [hk]
    have e1 := hid_ (show sameAd a b = (a.ip == b.ip && a.name.data.toList == b.name.data.toList && a.port == b.port) by unfold sameAd; rw [hkb]; simp)
    clear hk
    go_enter Try.func79, Try.ntmps79
    go_wp2_with fail
    refine (equal_below _ _ a.ip b.ip (ha.mono (hB _ _)) (hb.mono (hB _ _))).mono ?_
    rintro _ w1 ⟨rfl, h1⟩
    have h2 := (hA _ _).under h1
    clear h1
    have c1 : w1.cell? ⟨w.heap.size + 1, 2, none⟩ = some (.string b.name) := h2.cell 2 rfl
    have c2 : w1.cell? ⟨w.heap.size, 2, none⟩ = some (.string a.name) := h2.drop.cell 2 rfl
    have c3 : w1.cell? ⟨w.heap.size + 1, 3, none⟩ = some (.int .i64 b.port) := h2.cell 3 rfl
    have c4 : w1.cell? ⟨w.heap.size, 3, none⟩ = some (.int .i64 a.port) := h2.drop.cell 3 rfl
    cases hip : a.ip == b.ip
    all_goals
      have HIP := hid_ hip
      clear hip
      go_wp2
      all_goals
        go_ret
        exact ⟨ret_bool (by rw [e1.out, HIP.out]; (try simp only [ByteArray.toList_eq] at *); simp_all), h2.below⟩
  · have hkb : (a.kind == b.kind) = false := by simp [hk]
    have e1 := hid_ (show sameAd a b = false by unfold sameAd; rw [hkb]; simp)
    clear hk
    go_enter Try.func79, Try.ntmps79
    go_wp2
    all_goals
      go_ret
      exact ⟨ret_bool e1.out.symm, hB _ _⟩

theorem frame_in (n a b : Int) : Calls Try.prog 62 #[.int .i64 n, .int .i64 a, .int .i64 b] w fun e w' => e = .returned (.bool (decide (a ≤ n) && decide (n ≤ b))) ∧ w = w' := by
  go_enter Try.func62, Try.ntmps62
  go_wp2
  all_goals
    go_ret
    exact ⟨ret_bool (by rw [Bool.eq_iff_iff]; simp; try omega), rfl⟩

def frV (f : FrM) (ip d : Value) : Value := .agg #[.int .i64 f.kind, .int .i64 f.stream, .int .i64 f.code, .int .i64 f.n, .int .i64 f.addr.kind, ip, .string f.addr.name, .int .i64 f.addr.port, d]
def sameFr (f g : FrM) : Bool := f.kind == g.kind && f.stream == g.stream && f.code == g.code && f.n == g.n && sameAd f.addr g.addr && f.data == g.data

set_option maxRecDepth 100000 in
set_option maxHeartbeats 2000000 in
theorem frame_Same (f g : FrM) (x y z u : Option Addr) (c d k l : Nat) (ha : RdB w (.slice x f.addr.ip.length c) f.addr.ip) (hb : RdB w (.slice y g.addr.ip.length d) g.addr.ip)
    (hc : RdB w (.slice z f.data.length k) f.data) (hd : RdB w (.slice u g.data.length l) g.data) :
    Calls Try.prog 64 #[frV f (.slice x f.addr.ip.length c) (.slice z f.data.length k), frV g (.slice y g.addr.ip.length d) (.slice u g.data.length l)] w fun e w' => e = .returned (.bool (sameFr f g)) ∧ Below w.heap.size w w' := by
  unfold frV
  have hA : ∀ o p, Sat w ((w.alloc o).alloc p) (Blk (w.heap.size + 1) p :: Blk w.heap.size o :: []) := fun o p => (Sat.refl w).alloc2 o p
  have hB : ∀ o p, Below w.heap.size w ((w.alloc o).alloc p) := fun o p => (hA o p).below
  by_cases hk : f.kind = g.kind ∧ f.stream = g.stream ∧ f.code = g.code ∧ f.n = g.n
  · obtain ⟨k1, k2, k3, k4⟩ := hk
    have b1 : (f.kind == g.kind) = true := by simp [k1]
    have b2 : (f.stream == g.stream) = true := by simp [k2]
    have b3 : (f.code == g.code) = true := by simp [k3]
    have b4 : (f.n == g.n) = true := by simp [k4]
    have e1 := hid_ (show sameFr f g = (sameAd f.addr g.addr && f.data == g.data) by unfold sameFr; rw [b1, b2, b3, b4]; simp)
    clear k1 k2 k3 k4
    go_enter Try.func64, Try.ntmps64
    go_wp2_with fail
    refine (addr_Same f.addr g.addr x y c d (ha.mono (hB _ _)) (hb.mono (hB _ _))).mono ?_
    rintro _ w1 ⟨rfl, h1⟩
    have h2 := (hA _ _).under h1
    clear h1
    have c1 : w1.cell? ⟨w.heap.size + 1, 8, none⟩ = some (.slice u g.data.length l) := h2.cell 8 rfl
    have c2 : w1.cell? ⟨w.heap.size, 8, none⟩ = some (.slice z f.data.length k) := h2.drop.cell 8 rfl
    cases hip : sameAd f.addr g.addr
    · have HIP := hid_ hip
      clear hip
      go_wp2
      go_ret
      exact ⟨ret_bool (by rw [e1.out, HIP.out]; rfl), h2.below⟩
    · have HIP := hid_ hip
      clear hip
      go_wp2_with fail
      refine (equal_below _ _ f.data g.data (hc.mono h2.below) (hd.mono h2.below)).mono ?_
      rintro _ w3 ⟨rfl, h3⟩
      go_wp2_with fail
      go_ret
      exact ⟨ret_bool (by rw [e1.out, HIP.out]; simp), (h2.under h3).below⟩
  · have e1 := hid_ (show sameFr f g = false by unfold sameFr; rw [Bool.eq_false_iff]; simp; intro a1 a2 a3 a4; exact absurd ⟨a1, a2, a3, a4⟩ hk)
    cases b1 : (f.kind == g.kind)
    all_goals cases b2 : (f.stream == g.stream)
    all_goals cases b3 : (f.code == g.code)
    all_goals cases b4 : (f.n == g.n)
    all_goals first
      | (exfalso; simp only [beq_iff_eq] at b1 b2 b3 b4; exact hk ⟨b1, b2, b3, b4⟩)
      | (clear hk
         go_enter Try.func64, Try.ntmps64
         go_wp2
         all_goals
           go_ret
           exact ⟨ret_bool e1.out.symm, hB _ _⟩)
end
end Go.Proofs.Ytkejadhkebjdcaa
