/- The document's SameFrames, at lists that are one; walked. -/
import Derived.Deep.RegionHeld3
import Derived.Deep.LoopGhost
import Derived.Test.YtkejadhkebjdcaaRefFr
import Derived.Test.YtkejadhkebjdcaaFrM
namespace Go.Proofs.Ytkejadhkebjdcaa
open Go Go.RowKit
set_option linter.unusedVariables false
set_option linter.unusedSimpArgs false

/-- Frames in memory, read. -/
def RdFs (W : World) (a : Option Addr) (l : List FrM) : Prop := ∀ (i : Nat) (f : FrM), l[i]? = some f → ∃ b o ip d, a = some ⟨b, o, none⟩ ∧ RdFr W b (o + i * 9) f ip d
theorem RdFs.mono {w w' : World} {a : Option Addr} {l : List FrM} (h : RdFs w a l) (hb : Below w.heap.size w w') : RdFs w' a l := fun i f hi => by
  obtain ⟨b, o, ip, d, e, h1⟩ := h i f hi
  exact ⟨b, o, ip, d, e, h1.mono hb⟩
section
variable {w0 w : World} {L : List Assn}
theorem FramesA.rd {a : Option Addr} {n c : Nat} {l : List FrM} (h : Sat w0 w (FramesA (.slice a n c) l :: L)) : RdFs w a l := fun i f hi => FramesA.at2 h hi
theorem sameAd_rfl (a : AdM) : sameAd a a = true := by unfold sameAd; simp
theorem sameFr_rfl (a : FrM) : sameFr a a = true := by unfold sameFr; simp [sameAd_rfl]
abbrev Nine (w : World) (b o : Nat) (f : FrM) (ip d : Value) : Prop :=
  w.cell? ⟨b, o, none⟩ = some (.int .i64 f.kind) ∧ w.cell? ⟨b, o + 1, none⟩ = some (.int .i64 f.stream) ∧ w.cell? ⟨b, o + 2, none⟩ = some (.int .i64 f.code) ∧ w.cell? ⟨b, o + 3, none⟩ = some (.int .i64 f.n) ∧
    w.cell? ⟨b, o + 4, none⟩ = some (.int .i64 f.addr.kind) ∧ w.cell? ⟨b, o + 5, none⟩ = some ip ∧ w.cell? ⟨b, o + 6, none⟩ = some (.string f.addr.name) ∧ w.cell? ⟨b, o + 7, none⟩ = some (.int .i64 f.addr.port) ∧ w.cell? ⟨b, o + 8, none⟩ = some d
set_option maxRecDepth 100000 in
set_option maxHeartbeats 2000000 in
theorem ref_SameFrames {a b : Option Addr} {n c d : Nat} {l : List FrM} (hn : l.length = n) (hm : n ≤ maxLen) (ha : RdFs w a l) (hb : RdFs w b l) :
    Calls Try.prog 23 #[.slice a n c, .slice b n d] w fun e w' => e = .returned (.bool true) ∧ Below w.heap.size w w' := by
  unfold maxLen at hm
  have HN := hid_ hn
  clear hn
  go_enter Try.func23, Try.ntmps23
  go_wp2_with fail
  go_loopg [13] n (fun gg v13 wr => ∃ i : Nat, i ≤ n ∧ n - i ≤ gg ∧ v13 = .int .i64 i ∧ Below w.heap.size w wr ∧ RdFs w a l ∧ RdFs w b l)
  case atStart => exact ⟨0, Nat.zero_le _, by omega, rfl, Below.refl _ _, ha, hb⟩
  case round =>
    obtain ⟨i, hi, hgg, rfl, hbl, ha, hb⟩ := hrel
    by_cases hlt : i < n
    · obtain ⟨f, hf⟩ : ∃ f, l[i]? = some f := ⟨_, List.getElem?_eq_getElem (by rw [HN.out]; exact hlt)⟩
      obtain ⟨b1, o1, i1, d1, rfl, g1⟩ := ha.mono hbl i f hf
      obtain ⟨b2, o2, i2, d2, rfl, g2⟩ := hb.mono hbl i f hf
      obtain ⟨a3, c3, rfl, -, -, -⟩ := g1.ip.form
      obtain ⟨a4, c4, rfl, -, -, -⟩ := g1.data.form
      obtain ⟨a5, c5, rfl, -, -, -⟩ := g2.ip.form
      obtain ⟨a6, c6, rfl, -, -, -⟩ := g2.data.form
      have x := g1.nine
      have y := g2.nine
      have hS := ref_SameFrame (w := wr.drew) f f a3 a5 a4 a6 c3 c5 c4 c6 (g1.mono (Below.refl _ _).drew).ip (g2.mono (Below.refl _ _).drew).ip (g1.mono (Below.refl _ _).drew).data (g2.mono (Below.refl _ _).drew).data
      rw [sameFr_rfl] at hS
      unfold frV at hS
      have HS := hid_ hS
      have z1 : 0 ≤ (i : Int) ∧ (i : Int) < (n : Int) := by omega
      have HA := hid_ ha
      have HB := hid_ hb
      have G1 := hid_ g1
      have G2 := hid_ g2
      clear hS hf g1 g2 ha hb
      go_wp2_with fail
      go_region_held3 (fun w' => Nine w' b1 (o1 + i * 9) f (.slice a3 f.addr.ip.length c3) (.slice a4 f.data.length c4) ∧ Nine w' b2 (o2 + i * 9) f (.slice a5 f.addr.ip.length c5) (.slice a6 f.data.length c6))
        (first | exact ⟨x, y⟩ | exact ⟨(G1.out.mono ((Below.refl _ _).drew.trans hb5)).nine, (G2.out.mono ((Below.refl _ _).drew.trans hb5)).nine⟩)
        (first | (go_at_call 50; refine HS.out.mono ?_; rintro _ w5 ⟨rfl, hb5⟩))
      have hb6 : Below w.heap.size w w5 := hbl.drew.trans (hb5.mono hbl.size)
      go_wp2_with fail
      go_roundg (n - (i + 1))
      case measure => omega
      case rel => exact ⟨i + 1, by omega, by omega, by go_num, hb6, HA.out, HB.out⟩
    · obtain rfl : i = n := by omega
      go_wp2_with fail
      go_ret
      exact ⟨rfl, hbl⟩
end
end Go.Proofs.Ytkejadhkebjdcaa
