/- The law StreamCut, walked. -/
import Derived.Test.YtinlemeogdnanaaStreamJ
import Derived.Test.YtinlemeogdnanaaOpn
namespace Go.Proofs.Ytinlemeogdnanaa
open Go Go.RowKit
set_option linter.unusedVariables false
set_option linter.unusedSimpArgs false

def ctM (wait : List UInt8) (cut : Bool) : StM := ⟨7, 1000, 1000, wait, false, false, false, cut⟩
theorem ct_break {b : List UInt8} {code : Int} (h0 : 0 ≤ code) (h1 : code ≤ 255) : (ctM b false).breakB code = true ∧ (ctM b false).breakS code = ctM [] true ∧ (ctM b false).breakF code = FrM.resetF 7 code := by
  have h : (ctM b false).breakB code = true := by unfold StM.breakB StM.done ctM; simp [h0, h1]
  exact ⟨h, by unfold StM.breakS; rw [h]; rfl, by unfold StM.breakF; rw [h]; rfl⟩
theorem ct_again (code : Int) : (ctM [] true).breakB code = false ∧ (ctM [] true).breakS code = ctM [] true ∧ (ctM [] true).breakF code = FrM.of 0 0 := by
  have h : (ctM [] true).breakB code = false := by unfold StM.breakB StM.done ctM; simp
  exact ⟨h, by unfold StM.breakS; rw [h]; rfl, by unfold StM.breakF; rw [h]; rfl⟩
theorem ct_got (f : FrM) : (ctM [] true).gotD f = [] ∧ (ctM [] true).gotL f = [] ∧ (ctM [] true).gotK f = 0 ∧ (ctM [] true).got f = ctM [] true := by
  have h : (ctM [] true).hears f = false := by unfold StM.hears StM.done ctM; simp
  exact ⟨by unfold StM.gotD; rw [h]; rfl, by unfold StM.gotL; rw [h]; rfl, by unfold StM.gotK; rw [h]; rfl, by unfold StM.got; rw [h]; rfl⟩

section
variable {w0 w : World} {L : List Assn}
set_option maxRecDepth 100000 in
set_option maxHeartbeats 4000000 in
theorem stream_cut_law (v u fv : Value) (w : World) (hv : IsBytes w v) (hu : IsInt w u) (hf : IsFrame w fv) :
    Calls Try.prog 10 #[v, u, fv] w fun e w' => e = .returned (.bool true) ∧ Below w.heap.size w w' := by
  have hs := Sat.refl w
  obtain ⟨b, hr⟩ := hv
  obtain ⟨n, rfl, _⟩ := hu
  obtain ⟨f, x, z, c, k, rfl, hf⟩ := hf
  obtain ⟨ab, capb, rfl, _, _, _⟩ := hr.form
  unfold frV
  have hA := fun o => hs.alloc o
  by_cases hbig : 2000 < b.length ∨ 4000 < f.data.length
  · have hbb : (2000 < b.length) ∨ (¬ 2000 < b.length ∧ 4000 < f.data.length) := by omega
    clear hbig
    rcases hbb with hbb | ⟨hb0, hbb⟩
    all_goals
      go_enter Try.func10, Try.ntmps10
      go_wp2_with fail
      refine (stream_awake (hA _)).mono ?_
      rintro _ w1 ⟨rfl, h1⟩
      go_wp2_with fail
      go_ret
      exact ⟨rfl, h1.below⟩
  · have hb : b.length ≤ 2000 := by omega
    have hd : f.data.length ≤ 4000 := by omega
    clear hbig
    have hbd := um_bd n (m := 256) (by omega) (by omega)
    obtain ⟨m, hm⟩ := Int.eq_ofNat_of_zero_le hbd.1
    rw [hm] at hbd
    obtain ⟨B1, B2, B3⟩ := ct_break (b := b) (code := m) (by omega) (by omega)
    obtain ⟨C1, C2, C3⟩ := ct_again m
    obtain ⟨D1, D2, D3, D4⟩ := ct_got f
    have HB := hid_ (And.intro B1 (And.intro B2 B3))
    have HC := hid_ (And.intro C1 (And.intro C2 C3))
    have HD := hid_ (And.intro D1 (And.intro D2 (And.intro D3 D4)))
    clear B1 B2 B3 C1 C2 C3 D1 D2 D3 D4
    have hFa : ∀ w' : World, Below w.heap.size w w' → RdV w' f x z c k := fun w' hb => hf.mono hb
    go_enter Try.func10, Try.ntmps10
    go_wp2_with fail
    refine (stream_New 7 1000 (by omega) (by omega) (by omega) (by omega) (hA _)).mono ?_
    rintro _ w1 ⟨g, rfl, h1⟩
    replace h1 : Sat w w1 (StA g (ctM [] false) :: _) := h1
    go_wp2_with fail
    refine (stream_Send g _ _ b (hr.later h1) h1).mono ?_
    rintro _ w2 ⟨rfl, h2⟩
    have x1 : (ctM [] false).sendB b = true := by unfold StM.sendB StM.closed ctM; simp; omega
    rw [x1]
    rw [show (ctM [] false).send b = ctM b false by unfold StM.send; rw [x1]; rfl] at h2
    clear x1 h1
    go_wp2_with fail
    refine (stream_Break g _ m h2).mono ?_
    rw [HB.out.1, HB.out.2.1, HB.out.2.2]
    rintro _ w3 ⟨rfl, h3⟩
    clear h2
    unfold frV
    go_wp2_with fail
    refine (ref_SameFrameV (FrM.resetF 7 m) (FrM.resetF 7 m) rfl rfl (RdB.nilI _) (RdB.nilI _) (RdB.nilI _) (RdB.nilI _)).mono ?_
    rw [sameFr_refl]
    rintro _ w5 ⟨rfl, h5⟩
    have h6 := (h3.alloc_ _).under h5
    clear h3 h5
    go_wp2_with fail
    refine (stream_Break g _ m h6).mono ?_
    rw [HC.out.1, HC.out.2.1, HC.out.2.2]
    rintro _ w7 ⟨rfl, h7⟩
    clear h6
    unfold frV
    have hbox : Box9 w7 w.heap.size f (.slice x f.addr.ip.length c) (.slice z f.data.length k) := box9 (Sat.front [_] h7)
    obtain ⟨p0, p1, p2, p3, p4, p5, p6, p7, p8⟩ := hbox
    have hlt : w.heap.size < w7.heap.size := (Sat.front [_] h7).lt
    have hne : w7.heap.size ≠ w.heap.size := by omega
    go_wp2_with fail
    have hr7 := hFa _ (h7.alloc_ (.cells #[.int .i64 0, .int .i64 0, .int .i64 0, .int .i64 0, .int .i64 0, .slice none 0 0, .string ByteArray.empty, .int .i64 0, .slice none 0 0] 32 (0, 0))).below
    refine (stream_GotV f rfl hr7.ip hr7.data hr7.name (h7.alloc_ _)).mono ?_
    unfold GotR
    rw [HD.out.1, HD.out.2.1, HD.out.2.2.1, HD.out.2.2.2]
    rintro _ w8 ⟨vd, vf, rfl, h8⟩
    obtain ⟨ad, cd, rfl, _, _, _⟩ := (OwnB.rd h8).form
    obtain ⟨af, cf, rfl, _, _⟩ := OwnL.form h8.drop
    replace h8 := h8.drop.drop
    clear h7 p0 p1 p2 p3 p4 p5 p6 p7 p8
    simp only [List.length_nil]
    go_wp2_with fail
    refine (stream_Next g _ h8).mono ?_
    rintro _ w9 ⟨vn, rfl, h9⟩
    rw [show (ctM [] true).nextL = [] by unfold StM.nextL; simp [ctM], show (ctM [] true).next = ctM [] true by unfold StM.next; simp [ctM]] at h9
    obtain ⟨an, cn, rfl, _, _⟩ := OwnL.form h9
    replace h9 := h9.drop
    clear h8
    simp only [List.length_nil]
    go_wp2_with fail
    refine (stream_Send g _ _ b (hr.later h9) h9).mono ?_
    rintro _ w10 ⟨rfl, h10⟩
    rw [show (ctM [] true).sendB b = false by unfold StM.sendB StM.closed ctM; simp]
    rw [show (ctM [] true).send b = ctM [] true by unfold StM.send; rw [show (ctM [] true).sendB b = false by unfold StM.sendB StM.closed ctM; simp]; rfl] at h10
    clear h9
    go_wp2_with fail
    refine (stream_End g _ h10).mono ?_
    rintro _ w11 ⟨rfl, h11⟩
    rw [show (ctM [] true).finB = false from rfl]
    rw [show (ctM [] true).fin = ctM [] true from rfl] at h11
    clear h10
    go_wp2_with fail
    refine (stream_Done g _ h11).mono ?_
    rintro _ _ ⟨rfl, rfl⟩
    rw [show (ctM [] true).done = true from rfl]
    go_wp2_with fail
    refine (stream_Waits g _ h11).mono ?_
    rintro _ _ ⟨rfl, rfl⟩
    rw [show (((ctM [] true).wait.length : Nat) : Int) = 0 from rfl]
    go_wp2_with fail
    refine (stream_awake h11).mono ?_
    rintro _ w12 ⟨rfl, h12⟩
    go_wp2_with fail
    go_ret
    exact ⟨rfl, h12.below⟩
end
end Go.Proofs.Ytinlemeogdnanaa
