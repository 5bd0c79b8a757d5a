/- The law ReplayNil, walked. -/
import Derived.Test.YtipkcbphjgmgiaaRepK
import Derived.ProofKit
import Derived.OpenShut
import Derived.Deep.Slices
import Derived.Deep.Fields
namespace Go.Proofs.Ytipkcbphjgmgiaa
open Go Go.RowKit Go.ChangeShapes Go.WideShapes Go.Deep
set_option linter.unusedVariables false
set_option linter.unusedSimpArgs false

structure RCall where
  now : Int
  stamp : Int
  x : Option Addr
  e : List UInt8
  c : Nat
  odd : Bool
def rcallC (s : RCall) : List Value := [.int .i64 s.now, .int .i64 s.stamp, .slice s.x s.e.length s.c, .bool s.odd]
def RdRC (w : World) (s : RCall) : Prop := RdB w (.slice s.x s.e.length s.c) s.e
def IsRCall (W : World) (v : Value) : Prop := ∃ s : RCall, v = .agg (rcallC s).toArray ∧ RdRC W s
def IsIntR (W : World) (v : Value) : Prop := ∃ n, v = .int .i64 n ∧ (Lit.int .i64 n).wf = true

section
variable {H : Type} {enc : TypeId × Value → H} {W : World} {held : Bool} {fuel : Nat} {cs : List Value} {x : DataW H × List MemPlace}
theorem cellsBR (h : DataW.trod enc Try.prog W 0 (fun _ => true) held fuel 45 cs = some x) : ∃ a c l, cs = [.slice a (List.length l) c] ∧ RdB W (.slice a l.length c) l := by
  rcases open_ints Try.underlying45 Try.underlying5 (by kernel_rfl) h with ⟨rfl, _⟩ | ⟨x, l, c, zs, rfl, _, hl, hm, hz, _, hcell, hwz⟩
  · exact ⟨none, 0, [], rfl, RdB.nil W⟩
  · obtain ⟨l', hl', hr⟩ := RdB.ofRow (a := some x) (len := l) (cap := c) (zs := zs) (.inr ⟨x, rfl, hl, hm, by simpa using hz, hcell, hwz⟩)
    subst hl'
    exact ⟨some x, c, l', rfl, hr⟩
theorem trod_atR {n : Nat} {fs : Array Field} {f : Field} {k : Nat} {xs : List (DataW H × List MemPlace)} (hg : ∀ (i : Nat) (f : Field), fs[i]? = some f → DataW.trod enc Try.prog W 0 (fun _ => true) held n f.type ((cs.drop f.offset).take (Try.prog.cellsOf f.type)) = xs[i]?) (hl : xs.length = fs.size)
    (i : Nat) (hf : fs[i]? = some f) (hk : Try.prog.cellsOf f.type = k) : ∃ y, DataW.trod enc Try.prog W 0 (fun _ => true) held n f.type ((cs.drop f.offset).take k) = some y := by
  have h1 := hg i f hf
  have hi : i < xs.length := by rw [hl]; exact (Array.getElem?_eq_some_iff.1 hf).1
  rw [hk, List.getElem?_eq_getElem hi] at h1
  exact ⟨_, h1⟩
theorem cellsRC (h : DataW.trod enc Try.prog W 0 (fun _ => true) held fuel 47 cs = some x) : ∃ s : RCall, cs = rcallC s ∧ RdRC W s := by
  obtain ⟨xs, n, _, _, hl, hlen, hg⟩ := DataW.trod_struct Try.underlying47 h
  match cs, hl.trans (show Try.prog.cellsOf 47 = 4 by kernel_rfl) with
  | [c0, c1, c2, c3], _ =>
    obtain ⟨_, g0⟩ := trod_atR hg hlen 0 rfl (show _ = 1 by kernel_rfl)
    obtain ⟨_, g1⟩ := trod_atR hg hlen 1 rfl (show _ = 1 by kernel_rfl)
    obtain ⟨_, g2⟩ := trod_atR hg hlen 2 rfl (show _ = 1 by kernel_rfl)
    obtain ⟨_, g3⟩ := trod_atR hg hlen 3 rfl (show _ = 1 by kernel_rfl)
    obtain ⟨m0, e0, _, _⟩ := DataW.trod_int Try.underlying2 g0
    obtain ⟨m1, e1, _, _⟩ := DataW.trod_int Try.underlying2 g1
    obtain ⟨p, c, l, e2, hr⟩ := cellsBR g2
    obtain ⟨m3, e3, _⟩ := DataW.trod_bool Try.underlying4 g3
    injection e0 with e0
    injection e1 with e1
    injection e2 with e2
    injection e3 with e3
    subst e0 e1 e2 e3
    exact ⟨⟨m0, m1, p, l, c, m3⟩, rfl, hr⟩
end
section
variable {H : Type} {enc : TypeId × Value → H} {W : World} {base : Nat} {held : Bool} {v : Value} {d : DataW H} {p : List MemPlace}
theorem opnRCall (hv : Value.okWide Try.prog W .any base 47 v) (h : DataW.Trod enc Try.prog W 0 (fun _ => true) held 47 v d p) : IsRCall W v := by
  obtain ⟨cs, rfl, _⟩ := okWide_struct Try.underlying47 hv
  obtain ⟨fuel, hf⟩ := h
  obtain ⟨s, e, hr⟩ := cellsRC hf
  refine ⟨s, ?_, hr⟩
  have e2 : cs.toList = rcallC s := e
  rw [← e2]
theorem opnI64 (hv : Value.okWide Try.prog W .any base 2 v) (h : DataW.Trod enc Try.prog W 0 (fun _ => true) held 2 v d p) : IsIntR W v := by
  obtain ⟨n, rfl, _, _, hw⟩ := open_int Try.underlying2 hv h
  exact ⟨n, rfl, hw⟩
theorem opnIntR (hv : Value.okWide Try.prog W .any base 3 v) (h : DataW.Trod enc Try.prog W 0 (fun _ => true) held 3 v d p) : IsIntR W v := by
  obtain ⟨n, rfl, _, _, hw⟩ := open_int Try.underlying3 hv h
  exact ⟨n, rfl, hw⟩
end

section
variable {w0 w : World} {L : List Assn}
theorem replay_nil_law (v : Value) (w : World) (hv : IsRCall w v) :
    Calls Try.prog 8 #[v] w fun e w' => e = .returned (.bool true) ∧ Below w.heap.size w w' := by
  obtain ⟨s, rfl, hr⟩ := hv
  have hs := Sat.refl w
  have h1 := hs.alloc (.cells (rcallC s).toArray 47 (0, 0))
  have c0 : (w.alloc (.cells (rcallC s).toArray 47 (0, 0))).cell? ⟨w.heap.size, 0, none⟩ = some (.int .i64 s.now) := h1.cell 0 rfl
  have c1 : (w.alloc (.cells (rcallC s).toArray 47 (0, 0))).cell? ⟨w.heap.size, 1, none⟩ = some (.int .i64 s.stamp) := h1.cell 1 rfl
  have c2 : (w.alloc (.cells (rcallC s).toArray 47 (0, 0))).cell? ⟨w.heap.size, 2, none⟩ = some (.slice s.x s.e.length s.c) := h1.cell 2 rfl
  go_enter Try.func8, Try.ntmps8
  go_wp2_with fail
  refine (rep_Check_nil _ _ _).mono ?_
  rintro _ w1 ⟨rfl, hb1⟩
  have h2 := h1.under hb1
  go_wp2_with fail
  refine rep_Len_nil.mono ?_
  rintro _ _ ⟨rfl, rfl⟩
  go_wp2_with fail
  refine rep_Since_nil.mono ?_
  rintro _ _ ⟨rfl, rfl⟩
  go_wp2_with fail
  refine (rep_awake h2).mono ?_
  rintro _ w3 ⟨rfl, h3⟩
  go_wp2_with fail
  go_ret
  exact ⟨rfl, h3.below⟩

theorem timeC_id {n : Int} (h1 : 0 ≤ n) (h2 : n ≤ 1099511627776) : timeC n = n := by unfold timeC; omega
theorem span_says {W M N S : Int} (hW : 0 ≤ W ∧ W < 50) (hM : 0 ≤ M ∧ M < 100) (hN : 0 ≤ N ∧ N < 1000) (hS : 0 ≤ S ∧ S < 400) {e : List UInt8} (he : e.length = 32) :
    (((FltM.new W 5 M).says N S e == 0) = (decide (N - W ≤ S) && decide (S ≤ N + W) && decide (M + W < S))) ∧ ((FltM.new W 5 M).check N S e).since = M + W := by
  have t1 := timeC_id hW.1 (by omega)
  have t2 := timeC_id hM.1 (by omega)
  have t3 := timeC_id hN.1 (by omega)
  have t4 := timeC_id hS.1 (by omega)
  have hb : FltM.bad N S e = false := by unfold FltM.bad; rw [t3, t4, he]; simp
  have hm : FltM.new W 5 M = ⟨W, 5, M + W, []⟩ := by unfold FltM.new; rw [t1, t2]; rfl
  rw [hm]
  have hy : (⟨W, 5, M + W, []⟩ : FltM).young N = [] := rfl
  have hf : (⟨W, 5, M + W, []⟩ : FltM).far N S = (decide (S < N - W) || decide (N + W < S) || decide (S ≤ M + W)) := rfl
  constructor
  · unfold FltM.says
    rw [hb, hf, hy]
    by_cases a1 : S < N - W
    · have : ¬ N - W ≤ S := by omega
      simp [a1, this]
    · by_cases a2 : N + W < S
      · have : ¬ S ≤ N + W := by omega
        simp [a1, a2, this]
      · by_cases a3 : S ≤ M + W
        · have : ¬ M + W < S := by omega
          simp [a1, a2, a3, this]
        · have b1 : N - W ≤ S := by omega
          have b2 : S ≤ N + W := by omega
          have b3 : M + W < S := by omega
          simp [a1, a2, a3, b1, b2, b3]
  · unfold FltM.check
    rw [hb]
    rfl

theorem replay_span_law (v0 v1 v2 v3 : Value) (w : World) (h0 : IsIntR w v0) (h1 : IsIntR w v1) (h2 : IsIntR w v2) (h3 : IsIntR w v3) :
    Calls Try.prog 11 #[v0, v1, v2, v3] w fun e w' => e = .returned (.bool true) ∧ Below w.heap.size w w' := by
  obtain ⟨n0, rfl, _⟩ := h0
  obtain ⟨n1, rfl, _⟩ := h1
  obtain ⟨n2, rfl, _⟩ := h2
  obtain ⟨n3, rfl, _⟩ := h3
  have hs := Sat.refl w
  have b0 := um_bd n0 (m := 50) (by omega) (by omega)
  have b1 := um_bd n1 (m := 100) (by omega) (by omega)
  have b2 := um_bd n2 (m := 200) (by omega) (by omega)
  have b3 := um_bd n3 (m := 400) (by omega) (by omega)
  obtain ⟨W, hW⟩ : ∃ W, wrap64 ((IntKind.u64.wrap n0).tmod 50) = W := ⟨_, rfl⟩
  obtain ⟨M, hM⟩ : ∃ M, wrap64 ((IntKind.u64.wrap n1).tmod 100) = M := ⟨_, rfl⟩
  obtain ⟨D, hD⟩ : ∃ D, wrap64 ((IntKind.u64.wrap n2).tmod 200) = D := ⟨_, rfl⟩
  obtain ⟨S, hS⟩ : ∃ S, wrap64 ((IntKind.u64.wrap n3).tmod 400) = S := ⟨_, rfl⟩
  rw [hW] at b0
  rw [hM] at b1
  rw [hD] at b2
  rw [hS] at b3
  obtain ⟨N, hN⟩ : ∃ N, M + D = N := ⟨_, rfl⟩
  have e0 : IntKind.i64.wrap (M + D) = N := by rw [IntWalk.i64_in _ (by omega)]; exact hN
  have e1 : IntKind.i64.wrap (N - W) = N - W := IntWalk.i64_in _ (by omega)
  have e2 : IntKind.i64.wrap (N + W) = N + W := IntWalk.i64_in _ (by omega)
  have e3 : IntKind.i64.wrap (M + W) = M + W := IntWalk.i64_in _ (by omega)
  obtain ⟨p1, p2⟩ := span_says (e := keyL []) b0 b1 (show 0 ≤ N ∧ N < 1000 by omega) b3 (keyL_len [])
  obtain ⟨R, hR⟩ : ∃ R, (FltM.new W 5 M).says N S (keyL []) = R := ⟨_, rfl⟩
  have HR := hid_ hR
  rw [hR] at p1
  have P1 := hid_ p1
  have P2 := hid_ p2
  clear p1 p2 hR
  cases d1 : decide (N - W ≤ S)
  all_goals cases d2 : decide (S ≤ N + W)
  all_goals cases d3 : decide (M + W < S)
  all_goals
    have p1 := P1.out
    rw [d1, d2, d3] at p1
    simp only [Bool.and_true, Bool.true_and, Bool.and_false, Bool.false_and, Bool.and_self] at p1
    go_enter Try.func11, Try.ntmps11
    go_wp2_with fail
    refine (rep_New W 5 M hs).mono ?_
    rintro _ w1 ⟨f, rfl, q1⟩
    go_wp2_with fail
    refine (rep_Key (RdB.nil w1) q1).mono ?_
    rintro _ w2 ⟨a, c, rfl, q2⟩
    go_wp2_with fail
    refine (rep_Check (fun W A h => OwnB.rd h.swap) q2.swap).mono ?_
    rw [HR.out]
    rintro _ w3 ⟨rfl, q3⟩
    go_wp2_with fail
    refine (rep_Since q3).mono ?_
    rw [P2.out]
    rintro _ _ ⟨rfl, rfl⟩
    go_wp2_with fail
    refine (rep_awake q3).mono ?_
    rintro _ w4 ⟨rfl, q4⟩
    go_wp2_with fail
    go_ret
    exact ⟨rfl, q4.below⟩
end
end Go.Proofs.Ytipkcbphjgmgiaa
