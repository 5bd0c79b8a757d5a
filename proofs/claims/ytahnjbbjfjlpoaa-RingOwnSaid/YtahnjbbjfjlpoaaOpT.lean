/- Arguments opened: integers, tenants. -/
import Derived.Test.YtahnjbbjfjlpoaaTeC
import Derived.ProofKit
import Derived.OpenShut
import Derived.Deep.Slices
import Derived.Deep.Fields
namespace Go.Proofs.Ytahnjbbjfjlpoaa
open Go Go.RowKit Go.ChangeShapes Go.WideShapes Go.Deep
set_option linter.unusedVariables false
set_option linter.unusedSimpArgs false

def IsInt (W : World) (v : Value) : Prop := ∃ n, v = .int .i64 n ∧ (Lit.int .i64 n).wf = true
/-- Tenants that came in. -/
def IsTens (W : World) (v : Value) : Prop := ∃ (a : Option Addr) (cap : Nat) (vs : List TenV), v = .slice a vs.length cap ∧ RowT W a cap vs ∧ ∀ u ∈ vs, u.rd W

section
variable {H : Type} {enc : TypeId × Value → H} {W : World} {held : Bool} {fuel : Nat} {cs : List Value} {x : DataW H × List MemPlace}
theorem cellsB (h : DataW.trod enc Try.prog W 0 (fun _ => true) held fuel 25 cs = some x) : ∃ a c l, cs = [.slice a (List.length l) c] ∧ RdB W (.slice a l.length c) l := by
  rcases open_ints Try.underlying25 Try.underlying5 (by kernel_rfl) h with ⟨rfl, _⟩ | ⟨x, l, c, zs, rfl, _, hl, hm, hz, _, hcell, hwz⟩
  · exact ⟨none, 0, [], rfl, OwnB.rd (t := 5) (OwnB.nilI (Sat.refl W))⟩
  · obtain ⟨l', hl', hr⟩ := RdB.ofRow (a := some x) (len := l) (cap := c) (zs := zs) (.inr ⟨x, rfl, hl, hm, by simpa using hz, hcell, hwz⟩)
    subst hl'
    exact ⟨some x, c, l', rfl, hr⟩
theorem trod_at {n : Nat} {fs : Array Field} {f : Field} {k : Nat} {xs : List (DataW H × List MemPlace)} (hg : ∀ (i : Nat) (f : Field), fs[i]? = some f → DataW.trod enc Try.prog W 0 (fun _ => true) held n f.type ((cs.drop f.offset).take (Try.prog.cellsOf f.type)) = xs[i]?) (hl : xs.length = fs.size)
    (i : Nat) (hf : fs[i]? = some f) (hk : Try.prog.cellsOf f.type = k) : ∃ y, DataW.trod enc Try.prog W 0 (fun _ => true) held n f.type ((cs.drop f.offset).take k) = some y := by
  have h1 := hg i f hf
  have hi : i < xs.length := by rw [hl]; exact (Array.getElem?_eq_some_iff.1 hf).1
  rw [hk, List.getElem?_eq_getElem hi] at h1
  exact ⟨_, h1⟩
theorem cellsRu (h : DataW.trod enc Try.prog W 0 (fun _ => true) held fuel 46 cs = some x) :
    ∃ (r : RuleM) (p : Option Addr) (c : Nat), cs = ruC r (.slice p r.net.length c) ∧ RdRu W r p c := by
  obtain ⟨xs, n, _, _, hl, hlen, hg⟩ := DataW.trod_struct Try.underlying46 h
  match cs, hl.trans (show Try.prog.cellsOf 46 = 7 by kernel_rfl) with
  | [c0, c1, c2, c3, c4, c5, c6], _ =>
    obtain ⟨_, g0⟩ := trod_at hg hlen 0 rfl (show _ = 1 by kernel_rfl)
    obtain ⟨_, g1⟩ := trod_at hg hlen 1 rfl (show _ = 1 by kernel_rfl)
    obtain ⟨_, g2⟩ := trod_at hg hlen 2 rfl (show _ = 1 by kernel_rfl)
    obtain ⟨_, g3⟩ := trod_at hg hlen 3 rfl (show _ = 1 by kernel_rfl)
    obtain ⟨_, g4⟩ := trod_at hg hlen 4 rfl (show _ = 1 by kernel_rfl)
    obtain ⟨_, g5⟩ := trod_at hg hlen 5 rfl (show _ = 1 by kernel_rfl)
    obtain ⟨_, g6⟩ := trod_at hg hlen 6 rfl (show _ = 1 by kernel_rfl)
    obtain ⟨m0, e0, _, _⟩ := DataW.trod_int Try.underlying3 g0
    obtain ⟨m1, e1, _⟩ := DataW.trod_bool Try.underlying4 g1
    obtain ⟨p, c, l, e2, hr⟩ := cellsB g2
    obtain ⟨m3, e3, _, _⟩ := DataW.trod_int Try.underlying3 g3
    obtain ⟨s, e4, _, hs⟩ := DataW.trod_string Try.underlying9 g4
    obtain ⟨m5, e5, _, _⟩ := DataW.trod_int Try.underlying3 g5
    obtain ⟨m6, e6, _, _⟩ := DataW.trod_int Try.underlying3 g6
    injection e0 with e0
    injection e1 with e1
    injection e2 with e2
    injection e3 with e3
    injection e4 with e4
    injection e5 with e5
    injection e6 with e6
    subst e0 e1 e2 e3 e4 e5 e6
    exact ⟨⟨m0, m1, l, m3, s, m5, m6⟩, p, c, rfl, hr, hs⟩
theorem cellsRus (h : DataW.trod enc Try.prog W 0 (fun _ => true) held fuel 26 cs = some x) : ∃ (a : Option Addr) (cap : Nat) (rs : List RuleM), cs = [.slice a rs.length cap] ∧ RdRus W a cap rs := by
  rcases open_slice Try.underlying26 h with ⟨e, _⟩ | ⟨a', len', cap', m, n, D, Pl, e, _, hl, hm, hmm, _, hi⟩
  · exact ⟨none, 0, [], e, Nat.le_refl _, fun _ => rfl, Nat.zero_le _, fun i r h => by simp at h⟩
  · rw [show Try.prog.cellsOf 46 = 7 by kernel_rfl] at hi
    have hm' : m = cap' := by simpa using hmm
    obtain ⟨b, off, pt⟩ := a'
    have hsp : 0 < len' → pt = none := fun h0 => by
      obtain ⟨cs', hc, ht⟩ := hi 0 (by omega)
      obtain ⟨r, x, c, rfl, hr⟩ := cellsRu ht
      obtain ⟨_, hcl, hat⟩ := World.cells?_some hc
      have h6 := hat 0 (by omega)
      rw [Nat.zero_mul] at h6
      unfold Addr.add at h6
      rw [if_pos rfl, if_pos rfl] at h6
      unfold World.cell? at h6
      cases pt with
      | none => rfl
      | some y => simp [ruC] at h6; split at h6 <;> cases h6
    have hall : ∀ i, i < len' → ∃ r : RuleM, ∃ x c, b < W.heap.size ∧ (∀ j u, (ruC r (.slice x r.net.length c))[j]? = some u → W.cell? ⟨b, off + i * 7 + j, none⟩ = some u) ∧ RdRu W r x c := by
      intro i hil
      obtain rfl := hsp (by omega)
      obtain ⟨cs', hc, ht⟩ := hi i (by omega)
      obtain ⟨r, x, c, rfl, hr⟩ := cellsRu ht
      obtain ⟨_, hcl, hat⟩ := World.cells?_some hc
      have hcell : ∀ j u, (ruC r (.slice x r.net.length c))[j]? = some u → W.cell? ⟨b, off + i * 7 + j, none⟩ = some u := fun j u hj => by
        have hj7 : j < 7 := by rw [← hcl]; exact (List.getElem?_eq_some_iff.1 hj).1
        have := hat j hj7
        rw [addr_add, addr_add, hj] at this
        exact this
      exact ⟨r, x, c, World.block_lt_of_cell? W _ (hcell 0 _ rfl), hcell, hr⟩
    obtain ⟨rs, hrl, hrs⟩ := choose_list hall
    refine ⟨some ⟨b, off, pt⟩, cap', rs, by rw [hrl]; exact e, by omega, (fun e => nomatch e), hm, fun i r hir => ?_⟩
    obtain ⟨x, c, h1, h2, h3⟩ := hrs i r hir
    have hil : i < len' := by rw [← hrl]; exact (List.getElem?_eq_some_iff.1 hir).1
    obtain rfl := hsp (by omega)
    exact ⟨b, off, x, c, rfl, h1, h2, h3⟩
theorem cellsTe (h : DataW.trod enc Try.prog W 0 (fun _ => true) held fuel 28 cs = some x) : ∃ v : TenV, cs = v.c ∧ v.rd W := by
  obtain ⟨xs, n, _, _, hl, hlen, hg⟩ := DataW.trod_struct Try.underlying28 h
  match cs, hl.trans (show Try.prog.cellsOf 28 = 4 by kernel_rfl) with
  | [c0, c1, c2, c3], _ =>
    obtain ⟨_, g0⟩ := trod_at hg hlen 0 rfl (show _ = 1 by kernel_rfl)
    obtain ⟨_, g1⟩ := trod_at hg hlen 1 rfl (show _ = 1 by kernel_rfl)
    obtain ⟨_, g2⟩ := trod_at hg hlen 2 rfl (show _ = 1 by kernel_rfl)
    obtain ⟨_, g3⟩ := trod_at hg hlen 3 rfl (show _ = 1 by kernel_rfl)
    obtain ⟨m0, e0, _, _⟩ := DataW.trod_int Try.underlying3 g0
    obtain ⟨p, c, l, e1, hr⟩ := cellsB g1
    obtain ⟨m2, e2, _, _⟩ := DataW.trod_int Try.underlying3 g2
    obtain ⟨q, c', rs, e3, hrs⟩ := cellsRus g3
    injection e0 with e0
    injection e1 with e1
    injection e2 with e2
    injection e3 with e3
    subst e0 e1 e2 e3
    exact ⟨⟨⟨m0, l, m2, rs⟩, p, c, q, c'⟩, rfl, hr, hrs⟩
end
section
variable {H : Type} {enc : TypeId × Value → H} {W : World} {base : Nat} {held : Bool} {v : Value} {d : DataW H} {p : List MemPlace}
theorem opnInt (hv : Value.okWide Try.prog W .any base 3 v) (h : DataW.Trod enc Try.prog W 0 (fun _ => true) held 3 v d p) : IsInt W v := by
  obtain ⟨n, rfl, _, _, hw⟩ := open_int Try.underlying3 hv h
  exact ⟨n, rfl, hw⟩
theorem opnTens (hv : Value.okWide Try.prog W .any base 22 v) (h : DataW.Trod enc Try.prog W 0 (fun _ => true) held 22 v d p) : IsTens W v := by
  obtain ⟨a, len, cap, rfl⟩ := okWide_slice Try.underlying22 hv
  obtain ⟨fuel, hf⟩ := h
  rcases open_slice Try.underlying22 hf with ⟨e, _⟩ | ⟨a', len', cap', m, n, D, Pl, e, _, hl, hm, hmm, _, hi⟩
  · simp only [Value.cells, Array.toList, List.cons.injEq, and_true, Value.slice.injEq] at e
    obtain ⟨rfl, rfl, rfl⟩ := e
    exact ⟨none, 0, [], rfl, ⟨Nat.le_refl _, fun _ => rfl, Nat.zero_le _, fun i r h => by simp at h⟩, fun u h => by cases h⟩
  · simp only [Value.cells, Array.toList, List.cons.injEq, and_true, Value.slice.injEq] at e
    obtain ⟨rfl, rfl, rfl⟩ := e
    rw [show Try.prog.cellsOf 28 = 4 by kernel_rfl] at hi
    have hm' : m = cap := by simpa using hmm
    obtain ⟨b, off, pt⟩ := a'
    have hsp : 0 < len → pt = none := fun h0 => by
      obtain ⟨cs', hc, ht⟩ := hi 0 (by omega)
      obtain ⟨v, rfl, hr⟩ := cellsTe ht
      obtain ⟨_, hcl, hat⟩ := World.cells?_some hc
      have h6 := hat 0 (by omega)
      rw [Nat.zero_mul] at h6
      unfold Addr.add at h6
      rw [if_pos rfl, if_pos rfl] at h6
      unfold World.cell? at h6
      cases pt with
      | none => rfl
      | some y => simp [TenV.c] at h6; split at h6 <;> cases h6
    have hall : ∀ i, i < len → ∃ v : TenV, b < W.heap.size ∧ (∀ j u, v.c[j]? = some u → W.cell? ⟨b, off + i * 4 + j, none⟩ = some u) ∧ v.rd W := by
      intro i hil
      obtain rfl := hsp (by omega)
      obtain ⟨cs', hc, ht⟩ := hi i (by omega)
      obtain ⟨v, rfl, hr⟩ := cellsTe ht
      obtain ⟨_, hcl, hat⟩ := World.cells?_some hc
      have hcell : ∀ j u, v.c[j]? = some u → W.cell? ⟨b, off + i * 4 + j, none⟩ = some u := fun j u hj => by
        have hj4 : j < 4 := by rw [← hcl]; exact (List.getElem?_eq_some_iff.1 hj).1
        have := hat j hj4
        rw [addr_add, addr_add, hj] at this
        exact this
      exact ⟨v, World.block_lt_of_cell? W _ (hcell 0 _ rfl), hcell, hr⟩
    obtain ⟨vs, hvl, hvs⟩ := choose_list hall
    refine ⟨some ⟨b, off, pt⟩, cap, vs, by rw [hvl], ⟨by omega, (fun e => nomatch e), hm, fun i v hiv => ?_⟩, fun u hu => ?_⟩
    · obtain ⟨h1, h2, h3⟩ := hvs i v hiv
      have hil : i < len := by rw [← hvl]; exact (List.getElem?_eq_some_iff.1 hiv).1
      obtain rfl := hsp (by omega)
      exact ⟨b, off, rfl, h1, h2⟩
    · obtain ⟨i, hi2, rfl⟩ := List.getElem_of_mem hu
      exact (hvs i _ (List.getElem?_eq_getElem hi2)).2.2
end
end Go.Proofs.Ytahnjbbjfjlpoaa
