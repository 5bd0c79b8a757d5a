/- Arguments opened: integers, bools, strings, bytes, addresses, rules. -/
import Derived.Test.YtmnjaaeljpleeaaDoorAclA
import Derived.Test.YtmnjaaeljpleeaaDoorRefAd
import Derived.ProofKit
import Derived.OpenShut
import Derived.Deep.Slices
import Derived.Deep.Fields
namespace Go.Proofs.YtmnjaaeljpleeaaDoor
open Go Go.RowKit Go.ChangeShapes Go.WideShapes Go.Deep
set_option linter.unusedVariables false
set_option linter.unusedSimpArgs false

def IsInt (W : World) (v : Value) : Prop := ∃ n, v = .int .i64 n ∧ (Lit.int .i64 n).wf = true
def IsBytes (W : World) (v : Value) : Prop := ∃ l, RdB W v l
def IsBool (W : World) (v : Value) : Prop := ∃ b, v = .bool b
def IsStr (W : World) (v : Value) : Prop := ∃ s, v = .string s ∧ s.size ≤ maxLen
def IsAddr (W : World) (v : Value) : Prop := ∃ (a : AdM) (x : Option Addr) (c : Nat), v = adA a (.slice x a.ip.length c) ∧ RdAd W a x c
def IsRules (W : World) (v : Value) : Prop := ∃ a cap rs, v = .slice a (List.length rs) cap ∧ RdRus W a cap rs

section
variable {H : Type} {enc : TypeId × Value → H} {W : World} {held : Bool} {fuel : Nat} {cs : List Value} {x : DataW H × List MemPlace}

theorem cellsB (h : DataW.trod enc Tryd.prog W 0 (fun _ => true) held fuel 23 cs = some x) : ∃ a c l, cs = [.slice a (List.length l) c] ∧ RdB W (.slice a l.length c) l := by
  rcases open_ints Tryd.underlying23 Tryd.underlying5 (by kernel_rfl) h with ⟨rfl, _⟩ | ⟨x, l, c, zs, rfl, _, hl, hm, hz, _, hcell, hwz⟩
  · exact ⟨none, 0, [], rfl, OwnB.rd (t := 5) (OwnB.nilI (Sat.refl W))⟩
  · obtain ⟨l', hl', hr⟩ := RdB.ofRow (a := some x) (len := l) (cap := c) (zs := zs) (.inr ⟨x, rfl, hl, hm, by simpa using hz, hcell, hwz⟩)
    subst hl'
    exact ⟨some x, c, l', rfl, hr⟩

theorem trod_at {n : Nat} {fs : Array Field} {f : Field} {k : Nat} {xs : List (DataW H × List MemPlace)} (hg : ∀ (i : Nat) (f : Field), fs[i]? = some f → DataW.trod enc Tryd.prog W 0 (fun _ => true) held n f.type ((cs.drop f.offset).take (Tryd.prog.cellsOf f.type)) = xs[i]?) (hl : xs.length = fs.size)
    (i : Nat) (hf : fs[i]? = some f) (hk : Tryd.prog.cellsOf f.type = k) : ∃ y, DataW.trod enc Tryd.prog W 0 (fun _ => true) held n f.type ((cs.drop f.offset).take k) = some y := by
  have h1 := hg i f hf
  have hi : i < xs.length := by rw [hl]; exact (Array.getElem?_eq_some_iff.1 hf).1
  rw [hk, List.getElem?_eq_getElem hi] at h1
  exact ⟨_, h1⟩

theorem cellsAd (h : DataW.trod enc Tryd.prog W 0 (fun _ => true) held fuel 25 cs = some x) :
    ∃ (a : AdM) (p : Option Addr) (c : Nat), cs = [.int .i64 a.kind, .slice p a.ip.length c, .string a.name, .int .i64 a.port] ∧ RdB W (.slice p a.ip.length c) a.ip ∧ a.name.size ≤ maxLen := by
  obtain ⟨xs, n, _, _, hl, hlen, hg⟩ := DataW.trod_struct Tryd.underlying25 h
  match cs, hl.trans (show Tryd.prog.cellsOf 25 = 4 by kernel_rfl) with
  | [c0, c1, c2, c3], _ =>
    obtain ⟨_, g0⟩ := trod_at hg hlen 0 rfl (show _ = 1 by kernel_rfl)
    obtain ⟨_, g1⟩ := trod_at hg hlen 1 rfl (show _ = 1 by kernel_rfl)
    obtain ⟨_, g2⟩ := trod_at hg hlen 2 rfl (show _ = 1 by kernel_rfl)
    obtain ⟨_, g3⟩ := trod_at hg hlen 3 rfl (show _ = 1 by kernel_rfl)
    obtain ⟨k, e0, _, _⟩ := DataW.trod_int Tryd.underlying3 g0
    obtain ⟨a, c, l, e1, hr⟩ := cellsB g1
    obtain ⟨s, e2, _, hs⟩ := DataW.trod_string Tryd.underlying9 g2
    obtain ⟨p, e3, _, _⟩ := DataW.trod_int Tryd.underlying3 g3
    injection e0 with e0
    injection e1 with e1
    injection e2 with e2
    injection e3 with e3
    subst e0 e1 e2 e3
    exact ⟨⟨k, l, s, p⟩, a, c, rfl, hr, hs⟩

theorem cellsRu (h : DataW.trod enc Tryd.prog W 0 (fun _ => true) held fuel 29 cs = some x) :
    ∃ (r : RuleM) (p : Option Addr) (c : Nat), cs = ruC r (.slice p r.net.length c) ∧ RdRu W r p c := by
  obtain ⟨xs, n, _, _, hl, hlen, hg⟩ := DataW.trod_struct Tryd.underlying29 h
  match cs, hl.trans (show Tryd.prog.cellsOf 29 = 7 by kernel_rfl) with
  | [c0, c1, c2, c3, c4, c5, c6], _ =>
    obtain ⟨_, g0⟩ := trod_at hg hlen 0 rfl (show _ = 1 by kernel_rfl)
    obtain ⟨_, g1⟩ := trod_at hg hlen 1 rfl (show _ = 1 by kernel_rfl)
    obtain ⟨_, g2⟩ := trod_at hg hlen 2 rfl (show _ = 1 by kernel_rfl)
    obtain ⟨_, g3⟩ := trod_at hg hlen 3 rfl (show _ = 1 by kernel_rfl)
    obtain ⟨_, g4⟩ := trod_at hg hlen 4 rfl (show _ = 1 by kernel_rfl)
    obtain ⟨_, g5⟩ := trod_at hg hlen 5 rfl (show _ = 1 by kernel_rfl)
    obtain ⟨_, g6⟩ := trod_at hg hlen 6 rfl (show _ = 1 by kernel_rfl)
    obtain ⟨m0, e0, _, _⟩ := DataW.trod_int Tryd.underlying3 g0
    obtain ⟨m1, e1, _⟩ := DataW.trod_bool Tryd.underlying4 g1
    obtain ⟨p, c, l, e2, hr⟩ := cellsB g2
    obtain ⟨m3, e3, _, _⟩ := DataW.trod_int Tryd.underlying3 g3
    obtain ⟨s, e4, _, hs⟩ := DataW.trod_string Tryd.underlying9 g4
    obtain ⟨m5, e5, _, _⟩ := DataW.trod_int Tryd.underlying3 g5
    obtain ⟨m6, e6, _, _⟩ := DataW.trod_int Tryd.underlying3 g6
    injection e0 with e0
    injection e1 with e1
    injection e2 with e2
    injection e3 with e3
    injection e4 with e4
    injection e5 with e5
    injection e6 with e6
    subst e0 e1 e2 e3 e4 e5 e6
    exact ⟨⟨m0, m1, l, m3, s, m5, m6⟩, p, c, rfl, hr, hs⟩
theorem choose_list {α : Type} {n : Nat} {P : Nat → α → Prop} : (∀ i, i < n → ∃ x, P i x) → ∃ l : List α, l.length = n ∧ ∀ i x, l[i]? = some x → P i x := by
  induction n with
  | zero => exact fun _ => ⟨[], rfl, fun i x h => by simp at h⟩
  | succ n ih =>
    intro h
    obtain ⟨l, hl, hp⟩ := ih (fun i hi => h i (by omega))
    obtain ⟨x, hx⟩ := h n (by omega)
    refine ⟨l ++ [x], by simp [hl], fun i y hy => ?_⟩
    by_cases hi : i < l.length
    · rw [List.getElem?_append_left hi] at hy
      exact hp i y hy
    · rw [List.getElem?_append_right (by omega)] at hy
      have : i - l.length = 0 := by
        rcases Nat.eq_zero_or_pos (i - l.length) with h0 | h0
        · exact h0
        · rw [List.getElem?_eq_none (by simp; omega)] at hy; cases hy
      rw [this] at hy
      obtain rfl : x = y := by simpa using hy
      rw [show i = n by omega]
      exact hx
end

section
variable {H : Type} {enc : TypeId × Value → H} {W : World} {base : Nat} {held : Bool} {v : Value} {d : DataW H} {p : List MemPlace}
theorem opnInt (hv : Value.okWide Tryd.prog W .any base 3 v) (h : DataW.Trod enc Tryd.prog W 0 (fun _ => true) held 3 v d p) : IsInt W v := by
  obtain ⟨n, rfl, _, _, hw⟩ := open_int Tryd.underlying3 hv h
  exact ⟨n, rfl, hw⟩
theorem opnBytes (hv : Value.okWide Tryd.prog W .any base 23 v) (h : DataW.Trod enc Tryd.prog W 0 (fun _ => true) held 23 v d p) : IsBytes W v := by
  obtain ⟨a, len, cap, rfl⟩ := okWide_slice Tryd.underlying23 hv
  obtain ⟨fuel, hf⟩ := h
  obtain ⟨a2, c2, l, e, hr⟩ := cellsB hf
  simp only [Value.cells, Array.toList, List.cons.injEq, and_true] at e
  rw [← e] at hr
  exact ⟨l, hr⟩
theorem opnBool (hv : Value.okWide Tryd.prog W .any base 4 v) (h : DataW.Trod enc Tryd.prog W 0 (fun _ => true) held 4 v d p) : IsBool W v := by
  obtain ⟨b, rfl, _⟩ := open_bool Tryd.underlying4 hv h
  exact ⟨b, rfl⟩
theorem opnAddr (hv : Value.okWide Tryd.prog W .any base 25 v) (h : DataW.Trod enc Tryd.prog W 0 (fun _ => true) held 25 v d p) : IsAddr W v := by
  obtain ⟨cs, rfl, _⟩ := okWide_struct Tryd.underlying25 hv
  obtain ⟨fuel, hf⟩ := h
  obtain ⟨a, x, c, e, hr, hs⟩ := cellsAd hf
  refine ⟨a, x, c, ?_, hr, hs⟩
  have e2 : cs.toList = [.int .i64 a.kind, .slice x a.ip.length c, .string a.name, .int .i64 a.port] := e
  have e3 : cs = [.int .i64 a.kind, .slice x a.ip.length c, .string a.name, .int .i64 a.port].toArray := by rw [← e2]
  rw [e3]
  rfl
theorem opnRules (hv : Value.okWide Tryd.prog W .any base 22 v) (h : DataW.Trod enc Tryd.prog W 0 (fun _ => true) held 22 v d p) : IsRules W v := by
  obtain ⟨a, len, cap, rfl⟩ := okWide_slice Tryd.underlying22 hv
  obtain ⟨fuel, hf⟩ := h
  rcases open_slice Tryd.underlying22 hf with ⟨e, _⟩ | ⟨a', len', cap', m, n, D, Pl, e, _, hl, hm, hmm, _, hi⟩
  · simp only [Value.cells, Array.toList, List.cons.injEq, and_true, Value.slice.injEq] at e
    obtain ⟨rfl, rfl, rfl⟩ := e
    exact ⟨none, 0, [], rfl, Nat.le_refl _, Nat.zero_le _, fun i r h => by simp at h⟩
  · simp only [Value.cells, Array.toList, List.cons.injEq, and_true, Value.slice.injEq] at e
    obtain ⟨rfl, rfl, rfl⟩ := e
    rw [show Tryd.prog.cellsOf 29 = 7 by kernel_rfl] at hi
    have hm' : m = cap := by simpa using hmm
    obtain ⟨b, off, pt⟩ := a'
    have hsp : 0 < len → pt = none := fun h0 => by
      obtain ⟨cs', hc, ht⟩ := hi 0 (by omega)
      obtain ⟨r, x, c, rfl, hr⟩ := cellsRu ht
      obtain ⟨_, hcl, hat⟩ := World.cells?_some hc
      have h6 := hat 0 (by omega)
      rw [Nat.zero_mul] at h6
      unfold Addr.add at h6
      rw [if_pos rfl, if_pos rfl] at h6
      unfold World.cell? at h6
      cases pt with
      | none => rfl
      | some y => simp [ruC] at h6; split at h6 <;> cases h6
    have hall : ∀ i, i < len → ∃ r : RuleM, ∃ x c, b < W.heap.size ∧ (∀ j u, (ruC r (.slice x r.net.length c))[j]? = some u → W.cell? ⟨b, off + i * 7 + j, none⟩ = some u) ∧ RdRu W r x c := by
      intro i hil
      obtain rfl := hsp (by omega)
      obtain ⟨cs', hc, ht⟩ := hi i (by omega)
      obtain ⟨r, x, c, rfl, hr⟩ := cellsRu ht
      obtain ⟨_, hcl, hat⟩ := World.cells?_some hc
      have hcell : ∀ j u, (ruC r (.slice x r.net.length c))[j]? = some u → W.cell? ⟨b, off + i * 7 + j, none⟩ = some u := fun j u hj => by
        have hj7 : j < 7 := by rw [← hcl]; exact (List.getElem?_eq_some_iff.1 hj).1
        have := hat j hj7
        rw [addr_add, addr_add, hj] at this
        exact this
      exact ⟨r, x, c, World.block_lt_of_cell? W _ (hcell 0 _ rfl), hcell, hr⟩
    obtain ⟨rs, hrl, hrs⟩ := choose_list hall
    refine ⟨_, cap, rs, by rw [hrl], by omega, hm, fun i r hir => ?_⟩
    obtain ⟨x, c, h1, h2, h3⟩ := hrs i r hir
    have hil : i < len := by rw [← hrl]; exact (List.getElem?_eq_some_iff.1 hir).1
    obtain rfl := hsp (by omega)
    exact ⟨b, off, x, c, rfl, h1, h2, h3⟩
end
end Go.Proofs.YtmnjaaeljpleeaaDoor
