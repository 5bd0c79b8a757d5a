/- Arguments opened, whatever their types: integers, bools, strings, bytes, addresses, frames. -/
import Derived.Test.YtkejadhkebjdcaaMayW
import Derived.ProofKit
import Derived.OpenShut
import Derived.Deep.Slices
import Derived.Deep.Fields
namespace Go.Proofs.Ytkejadhkebjdcaa
open Go Go.RowKit Go.ChangeShapes Go.WideShapes Go.Deep
set_option linter.unusedVariables false
set_option linter.unusedSimpArgs false
set_option maxRecDepth 100000

def IsInt (W : World) (v : Value) : Prop := ∃ n, v = .int .i64 n ∧ (Lit.int .i64 n).wf = true
def IsBytes (W : World) (v : Value) : Prop := ∃ l, RdB W v l
def IsFrame (W : World) (v : Value) : Prop := ∃ f x z c k, v = frV f (.slice x f.addr.ip.length c) (.slice z f.data.length k) ∧ RdV W f x z c k

section
variable {H : Type} {enc : TypeId × Value → H} {W : World} {held : Bool} {fuel : Nat} {cs : List Value} {x : DataW H × List MemPlace}

theorem cellsB (h : DataW.trod enc Try.prog W 0 (fun _ => true) held fuel 37 cs = some x) : ∃ a c l, cs = [.slice a (List.length l) c] ∧ RdB W (.slice a l.length c) l := by
  rcases open_ints Try.underlying37 Try.underlying5 (by kernel_rfl) h with ⟨rfl, _⟩ | ⟨x, l, c, zs, rfl, _, hl, hm, hz, _, hcell, hwz⟩
  · exact ⟨none, 0, [], rfl, RdB.nil W⟩
  · obtain ⟨l', hl', hr⟩ := RdB.ofRow (a := some x) (len := l) (cap := c) (zs := zs) (.inr ⟨x, rfl, hl, hm, by simpa using hz, hcell, hwz⟩)
    subst hl'
    exact ⟨some x, c, l', rfl, hr⟩

theorem trod_at {n : Nat} {fs : Array Field} {f : Field} {k : Nat} {xs : List (DataW H × List MemPlace)} (hg : ∀ (i : Nat) (f : Field), fs[i]? = some f → DataW.trod enc Try.prog W 0 (fun _ => true) held n f.type ((cs.drop f.offset).take (Try.prog.cellsOf f.type)) = xs[i]?) (hl : xs.length = fs.size)
    (i : Nat) (hf : fs[i]? = some f) (hk : Try.prog.cellsOf f.type = k) : ∃ y, DataW.trod enc Try.prog W 0 (fun _ => true) held n f.type ((cs.drop f.offset).take k) = some y := by
  have h1 := hg i f hf
  have hi : i < xs.length := by rw [hl]; exact (Array.getElem?_eq_some_iff.1 hf).1
  rw [hk, List.getElem?_eq_getElem hi] at h1
  exact ⟨_, h1⟩

theorem cellsAd (h : DataW.trod enc Try.prog W 0 (fun _ => true) held fuel 41 cs = some x) :
    ∃ (a : AdM) (p : Option Addr) (c : Nat), cs = [.int .i64 a.kind, .slice p a.ip.length c, .string a.name, .int .i64 a.port] ∧ RdB W (.slice p a.ip.length c) a.ip ∧ a.name.size ≤ maxLen := by
  obtain ⟨xs, n, _, _, hl, hlen, hg⟩ := DataW.trod_struct Try.underlying41 h
  match cs, hl.trans (show Try.prog.cellsOf 41 = 4 by kernel_rfl) with
  | [c0, c1, c2, c3], _ =>
    obtain ⟨_, g0⟩ := trod_at hg hlen 0 rfl (show _ = 1 by kernel_rfl)
    obtain ⟨_, g1⟩ := trod_at hg hlen 1 rfl (show _ = 1 by kernel_rfl)
    obtain ⟨_, g2⟩ := trod_at hg hlen 2 rfl (show _ = 1 by kernel_rfl)
    obtain ⟨_, g3⟩ := trod_at hg hlen 3 rfl (show _ = 1 by kernel_rfl)
    obtain ⟨k, e0, _, _⟩ := DataW.trod_int Try.underlying3 g0
    obtain ⟨a, c, l, e1, hr⟩ := cellsB g1
    obtain ⟨s, e2, _, hs⟩ := DataW.trod_string Try.underlying9 g2
    obtain ⟨p, e3, _, _⟩ := DataW.trod_int Try.underlying3 g3
    injection e0 with e0
    injection e1 with e1
    injection e2 with e2
    injection e3 with e3
    subst e0 e1 e2 e3
    exact ⟨⟨k, l, s, p⟩, a, c, rfl, hr, hs⟩

theorem cellsFr (h : DataW.trod enc Try.prog W 0 (fun _ => true) held fuel 43 cs = some x) :
    ∃ f p z c k, cs = frC f (.slice p f.addr.ip.length c) (.slice z f.data.length k) ∧ RdV W f p z c k := by
  obtain ⟨xs, n, _, _, hl, hlen, hg⟩ := DataW.trod_struct Try.underlying43 h
  match cs, hl.trans (show Try.prog.cellsOf 43 = 9 by kernel_rfl) with
  | [c0, c1, c2, c3, c4, c5, c6, c7, c8], _ =>
    obtain ⟨_, g0⟩ := trod_at hg hlen 0 rfl (show _ = 1 by kernel_rfl)
    obtain ⟨_, g1⟩ := trod_at hg hlen 1 rfl (show _ = 1 by kernel_rfl)
    obtain ⟨_, g2⟩ := trod_at hg hlen 2 rfl (show _ = 1 by kernel_rfl)
    obtain ⟨_, g3⟩ := trod_at hg hlen 3 rfl (show _ = 1 by kernel_rfl)
    obtain ⟨_, g4⟩ := trod_at hg hlen 4 rfl (show _ = 4 by kernel_rfl)
    obtain ⟨_, g5⟩ := trod_at hg hlen 5 rfl (show _ = 1 by kernel_rfl)
    obtain ⟨m0, e0, _, _⟩ := DataW.trod_int Try.underlying3 g0
    obtain ⟨m1, e1, _, _⟩ := DataW.trod_int Try.underlying3 g1
    obtain ⟨m2, e2, _, _⟩ := DataW.trod_int Try.underlying3 g2
    obtain ⟨m3, e3, _, _⟩ := DataW.trod_int Try.underlying3 g3
    obtain ⟨ad, p, c, e4, hr, hs⟩ := cellsAd g4
    obtain ⟨z, k, l, e5, hd⟩ := cellsB g5
    injection e0 with e0
    injection e1 with e1
    injection e2 with e2
    injection e3 with e3
    injection e4 with e4 e6
    injection e6 with e6 e7
    injection e7 with e7 e8
    injection e8 with e8
    injection e5 with e5
    subst e0 e1 e2 e3 e4 e5 e6 e7 e8
    exact ⟨⟨m0, m1, m2, m3, ad, l⟩, p, z, c, k, rfl, hr, hd, hs⟩
end

section
variable {H : Type} {enc : TypeId × Value → H} {W : World} {base : Nat} {held : Bool} {v : Value} {d : DataW H} {p : List MemPlace}
theorem opnInt (hv : Value.okWide Try.prog W .any base 3 v) (h : DataW.Trod enc Try.prog W 0 (fun _ => true) held 3 v d p) : IsInt W v := by
  obtain ⟨n, rfl, _, _, hw⟩ := open_int Try.underlying3 hv h
  exact ⟨n, rfl, hw⟩
theorem opnBytes (hv : Value.okWide Try.prog W .any base 37 v) (h : DataW.Trod enc Try.prog W 0 (fun _ => true) held 37 v d p) : IsBytes W v := by
  obtain ⟨a, len, cap, rfl⟩ := okWide_slice Try.underlying37 hv
  obtain ⟨fuel, hf⟩ := h
  obtain ⟨a2, c2, l, e, hr⟩ := cellsB hf
  simp only [Value.cells, Array.toList, List.cons.injEq, and_true] at e
  rw [← e] at hr
  exact ⟨l, hr⟩
theorem opnFrame (hv : Value.okWide Try.prog W .any base 43 v) (h : DataW.Trod enc Try.prog W 0 (fun _ => true) held 43 v d p) : IsFrame W v := by
  obtain ⟨cs, rfl, _⟩ := okWide_struct Try.underlying43 hv
  obtain ⟨fuel, hf⟩ := h
  obtain ⟨f, x, z, c, k, e, hr⟩ := cellsFr hf
  refine ⟨f, x, z, c, k, ?_, hr⟩
  have e2 : cs.toList = frC f (.slice x f.addr.ip.length c) (.slice z f.data.length k) := e
  have e3 : cs = (frC f (.slice x f.addr.ip.length c) (.slice z f.data.length k)).toArray := by rw [← e2]
  rw [e3]
  rfl
end
end Go.Proofs.Ytkejadhkebjdcaa
