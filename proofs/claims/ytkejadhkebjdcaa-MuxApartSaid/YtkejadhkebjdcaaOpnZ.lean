/- Arguments opened: integers, bools, strings, bytes, addresses, calls, slices of these. -/
import Derived.Test.YtkejadhkebjdcaaOpnL
import Derived.Test.YtkejadhkebjdcaaAddrW
import Derived.Test.YtkejadhkebjdcaaOwn
namespace Go.Proofs.Ytkejadhkebjdcaa
open Go Go.RowKit Go.ChangeShapes Go.WideShapes Go.Deep
open Go.ChangeMaps (open_string)
set_option linter.unusedVariables false
set_option maxRecDepth 100000
set_option linter.unusedSimpArgs false

def IsInt (W : World) (v : Value) : Prop := ∃ n, v = .int .i64 n ∧ (Lit.int .i64 n).wf = true
def IsBytes (W : World) (v : Value) : Prop := ∃ l, RdB W v l
def IsBool (W : World) (v : Value) : Prop := ∃ b, v = .bool b
def IsStr (W : World) (v : Value) : Prop := ∃ s, v = .string s ∧ s.size ≤ maxLen
def IsByte (W : World) (v : Value) : Prop := ∃ x : Nat, v = .int .u8 x ∧ x < 256
def adA (a : AdM) (v : Value) : Value := .agg #[.int .i64 a.kind, v, .string a.name, .int .i64 a.port]
structure RdAd (w : World) (a : AdM) (x : Option Addr) (c : Nat) : Prop where
  ip : RdB w (.slice x a.ip.length c) a.ip
  name : a.name.size ≤ maxLen
theorem RdAd.mono {w w' : World} {r : AdM} {x : Option Addr} {c : Nat} (h : RdAd w r x c) (hb : Below w.heap.size w w') : RdAd w' r x c := ⟨h.ip.mono hb, h.name⟩
def IsAddr (W : World) (v : Value) : Prop := ∃ (a : AdM) (x : Option Addr) (c : Nat), v = adA a (.slice x a.ip.length c) ∧ RdAd W a x c
def intC (n : Int) : List Value := [.int .i64 n]
def IsInts (W : World) (v : Value) : Prop := ∃ a cap l, v = .slice a (List.length l) cap ∧ RdL 1 intC (fun _ _ => True) W a cap l

section
variable {H : Type} {enc : TypeId × Value → H} {W : World} {held : Bool} {fuel : Nat} {cs : List Value} {x : DataW H × List MemPlace}
theorem cellsB (h : DataW.trod enc Try.prog W 0 (fun _ => true) held fuel 37 cs = some x) : ∃ a c l, cs = [.slice a (List.length l) c] ∧ RdB W (.slice a l.length c) l := by
  rcases open_ints Try.underlying37 Try.underlying5 (by kernel_rfl) h with ⟨rfl, _⟩ | ⟨x, l, c, zs, rfl, _, hl, hm, hz, _, hcell, hwz⟩
  · exact ⟨none, 0, [], rfl, OwnB.rd (t := 5) (OwnB.nilI (Sat.refl W))⟩
  · obtain ⟨l', hl', hr⟩ := RdB.ofRow (a := some x) (len := l) (cap := c) (zs := zs) (.inr ⟨x, rfl, hl, hm, by simpa using hz, hcell, hwz⟩)
    subst hl'
    exact ⟨some x, c, l', rfl, hr⟩

theorem trod_at {n : Nat} {fs : Array Field} {f : Field} {k : Nat} {xs : List (DataW H × List MemPlace)} (hg : ∀ (i : Nat) (f : Field), fs[i]? = some f → DataW.trod enc Try.prog W 0 (fun _ => true) held n f.type ((cs.drop f.offset).take (Try.prog.cellsOf f.type)) = xs[i]?) (hl : xs.length = fs.size)
    (i : Nat) (hf : fs[i]? = some f) (hk : Try.prog.cellsOf f.type = k) : ∃ y, DataW.trod enc Try.prog W 0 (fun _ => true) held n f.type ((cs.drop f.offset).take k) = some y := by
  have h1 := hg i f hf
  have hi : i < xs.length := by rw [hl]; exact (Array.getElem?_eq_some_iff.1 hf).1
  rw [hk, List.getElem?_eq_getElem hi] at h1
  exact ⟨_, h1⟩

theorem cellsAd (h : DataW.trod enc Try.prog W 0 (fun _ => true) held fuel 41 cs = some x) :
    ∃ (a : AdM) (p : Option Addr) (c : Nat), cs = [.int .i64 a.kind, .slice p a.ip.length c, .string a.name, .int .i64 a.port] ∧ RdB W (.slice p a.ip.length c) a.ip ∧ a.name.size ≤ maxLen := by
  obtain ⟨xs, n, _, _, hl, hlen, hg⟩ := DataW.trod_struct Try.underlying41 h
  match cs, hl.trans (show Try.prog.cellsOf 41 = 4 by kernel_rfl) with
  | [c0, c1, c2, c3], _ =>
    obtain ⟨_, g0⟩ := trod_at hg hlen 0 rfl (show _ = 1 by kernel_rfl)
    obtain ⟨_, g1⟩ := trod_at hg hlen 1 rfl (show _ = 1 by kernel_rfl)
    obtain ⟨_, g2⟩ := trod_at hg hlen 2 rfl (show _ = 1 by kernel_rfl)
    obtain ⟨_, g3⟩ := trod_at hg hlen 3 rfl (show _ = 1 by kernel_rfl)
    obtain ⟨k, e0, _, _⟩ := DataW.trod_int Try.underlying3 g0
    obtain ⟨a, c, l, e1, hr⟩ := cellsB g1
    obtain ⟨s, e2, _, hs⟩ := DataW.trod_string Try.underlying9 g2
    obtain ⟨p, e3, _, _⟩ := DataW.trod_int Try.underlying3 g3
    injection e0 with e0
    injection e1 with e1
    injection e2 with e2
    injection e3 with e3
    subst e0 e1 e2 e3
    exact ⟨⟨k, l, s, p⟩, a, c, rfl, hr, hs⟩

end
section
variable {H : Type} {enc : TypeId × Value → H} {W : World} {base : Nat} {held : Bool} {v : Value} {d : DataW H} {p : List MemPlace}
theorem opnInt (hv : Value.okWide Try.prog W .any base 3 v) (h : DataW.Trod enc Try.prog W 0 (fun _ => true) held 3 v d p) : IsInt W v := by
  obtain ⟨n, rfl, _, _, hw⟩ := open_int Try.underlying3 hv h
  exact ⟨n, rfl, hw⟩
theorem opnBytes (hv : Value.okWide Try.prog W .any base 37 v) (h : DataW.Trod enc Try.prog W 0 (fun _ => true) held 37 v d p) : IsBytes W v := by
  obtain ⟨a, len, cap, rfl⟩ := okWide_slice Try.underlying37 hv
  obtain ⟨fuel, hf⟩ := h
  obtain ⟨a2, c2, l, e, hr⟩ := cellsB hf
  simp only [Value.cells, Array.toList, List.cons.injEq, and_true] at e
  rw [← e] at hr
  exact ⟨l, hr⟩
theorem opnBool (hv : Value.okWide Try.prog W .any base 4 v) (h : DataW.Trod enc Try.prog W 0 (fun _ => true) held 4 v d p) : IsBool W v := by
  obtain ⟨b, rfl, _⟩ := open_bool Try.underlying4 hv h
  exact ⟨b, rfl⟩
theorem opnAddr (hv : Value.okWide Try.prog W .any base 41 v) (h : DataW.Trod enc Try.prog W 0 (fun _ => true) held 41 v d p) : IsAddr W v := by
  obtain ⟨cs, rfl, _⟩ := okWide_struct Try.underlying41 hv
  obtain ⟨fuel, hf⟩ := h
  obtain ⟨a, x, c, e, hr, hs⟩ := cellsAd hf
  refine ⟨a, x, c, ?_, hr, hs⟩
  have e2 : cs.toList = [.int .i64 a.kind, .slice x a.ip.length c, .string a.name, .int .i64 a.port] := e
  have e3 : cs = [.int .i64 a.kind, .slice x a.ip.length c, .string a.name, .int .i64 a.port].toArray := by rw [← e2]
  rw [e3]
  rfl
theorem opnStr (hv : Value.okWide Try.prog W .any base 9 v) (h : DataW.Trod enc Try.prog W 0 (fun _ => true) held 9 v d p) : IsStr W v := by
  obtain ⟨s, rfl, _, _, hs⟩ := open_string Try.underlying9 hv h
  exact ⟨s, rfl, hs⟩
theorem opnByte (hv : Value.okWide Try.prog W .any base 5 v) (h : DataW.Trod enc Try.prog W 0 (fun _ => true) held 5 v d p) : IsByte W v := by
  obtain ⟨n, rfl, _, _, hw⟩ := open_int Try.underlying5 hv h
  have h1 : 0 ≤ n ∧ n ≤ 255 := by simpa [Lit.wf, IntKind.min, IntKind.max, IntKind.signed, IntKind.bits] using hw
  exact ⟨n.toNat, by rw [show ((n.toNat : Nat) : Int) = n by omega], by omega⟩
theorem opnInts (hv : Value.okWide Try.prog W .any base 22 v) (h : DataW.Trod enc Try.prog W 0 (fun _ => true) held 22 v d p) : IsInts W v := by
  obtain ⟨a, len, cap, rfl⟩ := okWide_slice Try.underlying22 hv
  obtain ⟨fuel, hf⟩ := h
  obtain ⟨l, rfl, hl⟩ := openList (C := intC) (R := fun _ _ => True) (a := a) (len := len) (cap := cap) Try.underlying22 (sz := 1) (by kernel_rfl) (by decide) (fun fuel cs x h => by
      obtain ⟨k, e0, _, _⟩ := DataW.trod_int Try.underlying3 h
      exact ⟨k, e0, trivial⟩)
    (fun y b off z v hv hc => by
      obtain rfl : v = .int .i64 y := by simpa [intC] using hv.symm
      unfold World.cell? at hc
      simp at hc
      split at hc <;> first | cases hc | (split at hc <;> cases hc)) hf
  exact ⟨a, cap, l, rfl, hl⟩
end
end Go.Proofs.Ytkejadhkebjdcaa
