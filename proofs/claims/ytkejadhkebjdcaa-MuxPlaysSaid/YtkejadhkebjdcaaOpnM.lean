/- Calls of the law of muxes, opened. -/
import Derived.Test.YtkejadhkebjdcaaOpn
import Derived.Test.YtkejadhkebjdcaaOpnL
namespace Go.Proofs.Ytkejadhkebjdcaa
open Go Go.RowKit Go.ChangeShapes Go.WideShapes Go.Deep
set_option linter.unusedVariables false
set_option linter.unusedSimpArgs false
set_option maxRecDepth 100000

structure CallM where
  kind : Int
  n : Int
  b : List UInt8
  f : FrM
def callC (c : CallM) (vb ip d : Value) : List Value := .int .i64 c.kind :: .int .i64 c.n :: vb :: frC c.f ip d
/-- A call, as it reads. -/
structure RdC (w : World) (m : CallM) (y x z : Option Addr) (e c k : Nat) : Prop where
  b : RdB w (.slice y m.b.length e) m.b
  f : RdV w m.f x z c k
  nw : (Lit.int .i64 m.n).wf = true
theorem RdC.mono {w w' : World} {m : CallM} {y x z : Option Addr} {e c k : Nat} (h : RdC w m y x z e c k) (hb : Below w.heap.size w w') : RdC w' m y x z e c k := ⟨h.b.mono hb, h.f.mono hb, h.nw⟩
def IsCall (W : World) (v : Value) : Prop := ∃ m y x z e c k, v = .agg (callC m (.slice y m.b.length e) (.slice x m.f.addr.ip.length c) (.slice z m.f.data.length k)).toArray ∧ RdC W m y x z e c k

section
variable {H : Type} {enc : TypeId × Value → H} {W : World} {held : Bool} {fuel : Nat} {cs : List Value} {x : DataW H × List MemPlace}
theorem cellsCall (h : DataW.trod enc Try.prog W 0 (fun _ => true) held fuel 55 cs = some x) :
    ∃ m y x z e c k, cs = callC m (.slice y m.b.length e) (.slice x m.f.addr.ip.length c) (.slice z m.f.data.length k) ∧ RdC W m y x z e c k := by
  obtain ⟨xs, n, _, _, hl, hlen, hg⟩ := DataW.trod_struct Try.underlying55 h
  match cs, hl.trans (show Try.prog.cellsOf 55 = 12 by kernel_rfl) with
  | [c0, c1, c2, c3, c4, c5, c6, c7, c8, c9, c10, c11], _ =>
    obtain ⟨_, g0⟩ := trod_at hg hlen 0 rfl (show _ = 1 by kernel_rfl)
    obtain ⟨_, g1⟩ := trod_at hg hlen 1 rfl (show _ = 1 by kernel_rfl)
    obtain ⟨_, g2⟩ := trod_at hg hlen 2 rfl (show _ = 1 by kernel_rfl)
    obtain ⟨_, g3⟩ := trod_at hg hlen 3 rfl (show _ = 9 by kernel_rfl)
    obtain ⟨m0, e0, _, _⟩ := DataW.trod_int Try.underlying3 g0
    obtain ⟨m1, e1, _, hw1⟩ := DataW.trod_int Try.underlying3 g1
    obtain ⟨z, k, l, e2, hd⟩ := cellsB g2
    obtain ⟨f, p, q, c, k2, e3, hf⟩ := cellsFr g3
    injection e0 with e0
    injection e1 with e1
    injection e2 with e2
    have e3' : [c3, c4, c5, c6, c7, c8, c9, c10, c11] = frC f (.slice p f.addr.ip.length c) (.slice q f.data.length k2) := e3
    subst e0 e1 e2
    refine ⟨⟨m0, m1, l, f⟩, z, p, q, k, c, k2, ?_, hd, hf, hw1⟩
    unfold callC
    rw [← e3']
end
section
variable {H : Type} {enc : TypeId × Value → H} {W : World} {base : Nat} {held : Bool} {v : Value} {d : DataW H} {p : List MemPlace}
theorem opnCall (hv : Value.okWide Try.prog W .any base 55 v) (h : DataW.Trod enc Try.prog W 0 (fun _ => true) held 55 v d p) : IsCall W v := by
  obtain ⟨cs, rfl, _⟩ := okWide_struct Try.underlying55 hv
  obtain ⟨fuel, hf⟩ := h
  obtain ⟨m, y, x, z, e, c, k, e1, hr⟩ := cellsCall hf
  refine ⟨m, y, x, z, e, c, k, ?_, hr⟩
  have e2 : cs.toList = callC m (.slice y m.b.length e) (.slice x m.f.addr.ip.length c) (.slice z m.f.data.length k) := e1
  rw [← e2]
end
structure CallX where
  m : CallM
  y : Option Addr
  x : Option Addr
  z : Option Addr
  e : Nat
  c : Nat
  k : Nat
def callX (s : CallX) : List Value := callC s.m (.slice s.y s.m.b.length s.e) (.slice s.x s.m.f.addr.ip.length s.c) (.slice s.z s.m.f.data.length s.k)
def RdCX (w : World) (s : CallX) : Prop := RdC w s.m s.y s.x s.z s.e s.c s.k
def IsCalls (W : World) (v : Value) : Prop := ∃ a cap l, v = .slice a (List.length l) cap ∧ RdL 12 callX RdCX W a cap l
section
variable {H : Type} {enc : TypeId × Value → H} {W : World} {base : Nat} {held : Bool} {v : Value} {d : DataW H} {p : List MemPlace}
theorem opnCalls (hv : Value.okWide Try.prog W .any base 51 v) (h : DataW.Trod enc Try.prog W 0 (fun _ => true) held 51 v d p) : IsCalls W v := by
  obtain ⟨a, len, cap, rfl⟩ := okWide_slice Try.underlying51 hv
  obtain ⟨fuel, hf⟩ := h
  obtain ⟨l, rfl, hl⟩ := openList (C := callX) (R := RdCX) (a := a) (len := len) (cap := cap) Try.underlying51 (sz := 12) (by kernel_rfl) (by decide) (fun fuel cs x h => by
      obtain ⟨m, y, x, z, e, c, k, e1, hr⟩ := cellsCall h
      exact ⟨⟨m, y, x, z, e, c, k⟩, e1, hr⟩)
    (fun y b off z v hv hc => by
      obtain rfl : v = .int .i64 y.m.kind := by simpa [callX, callC] using hv.symm
      unfold World.cell? at hc
      simp at hc
      split at hc <;> first | cases hc | (split at hc <;> cases hc)) hf
  exact ⟨a, cap, l, rfl, hl⟩
end
end Go.Proofs.Ytkejadhkebjdcaa
