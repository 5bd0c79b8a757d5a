/- What an end says (the law of streams), opened; a slice of such. -/
import Derived.Test.YtinlemeogdnanaaOpn
import Derived.Test.YtinlemeogdnanaaOpnL
namespace Go.Proofs.Ytinlemeogdnanaa
open Go Go.RowKit Go.ChangeShapes Go.WideShapes Go.Deep
set_option linter.unusedVariables false
set_option linter.unusedSimpArgs false

structure SayM where
  left : Bool
  ends : Bool
  moves : Bool
  x : Option Addr
  b : List UInt8
  c : Nat
def sayC (s : SayM) : List Value := [.bool s.left, .bool s.ends, .bool s.moves, .slice s.x s.b.length s.c]
def RdSay (w : World) (s : SayM) : Prop := RdB w (.slice s.x s.b.length s.c) s.b
def IsSays (W : World) (v : Value) : Prop := ∃ a cap l, v = .slice a (List.length l) cap ∧ RdL 4 sayC RdSay W a cap l

section
variable {H : Type} {enc : TypeId × Value → H} {W : World} {held : Bool} {fuel : Nat} {cs : List Value} {x : DataW H × List MemPlace}
theorem cellsSay (h : DataW.trod enc Try.prog W 0 (fun _ => true) held fuel 46 cs = some x) : ∃ s : SayM, cs = sayC s ∧ RdSay W s := by
  obtain ⟨xs, n, _, _, hl, hlen, hg⟩ := DataW.trod_struct Try.underlying46 h
  match cs, hl.trans (show Try.prog.cellsOf 46 = 4 by kernel_rfl) with
  | [c0, c1, c2, c3], _ =>
    obtain ⟨_, g0⟩ := trod_at hg hlen 0 rfl (show _ = 1 by kernel_rfl)
    obtain ⟨_, g1⟩ := trod_at hg hlen 1 rfl (show _ = 1 by kernel_rfl)
    obtain ⟨_, g2⟩ := trod_at hg hlen 2 rfl (show _ = 1 by kernel_rfl)
    obtain ⟨_, g3⟩ := trod_at hg hlen 3 rfl (show _ = 1 by kernel_rfl)
    obtain ⟨m0, e0, _⟩ := DataW.trod_bool Try.underlying4 g0
    obtain ⟨m1, e1, _⟩ := DataW.trod_bool Try.underlying4 g1
    obtain ⟨m2, e2, _⟩ := DataW.trod_bool Try.underlying4 g2
    obtain ⟨p, c, l, e3, hr⟩ := cellsB g3
    injection e0 with e0
    injection e1 with e1
    injection e2 with e2
    injection e3 with e3
    subst e0 e1 e2 e3
    exact ⟨⟨m0, m1, m2, p, l, c⟩, rfl, hr⟩
end
section
variable {H : Type} {enc : TypeId × Value → H} {W : World} {base : Nat} {held : Bool} {v : Value} {d : DataW H} {p : List MemPlace}
theorem opnSays (hv : Value.okWide Try.prog W .any base 41 v) (h : DataW.Trod enc Try.prog W 0 (fun _ => true) held 41 v d p) : IsSays W v := by
  obtain ⟨a, len, cap, rfl⟩ := okWide_slice Try.underlying41 hv
  obtain ⟨fuel, hf⟩ := h
  obtain ⟨l, rfl, hl⟩ := openList (C := sayC) (R := RdSay) (a := a) (len := len) (cap := cap) Try.underlying41 (sz := 4) (by kernel_rfl) (by decide) (fun fuel cs x h => cellsSay h)
    (fun y b off z v hv hc => by
      obtain rfl : v = .bool y.left := by simpa [sayC] using hv.symm
      unfold World.cell? at hc
      simp at hc
      split at hc <;> first | cases hc | (split at hc <;> cases hc)) hf
  exact ⟨a, cap, l, rfl, hl⟩
end
end Go.Proofs.Ytinlemeogdnanaa
