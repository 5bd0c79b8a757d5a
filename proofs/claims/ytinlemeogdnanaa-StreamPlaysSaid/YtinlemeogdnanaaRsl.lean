/- The law StreamPlays: its calls opened, its helper small, the law walked. -/
import Derived.BigQuiet
import Derived.Test.YtinlemeogdnanaaRsg
import Derived.Test.YtinlemeogdnanaaOpnC
import Derived.Test.YtinlemeogdnanaaOpnL
import Derived.Test.YtinlemeogdnanaaFrQ
import Derived.Test.YtinlemeogdnanaaStreamA
import Derived.Test.YtinlemeogdnanaaStreamJ
namespace Go.Proofs.Ytinlemeogdnanaa
open Go Go.RowKit Go.ChangeShapes Go.WideShapes Go.Deep
set_option linter.unusedVariables false
set_option linter.unusedSimpArgs false

structure CallX where
  m : CallM
  y : Option Addr
  x : Option Addr
  z : Option Addr
  e : Nat
  c : Nat
  k : Nat
def callX (s : CallX) : List Value := callC s.m (.slice s.y s.m.b.length s.e) (.slice s.x s.m.f.addr.ip.length s.c) (.slice s.z s.m.f.data.length s.k)
def RdCX (w : World) (s : CallX) : Prop := RdC w s.m s.y s.x s.z s.e s.c s.k
def IsCalls (W : World) (v : Value) : Prop := ∃ a cap l, v = .slice a (List.length l) cap ∧ RdL 12 callX RdCX W a cap l
section
variable {H : Type} {enc : TypeId × Value → H} {W : World} {base : Nat} {held : Bool} {v : Value} {d : DataW H} {p : List MemPlace}
theorem opnCalls (hv : Value.okWide Try.prog W .any base 51 v) (h : DataW.Trod enc Try.prog W 0 (fun _ => true) held 51 v d p) : IsCalls W v := by
  obtain ⟨a, len, cap, rfl⟩ := okWide_slice Try.underlying51 hv
  obtain ⟨fuel, hf⟩ := h
  obtain ⟨l, rfl, hl⟩ := openList (C := callX) (R := RdCX) (a := a) (len := len) (cap := cap) Try.underlying51 (sz := 12) (by kernel_rfl) (by decide) (fun fuel cs x h => by
      obtain ⟨m, y, x, z, e, c, k, e1, hr⟩ := cellsCall h
      exact ⟨⟨m, y, x, z, e, c, k⟩, e1, hr⟩)
    (fun y b off z v hv hc => by
      obtain rfl : v = .int .i64 y.m.kind := by simpa [callX, callC] using hv.symm
      unfold World.cell? at hc
      simp at hc
      split at hc <;> first | cases hc | (split at hc <;> cases hc)) hf
  exact ⟨a, cap, l, rfl, hl⟩
end
section
variable {w0 w : World} {L : List Assn}
theorem SatX.keep2' {lk : Hp} {X : Nat → Prop} {A B : Assn} {M : List Assn} (h : SatX lk X (A :: B :: M)) : SatX lk X [A, B] := by
  obtain ⟨h1, hA, l1, h2, hB, l2, _⟩ := h
  exact ⟨h1, hA, l1, h2, hB, l2, trivial⟩
theorem keep2' {A B : Assn} {M : List Assn} (h : Sat w0 w (A :: B :: M)) : Sat w0 w [A, B] := ⟨h.1, SatX.keep2' h.2⟩
set_option maxRecDepth 100000 in
theorem law20_small (s : CallX) :
    Calls Try.prog 22 #[.agg #[.int .i64 s.m.kind, .int .i64 s.m.n, .slice s.y s.m.b.length s.e, .int .i64 s.m.f.kind, .int .i64 s.m.f.stream, .int .i64 s.m.f.code, .int .i64 s.m.f.n, .int .i64 s.m.f.addr.kind, .slice s.x s.m.f.addr.ip.length s.c, .string s.m.f.addr.name, .int .i64 s.m.f.addr.port, .slice s.z s.m.f.data.length s.k]] w fun e w' => ∃ b, e = .returned (.bool b) ∧ Below w.heap.size w w' := by
  have hb : ∀ o, Below w.heap.size w (w.alloc o) := fun o => (Below.refl _ _).alloc (Nat.le_refl _) o
  by_cases h1 : s.m.b.length ≤ 3000
  · have q1 : decide ((s.m.b.length : Int) ≤ 3000) = true := decide_eq_true (by omega)
    by_cases h2 : s.m.f.data.length ≤ 5000
    · have q2 : decide ((s.m.f.data.length : Int) ≤ 5000) = true := decide_eq_true (by omega)
      go_enter Try.func22, Try.ntmps22
      go_wp2_with fail
      go_ret
      exact ⟨_, rfl, hb _⟩
    · have q2 : decide ((s.m.f.data.length : Int) ≤ 5000) = false := decide_eq_false (by omega)
      go_enter Try.func22, Try.ntmps22
      go_wp2_with fail
      go_ret
      exact ⟨_, rfl, hb _⟩
  · have q1 : decide ((s.m.b.length : Int) ≤ 3000) = false := decide_eq_false (by omega)
    go_enter Try.func22, Try.ntmps22
    go_wp2_with fail
    go_ret
    exact ⟨_, rfl, hb _⟩
end
end Go.Proofs.Ytinlemeogdnanaa
