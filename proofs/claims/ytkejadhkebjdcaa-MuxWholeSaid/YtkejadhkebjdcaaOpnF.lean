/- A slice of frames that is handed in, opened; frames whose bytes are another's, as a piece. -/
import Derived.Test.YtkejadhkebjdcaaOpn
import Derived.Test.YtkejadhkebjdcaaOpnL
import Derived.Test.YtkejadhkebjdcaaFrQ
namespace Go.Proofs.Ytkejadhkebjdcaa
open Go Go.RowKit Go.ChangeShapes Go.WideShapes Go.Deep
set_option linter.unusedVariables false
set_option linter.unusedSimpArgs false
set_option maxRecDepth 100000

def IsByte (W : World) (v : Value) : Prop := ∃ x : Nat, v = .int .u8 x ∧ x < 256
theorem opnByte {H : Type} {enc : TypeId × Value → H} {W : World} {base : Nat} {held : Bool} {v : Value} {d : DataW H} {p : List MemPlace} (hv : Value.okWide Try.prog W .any base 5 v) (h : DataW.Trod enc Try.prog W 0 (fun _ => true) held 5 v d p) : IsByte W v := by
  obtain ⟨n, rfl, _, _, hw⟩ := open_int Try.underlying5 hv h
  have h1 : 0 ≤ n ∧ n ≤ 255 := by simpa [Lit.wf, IntKind.min, IntKind.max, IntKind.signed, IntKind.bits] using hw
  exact ⟨n.toNat, by rw [show ((n.toNat : Nat) : Int) = n by omega], by omega⟩
/-- A frame with its slices' headers. -/
structure FrX where
  f : FrM
  x : Option Addr
  z : Option Addr
  c : Nat
  k : Nat
def FrX.ip (y : FrX) : Value := .slice y.x y.f.addr.ip.length y.c
def FrX.d (y : FrX) : Value := .slice y.z y.f.data.length y.k
def frXC (y : FrX) : List Value := frC y.f y.ip y.d
def RdX (W : World) (y : FrX) : Prop := RdV W y.f y.x y.z y.c y.k
def IsFrames (W : World) (v : Value) : Prop := ∃ a cap l, v = .slice a (List.length l) cap ∧ RdL 9 frXC RdX W a cap l

section
variable {H : Type} {enc : TypeId × Value → H} {W : World} {base : Nat} {held : Bool} {v : Value} {d : DataW H} {p : List MemPlace}
theorem opnFrames (hv : Value.okWide Try.prog W .any base 34 v) (h : DataW.Trod enc Try.prog W 0 (fun _ => true) held 34 v d p) : IsFrames W v := by
  obtain ⟨a, len, cap, rfl⟩ := okWide_slice Try.underlying34 hv
  obtain ⟨fuel, hf⟩ := h
  obtain ⟨l, rfl, hl⟩ := openList (C := frXC) (R := RdX) (a := a) (len := len) (cap := cap) Try.underlying34 (sz := 9) (by kernel_rfl) (by decide) (fun fuel cs x h => by
      obtain ⟨f, p, z, c, k, e, hr⟩ := cellsFr h
      exact ⟨⟨f, p, z, c, k⟩, e, hr⟩)
    (fun y b off z v hv hc => by
      obtain rfl : v = .int .i64 y.f.kind := by simpa [frXC, frC] using hv.symm
      unfold World.cell? at hc
      simp at hc
      split at hc <;> first | cases hc | (split at hc <;> cases hc)) hf
  exact ⟨a, cap, l, rfl, hl⟩
end

section
variable {w0 w : World} {L : List Assn}
theorem RdL.at {W : World} {a : Option Addr} {cap : Nat} {l : List FrX} (h : RdL 9 frXC RdX W a cap l) {i : Nat} {y : FrX} (hi : l[i]? = some y) : ∃ b o, a = some ⟨b, o, none⟩ ∧ RdFr W b (o + i * 9) y.f y.ip y.d ∧ RdX W y := by
  obtain ⟨b, o, e, _, hc, hr⟩ := h.2.2 i y hi
  exact ⟨b, o, e, ⟨hc, hr.ip, hr.data⟩, hr⟩
theorem RdFrames.mono {w w' : World} {a : Option Addr} {cap : Nat} {l : List FrX} (h : RdL 9 frXC RdX w a cap l) (hb : Below w.heap.size w w') : RdL 9 frXC RdX w' a cap l := RdL.mono h hb (fun x hx => RdV.mono hx hb)
/-- A frame's cells, its bytes another's. -/
def FrS (w0 : World) (y : FrX) (cs : List Value) : Assn := fun _ => cs = frXC y ∧ RdX w0 y
abbrev FramesS (w0 : World) (v : Value) (l : List FrX) : Assn := OwnL 43 9 (FrS w0) v l
theorem FrS.mk {y : FrX} (hr : RdX w0 y) (h : Sat w0 w L) : Sat w0 w (FrS w0 y (frXC y) :: L) := (h.empI).imp (fun _ _ => ⟨rfl, hr⟩)
theorem FramesS.rd {a : Option Addr} {n c : Nat} {l : List FrX} (h : Sat w0 w (FramesS w0 (.slice a n c) l :: L)) : RdFs w a (l.map FrX.f) := fun i f hi => by
  rw [List.getElem?_map] at hi
  cases hx : l[i]? with
  | none => rw [hx] at hi; cases hi
  | some y =>
    rw [hx] at hi
    injection hi with hi
    subst hi
    obtain ⟨b, o, cap, cs, L', hv, _, hcl, hc, h1⟩ := OwnL.at h hx
    injection hv with ha
    obtain ⟨rfl, hr⟩ := h1.know (fun _ hh => hh)
    exact ⟨b, o, y.ip, y.d, ha, hc, (RdV.mono hr h.below).ip, (RdV.mono hr h.below).data⟩
end
end Go.Proofs.Ytkejadhkebjdcaa
