/- A slice that reads as bytes as long as what is owned stays. -/
import Derived.Deep.LoopGhost
import Derived.Deep.RegionHeld3
import Derived.Deep.DeepCutAuto
import Derived.Test.YtanihjibjjpdbaaDoorAdH
namespace Go.Proofs.YtanihjibjjpdbaaDoor
open Go Go.RowKit
set_option linter.unusedVariables false
set_option linter.unusedSimpArgs false

theorem RdB.emp {w : World} {a : Addr} {c : Nat} (h : c ≤ maxLen) : RdB w (.slice (some a) 0 c) [] := ⟨some a, c, rfl, Nat.zero_le _, h, (fun e => nomatch e), fun h => absurd h (Nat.lt_irrefl _)⟩
def Vw (w0 : World) (L : List Assn) (v : Value) (l : List UInt8) : Prop := ∀ (W : World) (L' : List Assn), Sat w0 W (L' ++ L) → RdB W v l
theorem Vw.more {w0 : World} {L : List Assn} {v : Value} {l : List UInt8} (h : Vw w0 L v l) (M : List Assn) : Vw w0 (M ++ L) v l := fun W L' hs => h W (L' ++ M) (by rw [List.append_assoc]; exact hs)
theorem Vw.nil {w0 : World} {L : List Assn} : Vw w0 L (.slice none 0 0) [] := fun W _ _ => RdB.nil W
theorem Vw.cut {w0 : World} {L : List Assn} {b o c lo hi : Nat} {l : List UInt8} (h : Vw w0 L (.slice (some ⟨b, o, none⟩) l.length c) l) (h1 : lo ≤ hi) (h2 : hi ≤ l.length) : Vw w0 L (.slice (some ⟨b, o + lo, none⟩) (hi - lo) (c - lo)) ((l.drop lo).take (hi - lo)) :=
  fun W L' hs => RdB.cut (h W L' hs) h1 h2
end Go.Proofs.YtanihjibjjpdbaaDoor
