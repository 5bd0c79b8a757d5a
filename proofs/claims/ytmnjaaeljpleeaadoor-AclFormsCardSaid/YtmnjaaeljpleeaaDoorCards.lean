/-
  DERIVED. GIVEN WITH THE SEED: THE CARDS: each row of YtmnjaaeljpleeaaDoorRows.lean that lists a variable, with what it lists TIED to the program's text (the seventh form; the later family's looks); each row that meets fmt, with fmt's text TOLD by the authors' own Lean function (tested against real Go, not proved from fmt's source: count such statements apart). THE CARD IS WHAT COUNTS. Prove the row's statement (the work); the ties are given (YtmnjaaeljpleeaaDoorTie.lean); close each card by the builder's one call (the guide's Derived/Test/ToyasCard.lean, 'card_holds'). Laid BY PROGRAM, IN A SANDBOX (cutbox-door.mjs). By AI agents, Wed Nov 11 2026. No macro, syntax, notation, axiom, sorry.
-/
import Derived.Test.YtmnjaaeljpleeaaDoorRows
import GoSem.ClaimSeven
namespace Go.Proofs.YtmnjaaeljpleeaaDoor
namespace Rows

/-- THE TIED CARD OF 'sapperlaw14.AclForms'. -/
def aclFormsCard : Claim7 := { stood := { row := aclFormsRow, standIns := [], harness := (true, "2fc879d9b02e7100862308ba93194ad0ed7483f182c12d9b160b7b9471cee4f8"), looks := false }, kinds := [], alts := [], laidByText := true, laidKinds := [.data, .data, .data], laidTests := true, laidLooks := .later }
def AclFormsCardSaid : Prop := Claim7.holds Tryd.pinned (.plain (OpenSpec.ofChange aclFormsSpec)) aclFormsCard

/-- THE SECOND FORM's CARD OF 'sapperlaw14.AclForms'. -/
def aclFormsUptoCard : Claim7 := { stood := { row := aclFormsUptoRow, standIns := [], harness := (true, "2fc879d9b02e7100862308ba93194ad0ed7483f182c12d9b160b7b9471cee4f8"), looks := false }, kinds := [], alts := [], laidByText := true, laidKinds := [.data, .data, .data], laidTests := true, laidLooks := .later }
def AclFormsUptoCardSaid : Prop := Claim7.holds Tryd.pinned (.plain (OpenSpec.upto aclFormsSpec)) aclFormsUptoCard
end Rows
end Go.Proofs.YtmnjaaeljpleeaaDoor
