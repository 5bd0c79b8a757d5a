/-
  DERIVED. GIVEN WITH THE SEED: THE CARDS: each row of YtanihjibjjpdbaaDoorRows.lean that lists a variable, with what it lists TIED to the program's text (the seventh form; the later family's looks); each row that meets fmt, with fmt's text TOLD by the authors' own Lean function (tested against real Go, not proved from fmt's source: count such statements apart). THE CARD IS WHAT COUNTS. Prove the row's statement (the work); the ties are given (YtanihjibjjpdbaaDoorTie.lean); close each card by the builder's one call (the guide's Derived/Test/ToyasCard.lean, 'card_holds'). Laid BY PROGRAM, IN A SANDBOX (cutbox-door.mjs). By AI agents, Wed Nov 11 2026. No macro, syntax, notation, axiom, sorry.
-/
import Derived.Test.YtanihjibjjpdbaaDoorRows
import GoSem.ClaimSeven
namespace Go.Proofs.YtanihjibjjpdbaaDoor
namespace Rows

/-- THE TIED CARD OF 'sapperlaw13.AddrNames'. -/
def addrNamesCard : Claim7 := { stood := { row := addrNamesRow, standIns := [], harness := (true, "5881399b48efeff8f8eacb586496c4f11ebf6501ec2bfe3c8f88c06147a1b9f8"), looks := false }, kinds := [], alts := [], laidByText := true, laidKinds := [.data, .data, .data], laidTests := true, laidLooks := .later }
def AddrNamesCardSaid : Prop := Claim7.holds Tryd.pinned (.plain (OpenSpec.ofChange addrNamesSpec)) addrNamesCard

/-- THE TIED CARD OF 'sapperlaw13.AddrApart'. -/
def addrApartCard : Claim7 := { stood := { row := addrApartRow, standIns := [], harness := (true, "5881399b48efeff8f8eacb586496c4f11ebf6501ec2bfe3c8f88c06147a1b9f8"), looks := false }, kinds := [], alts := [], laidByText := true, laidKinds := [.data, .data, .data], laidTests := true, laidLooks := .later }
def AddrApartCardSaid : Prop := Claim7.holds Tryd.pinned (.plain (OpenSpec.ofChange addrApartSpec)) addrApartCard

/-- THE TIED CARD OF 'sapperlaw13.AddrBack'. -/
def addrBackCard : Claim7 := { stood := { row := addrBackRow, standIns := [], harness := (true, "5881399b48efeff8f8eacb586496c4f11ebf6501ec2bfe3c8f88c06147a1b9f8"), looks := false }, kinds := [], alts := [], laidByText := true, laidKinds := [.data, .data, .data], laidTests := true, laidLooks := .later }
def AddrBackCardSaid : Prop := Claim7.holds Tryd.pinned (.plain (OpenSpec.ofChange addrBackSpec)) addrBackCard

/-- THE TIED CARD OF 'sapperlaw13.AddrTwo'. -/
def addrTwoCard : Claim7 := { stood := { row := addrTwoRow, standIns := [], harness := (true, "5881399b48efeff8f8eacb586496c4f11ebf6501ec2bfe3c8f88c06147a1b9f8"), looks := false }, kinds := [], alts := [], laidByText := true, laidKinds := [.data, .data, .data], laidTests := true, laidLooks := .later }
def AddrTwoCardSaid : Prop := Claim7.holds Tryd.pinned (.plain (OpenSpec.ofChange addrTwoSpec)) addrTwoCard

/-- THE TIED CARD OF 'sapperlaw13.AddrForms'. -/
def addrFormsCard : Claim7 := { stood := { row := addrFormsRow, standIns := [], harness := (true, "5881399b48efeff8f8eacb586496c4f11ebf6501ec2bfe3c8f88c06147a1b9f8"), looks := false }, kinds := [], alts := [], laidByText := true, laidKinds := [.data, .data, .data], laidTests := true, laidLooks := .later }
def AddrFormsCardSaid : Prop := Claim7.holds Tryd.pinned (.plain (OpenSpec.ofChange addrFormsSpec)) addrFormsCard

/-- THE SECOND FORM's CARD OF 'sapperlaw13.AddrNames'. -/
def addrNamesUptoCard : Claim7 := { stood := { row := addrNamesUptoRow, standIns := [], harness := (true, "5881399b48efeff8f8eacb586496c4f11ebf6501ec2bfe3c8f88c06147a1b9f8"), looks := false }, kinds := [], alts := [], laidByText := true, laidKinds := [.data, .data, .data], laidTests := true, laidLooks := .later }
def AddrNamesUptoCardSaid : Prop := Claim7.holds Tryd.pinned (.plain (OpenSpec.upto addrNamesSpec)) addrNamesUptoCard

/-- THE SECOND FORM's CARD OF 'sapperlaw13.AddrApart'. -/
def addrApartUptoCard : Claim7 := { stood := { row := addrApartUptoRow, standIns := [], harness := (true, "5881399b48efeff8f8eacb586496c4f11ebf6501ec2bfe3c8f88c06147a1b9f8"), looks := false }, kinds := [], alts := [], laidByText := true, laidKinds := [.data, .data, .data], laidTests := true, laidLooks := .later }
def AddrApartUptoCardSaid : Prop := Claim7.holds Tryd.pinned (.plain (OpenSpec.upto addrApartSpec)) addrApartUptoCard

/-- THE SECOND FORM's CARD OF 'sapperlaw13.AddrBack'. -/
def addrBackUptoCard : Claim7 := { stood := { row := addrBackUptoRow, standIns := [], harness := (true, "5881399b48efeff8f8eacb586496c4f11ebf6501ec2bfe3c8f88c06147a1b9f8"), looks := false }, kinds := [], alts := [], laidByText := true, laidKinds := [.data, .data, .data], laidTests := true, laidLooks := .later }
def AddrBackUptoCardSaid : Prop := Claim7.holds Tryd.pinned (.plain (OpenSpec.upto addrBackSpec)) addrBackUptoCard

/-- THE SECOND FORM's CARD OF 'sapperlaw13.AddrTwo'. -/
def addrTwoUptoCard : Claim7 := { stood := { row := addrTwoUptoRow, standIns := [], harness := (true, "5881399b48efeff8f8eacb586496c4f11ebf6501ec2bfe3c8f88c06147a1b9f8"), looks := false }, kinds := [], alts := [], laidByText := true, laidKinds := [.data, .data, .data], laidTests := true, laidLooks := .later }
def AddrTwoUptoCardSaid : Prop := Claim7.holds Tryd.pinned (.plain (OpenSpec.upto addrTwoSpec)) addrTwoUptoCard

/-- THE SECOND FORM's CARD OF 'sapperlaw13.AddrForms'. -/
def addrFormsUptoCard : Claim7 := { stood := { row := addrFormsUptoRow, standIns := [], harness := (true, "5881399b48efeff8f8eacb586496c4f11ebf6501ec2bfe3c8f88c06147a1b9f8"), looks := false }, kinds := [], alts := [], laidByText := true, laidKinds := [.data, .data, .data], laidTests := true, laidLooks := .later }
def AddrFormsUptoCardSaid : Prop := Claim7.holds Tryd.pinned (.plain (OpenSpec.upto addrFormsSpec)) addrFormsUptoCard
end Rows
end Go.Proofs.YtanihjibjjpdbaaDoor
