/-
  No cell of these rows narrows 'for every input' (looked for: loops, veiled, ifaces, maps, wideKeys, modest, calm, conditions, laid).
  DERIVED. THE GIVEN ROWS OF THIS SEAT. 7 by the template 'for every input the law returns true; each argument reads behind the call as it read before'; 0 by the template 'total and deterministic' (their statements: YthfdejgckcoohaaTotals.lean).
  GIVEN WITH THE SEED: the statements are not yours to turn. If you find one false, say at which input.
  Laid BY PROGRAM, IN A SANDBOX (cutbox-rows.mjs): the forced cells as the released guide's own fill.sh prints them over the translation d1c7657a2b170c7c… (all of the seat's roots in one cut). By AI agents, Wed Nov 11 2026. No macro, syntax, notation, axiom, sorry.
-/
import Derived.Test.YthfdejgckcoohaaChecked
import GoSem.Claim
import GoSem.ClaimJoined
import GoSem.ClaimMapViews
import Derived.JoinedTies
import Derived.KernelRfl
namespace Go.Proofs.Ythfdejgckcoohaa
/- THE CELL 'sum', in the pinned program and in every row, IS THE sha256 OF THE DUMP (.gsa) THAT YthfdejgckcoohaaProg.lean LOADS. Nothing in Lean hashes anything: it is a label: what it is worth is what the hold of that sum in a sandbox is worth. -/
noncomputable def Try.pinned : Pinned := { name := "ythfdejgckcoohaa", sum := "d1c7657a2b170c7ca639ba81d63428716574149e89f193275b75b8b16f12dcf6", checked := Try.checked }
namespace Rows
def none {H : Type} : Left H := { results := [], args := [] }

/-- 'sapperlaw22.SocksPieces': WHATEVER THE INPUT: true; the input reads as it did. -/
def socksPiecesSpec : ChangeSpec := { name := "socksPieces", fn := fun _ => fun
  | [d1, d2, d3, d4] => { results := [.lit (.bool true)], args := [d1, d2, d3, d4] }
  | _ => none }
def socksPiecesRow : OpenClaim := { program := "ythfdejgckcoohaa", sum := "d1c7657a2b170c7ca639ba81d63428716574149e89f193275b75b8b16f12dcf6", func := "sapper/sapperlaw22.SocksPieces", spec := "socksPieces", apart := false }
def SocksPiecesSaid : Prop := socksPiecesRow.holds Try.pinned (OpenSpec.ofChange socksPiecesSpec)

/-- ITS FALSE NEIGHBOUR: 'it returns false'. Refute it at one input. -/
def socksPiecesWrong : ChangeSpec := { name := "socksPieces", fn := fun _ => fun
  | [d1, d2, d3, d4] => { results := [.lit (.bool false)], args := [d1, d2, d3, d4] }
  | _ => none }
def SocksPiecesWrongFalsely : Prop := socksPiecesRow.holds Try.pinned (OpenSpec.ofChange socksPiecesWrong)

/-- 'sapperlaw22.SocksRefuses': WHATEVER THE INPUT: true; the input reads as it did. -/
def socksRefusesSpec : ChangeSpec := { name := "socksRefuses", fn := fun _ => fun
  | [d1, d2, d3] => { results := [.lit (.bool true)], args := [d1, d2, d3] }
  | _ => none }
def socksRefusesRow : OpenClaim := { program := "ythfdejgckcoohaa", sum := "d1c7657a2b170c7ca639ba81d63428716574149e89f193275b75b8b16f12dcf6", func := "sapper/sapperlaw22.SocksRefuses", spec := "socksRefuses", apart := false }
def SocksRefusesSaid : Prop := socksRefusesRow.holds Try.pinned (OpenSpec.ofChange socksRefusesSpec)

/-- ITS FALSE NEIGHBOUR: 'it returns false'. Refute it at one input. -/
def socksRefusesWrong : ChangeSpec := { name := "socksRefuses", fn := fun _ => fun
  | [d1, d2, d3] => { results := [.lit (.bool false)], args := [d1, d2, d3] }
  | _ => none }
def SocksRefusesWrongFalsely : Prop := socksRefusesRow.holds Try.pinned (OpenSpec.ofChange socksRefusesWrong)

/-- 'sapperlaw22.SocksCommands': WHATEVER THE INPUT: true; the input reads as it did. -/
def socksCommandsSpec : ChangeSpec := { name := "socksCommands", fn := fun _ => fun
  | [d1, d2, d3] => { results := [.lit (.bool true)], args := [d1, d2, d3] }
  | _ => none }
def socksCommandsRow : OpenClaim := { program := "ythfdejgckcoohaa", sum := "d1c7657a2b170c7ca639ba81d63428716574149e89f193275b75b8b16f12dcf6", func := "sapper/sapperlaw22.SocksCommands", spec := "socksCommands", apart := false }
def SocksCommandsSaid : Prop := socksCommandsRow.holds Try.pinned (OpenSpec.ofChange socksCommandsSpec)

/-- ITS FALSE NEIGHBOUR: 'it returns false'. Refute it at one input. -/
def socksCommandsWrong : ChangeSpec := { name := "socksCommands", fn := fun _ => fun
  | [d1, d2, d3] => { results := [.lit (.bool false)], args := [d1, d2, d3] }
  | _ => none }
def SocksCommandsWrongFalsely : Prop := socksCommandsRow.holds Try.pinned (OpenSpec.ofChange socksCommandsWrong)

/-- 'sapperlaw22.SocksPlays': WHATEVER THE INPUT: true; the input reads as it did. -/
def socksPlaysSpec : ChangeSpec := { name := "socksPlays", fn := fun _ => fun
  | [d1, d2, d3] => { results := [.lit (.bool true)], args := [d1, d2, d3] }
  | _ => none }
def socksPlaysRow : OpenClaim := { program := "ythfdejgckcoohaa", sum := "d1c7657a2b170c7ca639ba81d63428716574149e89f193275b75b8b16f12dcf6", func := "sapper/sapperlaw22.SocksPlays", spec := "socksPlays", apart := false }
def SocksPlaysSaid : Prop := socksPlaysRow.holds Try.pinned (OpenSpec.ofChange socksPlaysSpec)

/-- ITS FALSE NEIGHBOUR: 'it returns false'. Refute it at one input. -/
def socksPlaysWrong : ChangeSpec := { name := "socksPlays", fn := fun _ => fun
  | [d1, d2, d3] => { results := [.lit (.bool false)], args := [d1, d2, d3] }
  | _ => none }
def SocksPlaysWrongFalsely : Prop := socksPlaysRow.holds Try.pinned (OpenSpec.ofChange socksPlaysWrong)

/-- 'sapperlaw22.SocksNil': WHATEVER THE INPUT: true; the input reads as it did. -/
def socksNilSpec : ChangeSpec := { name := "socksNil", fn := fun _ => fun
  | [d] => { results := [.lit (.bool true)], args := [d] }
  | _ => none }
def socksNilRow : OpenClaim := { program := "ythfdejgckcoohaa", sum := "d1c7657a2b170c7ca639ba81d63428716574149e89f193275b75b8b16f12dcf6", func := "sapper/sapperlaw22.SocksNil", spec := "socksNil", apart := false }
def SocksNilSaid : Prop := socksNilRow.holds Try.pinned (OpenSpec.ofChange socksNilSpec)

/-- ITS FALSE NEIGHBOUR: 'it returns false'. Refute it at one input. -/
def socksNilWrong : ChangeSpec := { name := "socksNil", fn := fun _ => fun
  | [d] => { results := [.lit (.bool false)], args := [d] }
  | _ => none }
def SocksNilWrongFalsely : Prop := socksNilRow.holds Try.pinned (OpenSpec.ofChange socksNilWrong)

/-- 'sapperlaw22.SocksReplies': WHATEVER THE INPUT: true; the input reads as it did. -/
def socksRepliesSpec : ChangeSpec := { name := "socksReplies", fn := fun _ => fun
  | [d1, d2] => { results := [.lit (.bool true)], args := [d1, d2] }
  | _ => none }
def socksRepliesRow : OpenClaim := { program := "ythfdejgckcoohaa", sum := "d1c7657a2b170c7ca639ba81d63428716574149e89f193275b75b8b16f12dcf6", func := "sapper/sapperlaw22.SocksReplies", spec := "socksReplies", apart := false }
def SocksRepliesSaid : Prop := socksRepliesRow.holds Try.pinned (OpenSpec.ofChange socksRepliesSpec)

/-- ITS FALSE NEIGHBOUR: 'it returns false'. Refute it at one input. -/
def socksRepliesWrong : ChangeSpec := { name := "socksReplies", fn := fun _ => fun
  | [d1, d2] => { results := [.lit (.bool false)], args := [d1, d2] }
  | _ => none }
def SocksRepliesWrongFalsely : Prop := socksRepliesRow.holds Try.pinned (OpenSpec.ofChange socksRepliesWrong)

/-- 'sapperlaw22.SocksAsks': WHATEVER THE INPUT: true; the input reads as it did. -/
def socksAsksSpec : ChangeSpec := { name := "socksAsks", fn := fun _ => fun
  | [d1, d2, d3, d4, d5, d6] => { results := [.lit (.bool true)], args := [d1, d2, d3, d4, d5, d6] }
  | _ => none }
def socksAsksRow : OpenClaim := { program := "ythfdejgckcoohaa", sum := "d1c7657a2b170c7ca639ba81d63428716574149e89f193275b75b8b16f12dcf6", func := "sapper/sapperlaw22.SocksAsks", spec := "socksAsks", apart := false }
def SocksAsksSaid : Prop := socksAsksRow.holds Try.pinned (OpenSpec.ofChange socksAsksSpec)

/-- ITS FALSE NEIGHBOUR: 'it returns false'. Refute it at one input. -/
def socksAsksWrong : ChangeSpec := { name := "socksAsks", fn := fun _ => fun
  | [d1, d2, d3, d4, d5, d6] => { results := [.lit (.bool false)], args := [d1, d2, d3, d4, d5, d6] }
  | _ => none }
def SocksAsksWrongFalsely : Prop := socksAsksRow.holds Try.pinned (OpenSpec.ofChange socksAsksWrong)

/- THE SECOND FORM. 'bulk': how many values and letters a reading holds, each counted each time it is reached (what is shared counts as often as it is met; a slice's spare places count too). A statement '..UptoSaid' is the law's where the arguments, and the package variables that the reading takes, are together of bulk at most 1048576: NARROWER than '..Said'. Prove '..Said' where nothing that the law and all that it calls make is longer than what came in: it says more and counts as full. Else prove '..UptoSaid'. A law counts once. -/
mutual
def uptoBulk {H : Type} : DataW H → Nat
  | .lit (.string bytes) => bytes.length + 1
  | .lit _ => 1
  | .nil => 1
  | .ptr d => uptoBulk d + 1
  | .slice elems spare => uptoBulkAll elems + uptoBulkAll spare + 1
  | .agg parts => uptoBulkAll parts + 1
  | .iface _ d => uptoBulk d + 1
  | .map entries => uptoBulkEntries entries + 1
  | .held _ => 1
def uptoBulkAll {H : Type} : List (DataW H) → Nat
  | [] => 0
  | d :: r => uptoBulk d + uptoBulkAll r
def uptoBulkEntries {H : Type} : List (Lit × DataW H) → Nat
  | [] => 0
  | x :: r => uptoBulkEntry x + uptoBulkEntries r
def uptoBulkEntry {H : Type} : Lit × DataW H → Nat
  | (.string bytes, d) => bytes.length + uptoBulk d + 1
  | (_, d) => uptoBulk d + 1
 end
def uptoSmall : (H : Type) → List (DataW H) → Bool := fun _ ds => decide (uptoBulkAll ds ≤ 1048576)
def OpenSpec.upto (s : _root_.Go.ChangeSpec) : _root_.Go.OpenSpec := { _root_.Go.OpenSpec.ofChange s with cond := some uptoSmall }

/-- 'sapperlaw22.SocksPieces', WHERE WHAT IT READS IS OF BULK AT MOST 1048576: true; the input reads as it did. -/
def socksPiecesUptoRow : OpenClaim := { program := "ythfdejgckcoohaa", sum := "d1c7657a2b170c7ca639ba81d63428716574149e89f193275b75b8b16f12dcf6", func := "sapper/sapperlaw22.SocksPieces", spec := "socksPieces", apart := false, narrowed := true }
def SocksPiecesUptoSaid : Prop := socksPiecesUptoRow.holds Try.pinned (OpenSpec.upto socksPiecesSpec)

/-- 'sapperlaw22.SocksRefuses', WHERE WHAT IT READS IS OF BULK AT MOST 1048576: true; the input reads as it did. -/
def socksRefusesUptoRow : OpenClaim := { program := "ythfdejgckcoohaa", sum := "d1c7657a2b170c7ca639ba81d63428716574149e89f193275b75b8b16f12dcf6", func := "sapper/sapperlaw22.SocksRefuses", spec := "socksRefuses", apart := false, narrowed := true }
def SocksRefusesUptoSaid : Prop := socksRefusesUptoRow.holds Try.pinned (OpenSpec.upto socksRefusesSpec)

/-- 'sapperlaw22.SocksCommands', WHERE WHAT IT READS IS OF BULK AT MOST 1048576: true; the input reads as it did. -/
def socksCommandsUptoRow : OpenClaim := { program := "ythfdejgckcoohaa", sum := "d1c7657a2b170c7ca639ba81d63428716574149e89f193275b75b8b16f12dcf6", func := "sapper/sapperlaw22.SocksCommands", spec := "socksCommands", apart := false, narrowed := true }
def SocksCommandsUptoSaid : Prop := socksCommandsUptoRow.holds Try.pinned (OpenSpec.upto socksCommandsSpec)

/-- 'sapperlaw22.SocksPlays', WHERE WHAT IT READS IS OF BULK AT MOST 1048576: true; the input reads as it did. -/
def socksPlaysUptoRow : OpenClaim := { program := "ythfdejgckcoohaa", sum := "d1c7657a2b170c7ca639ba81d63428716574149e89f193275b75b8b16f12dcf6", func := "sapper/sapperlaw22.SocksPlays", spec := "socksPlays", apart := false, narrowed := true }
def SocksPlaysUptoSaid : Prop := socksPlaysUptoRow.holds Try.pinned (OpenSpec.upto socksPlaysSpec)

/-- 'sapperlaw22.SocksNil', WHERE WHAT IT READS IS OF BULK AT MOST 1048576: true; the input reads as it did. -/
def socksNilUptoRow : OpenClaim := { program := "ythfdejgckcoohaa", sum := "d1c7657a2b170c7ca639ba81d63428716574149e89f193275b75b8b16f12dcf6", func := "sapper/sapperlaw22.SocksNil", spec := "socksNil", apart := false, narrowed := true }
def SocksNilUptoSaid : Prop := socksNilUptoRow.holds Try.pinned (OpenSpec.upto socksNilSpec)

/-- 'sapperlaw22.SocksReplies', WHERE WHAT IT READS IS OF BULK AT MOST 1048576: true; the input reads as it did. -/
def socksRepliesUptoRow : OpenClaim := { program := "ythfdejgckcoohaa", sum := "d1c7657a2b170c7ca639ba81d63428716574149e89f193275b75b8b16f12dcf6", func := "sapper/sapperlaw22.SocksReplies", spec := "socksReplies", apart := false, narrowed := true }
def SocksRepliesUptoSaid : Prop := socksRepliesUptoRow.holds Try.pinned (OpenSpec.upto socksRepliesSpec)

/-- 'sapperlaw22.SocksAsks', WHERE WHAT IT READS IS OF BULK AT MOST 1048576: true; the input reads as it did. -/
def socksAsksUptoRow : OpenClaim := { program := "ythfdejgckcoohaa", sum := "d1c7657a2b170c7ca639ba81d63428716574149e89f193275b75b8b16f12dcf6", func := "sapper/sapperlaw22.SocksAsks", spec := "socksAsks", apart := false, narrowed := true }
def SocksAsksUptoSaid : Prop := socksAsksUptoRow.holds Try.pinned (OpenSpec.upto socksAsksSpec)

end Rows
end Go.Proofs.Ythfdejgckcoohaa
