/-
  No cell of these rows narrows 'for every input' (looked for: loops, veiled, ifaces, maps, wideKeys, modest, calm, conditions, laid).
  DERIVED. THE GIVEN ROWS OF THIS SEAT. 8 by the template 'for every input the law returns true; each argument reads behind the call as it read before'; 0 by the template 'total and deterministic' (their statements: YtinlemeogdnanaaTotals.lean).
  GIVEN WITH THE SEED: the statements are not yours to turn. If you find one false, say at which input.
  Laid BY PROGRAM, IN A SANDBOX (cutbox-rows.mjs): the forced cells as the released guide's own fill.sh prints them over the translation 0fe96fae2a95c6d7… (all of the seat's roots in one cut). By AI agents, Wed Nov 11 2026. No macro, syntax, notation, axiom, sorry.
-/
import Derived.Test.YtinlemeogdnanaaChecked
import GoSem.Claim
import GoSem.ClaimJoined
import GoSem.ClaimMapViews
import Derived.JoinedTies
import Derived.KernelRfl
namespace Go.Proofs.Ytinlemeogdnanaa
/- THE CELL 'sum', in the pinned program and in every row, IS THE sha256 OF THE DUMP (.gsa) THAT YtinlemeogdnanaaProg.lean LOADS. Nothing in Lean hashes anything: it is a label: what it is worth is what the hold of that sum in a sandbox is worth. -/
noncomputable def Try.pinned : Pinned := { name := "ytinlemeogdnanaa", sum := "0fe96fae2a95c6d7d0851863363793774ff43ad0cdf9fb6e41b7320cfc1b4393", checked := Try.checked }
namespace Rows
def none {H : Type} : Left H := { results := [], args := [] }

/-- 'sapperlaw20.StreamPieces': WHATEVER THE INPUT: true; the input reads as it did. -/
def streamPiecesSpec : ChangeSpec := { name := "streamPieces", fn := fun _ => fun
  | [d1, d2] => { results := [.lit (.bool true)], args := [d1, d2] }
  | _ => none }
def streamPiecesRow : OpenClaim := { program := "ytinlemeogdnanaa", sum := "0fe96fae2a95c6d7d0851863363793774ff43ad0cdf9fb6e41b7320cfc1b4393", func := "sapper/sapperlaw20.StreamPieces", spec := "streamPieces", apart := false }
def StreamPiecesSaid : Prop := streamPiecesRow.holds Try.pinned (OpenSpec.ofChange streamPiecesSpec)

/-- ITS FALSE NEIGHBOUR: 'it returns false'. Refute it at one input. -/
def streamPiecesWrong : ChangeSpec := { name := "streamPieces", fn := fun _ => fun
  | [d1, d2] => { results := [.lit (.bool false)], args := [d1, d2] }
  | _ => none }
def StreamPiecesWrongFalsely : Prop := streamPiecesRow.holds Try.pinned (OpenSpec.ofChange streamPiecesWrong)

/-- 'sapperlaw20.StreamBounds': WHATEVER THE INPUT: true; the input reads as it did. -/
def streamBoundsSpec : ChangeSpec := { name := "streamBounds", fn := fun _ => fun
  | [d1, d2, d3] => { results := [.lit (.bool true)], args := [d1, d2, d3] }
  | _ => none }
def streamBoundsRow : OpenClaim := { program := "ytinlemeogdnanaa", sum := "0fe96fae2a95c6d7d0851863363793774ff43ad0cdf9fb6e41b7320cfc1b4393", func := "sapper/sapperlaw20.StreamBounds", spec := "streamBounds", apart := false }
def StreamBoundsSaid : Prop := streamBoundsRow.holds Try.pinned (OpenSpec.ofChange streamBoundsSpec)

/-- ITS FALSE NEIGHBOUR: 'it returns false'. Refute it at one input. -/
def streamBoundsWrong : ChangeSpec := { name := "streamBounds", fn := fun _ => fun
  | [d1, d2, d3] => { results := [.lit (.bool false)], args := [d1, d2, d3] }
  | _ => none }
def StreamBoundsWrongFalsely : Prop := streamBoundsRow.holds Try.pinned (OpenSpec.ofChange streamBoundsWrong)

/-- 'sapperlaw20.StreamWindows': WHATEVER THE INPUT: true; the input reads as it did. -/
def streamWindowsSpec : ChangeSpec := { name := "streamWindows", fn := fun _ => fun
  | [d] => { results := [.lit (.bool true)], args := [d] }
  | _ => none }
def streamWindowsRow : OpenClaim := { program := "ytinlemeogdnanaa", sum := "0fe96fae2a95c6d7d0851863363793774ff43ad0cdf9fb6e41b7320cfc1b4393", func := "sapper/sapperlaw20.StreamWindows", spec := "streamWindows", apart := false }
def StreamWindowsSaid : Prop := streamWindowsRow.holds Try.pinned (OpenSpec.ofChange streamWindowsSpec)

/-- ITS FALSE NEIGHBOUR: 'it returns false'. Refute it at one input. -/
def streamWindowsWrong : ChangeSpec := { name := "streamWindows", fn := fun _ => fun
  | [d] => { results := [.lit (.bool false)], args := [d] }
  | _ => none }
def StreamWindowsWrongFalsely : Prop := streamWindowsRow.holds Try.pinned (OpenSpec.ofChange streamWindowsWrong)

/-- 'sapperlaw20.StreamOrder': WHATEVER THE INPUT: true; the input reads as it did. -/
def streamOrderSpec : ChangeSpec := { name := "streamOrder", fn := fun _ => fun
  | [d1, d2] => { results := [.lit (.bool true)], args := [d1, d2] }
  | _ => none }
def streamOrderRow : OpenClaim := { program := "ytinlemeogdnanaa", sum := "0fe96fae2a95c6d7d0851863363793774ff43ad0cdf9fb6e41b7320cfc1b4393", func := "sapper/sapperlaw20.StreamOrder", spec := "streamOrder", apart := false }
def StreamOrderSaid : Prop := streamOrderRow.holds Try.pinned (OpenSpec.ofChange streamOrderSpec)

/-- ITS FALSE NEIGHBOUR: 'it returns false'. Refute it at one input. -/
def streamOrderWrong : ChangeSpec := { name := "streamOrder", fn := fun _ => fun
  | [d1, d2] => { results := [.lit (.bool false)], args := [d1, d2] }
  | _ => none }
def StreamOrderWrongFalsely : Prop := streamOrderRow.holds Try.pinned (OpenSpec.ofChange streamOrderWrong)

/-- 'sapperlaw20.StreamHalf': WHATEVER THE INPUT: true; the input reads as it did. -/
def streamHalfSpec : ChangeSpec := { name := "streamHalf", fn := fun _ => fun
  | [d1, d2] => { results := [.lit (.bool true)], args := [d1, d2] }
  | _ => none }
def streamHalfRow : OpenClaim := { program := "ytinlemeogdnanaa", sum := "0fe96fae2a95c6d7d0851863363793774ff43ad0cdf9fb6e41b7320cfc1b4393", func := "sapper/sapperlaw20.StreamHalf", spec := "streamHalf", apart := false }
def StreamHalfSaid : Prop := streamHalfRow.holds Try.pinned (OpenSpec.ofChange streamHalfSpec)

/-- ITS FALSE NEIGHBOUR: 'it returns false'. Refute it at one input. -/
def streamHalfWrong : ChangeSpec := { name := "streamHalf", fn := fun _ => fun
  | [d1, d2] => { results := [.lit (.bool false)], args := [d1, d2] }
  | _ => none }
def StreamHalfWrongFalsely : Prop := streamHalfRow.holds Try.pinned (OpenSpec.ofChange streamHalfWrong)

/-- 'sapperlaw20.StreamPlays': WHATEVER THE INPUT: true; the input reads as it did. -/
def streamPlaysSpec : ChangeSpec := { name := "streamPlays", fn := fun _ => fun
  | [d1, d2, d3] => { results := [.lit (.bool true)], args := [d1, d2, d3] }
  | _ => none }
def streamPlaysRow : OpenClaim := { program := "ytinlemeogdnanaa", sum := "0fe96fae2a95c6d7d0851863363793774ff43ad0cdf9fb6e41b7320cfc1b4393", func := "sapper/sapperlaw20.StreamPlays", spec := "streamPlays", apart := false }
def StreamPlaysSaid : Prop := streamPlaysRow.holds Try.pinned (OpenSpec.ofChange streamPlaysSpec)

/-- ITS FALSE NEIGHBOUR: 'it returns false'. Refute it at one input. -/
def streamPlaysWrong : ChangeSpec := { name := "streamPlays", fn := fun _ => fun
  | [d1, d2, d3] => { results := [.lit (.bool false)], args := [d1, d2, d3] }
  | _ => none }
def StreamPlaysWrongFalsely : Prop := streamPlaysRow.holds Try.pinned (OpenSpec.ofChange streamPlaysWrong)

/-- 'sapperlaw20.StreamNil': WHATEVER THE INPUT: true; the input reads as it did. -/
def streamNilSpec : ChangeSpec := { name := "streamNil", fn := fun _ => fun
  | [d] => { results := [.lit (.bool true)], args := [d] }
  | _ => none }
def streamNilRow : OpenClaim := { program := "ytinlemeogdnanaa", sum := "0fe96fae2a95c6d7d0851863363793774ff43ad0cdf9fb6e41b7320cfc1b4393", func := "sapper/sapperlaw20.StreamNil", spec := "streamNil", apart := false }
def StreamNilSaid : Prop := streamNilRow.holds Try.pinned (OpenSpec.ofChange streamNilSpec)

/-- ITS FALSE NEIGHBOUR: 'it returns false'. Refute it at one input. -/
def streamNilWrong : ChangeSpec := { name := "streamNil", fn := fun _ => fun
  | [d] => { results := [.lit (.bool false)], args := [d] }
  | _ => none }
def StreamNilWrongFalsely : Prop := streamNilRow.holds Try.pinned (OpenSpec.ofChange streamNilWrong)

/-- 'sapperlaw20.StreamCut': WHATEVER THE INPUT: true; the input reads as it did. -/
def streamCutSpec : ChangeSpec := { name := "streamCut", fn := fun _ => fun
  | [d1, d2, d3] => { results := [.lit (.bool true)], args := [d1, d2, d3] }
  | _ => none }
def streamCutRow : OpenClaim := { program := "ytinlemeogdnanaa", sum := "0fe96fae2a95c6d7d0851863363793774ff43ad0cdf9fb6e41b7320cfc1b4393", func := "sapper/sapperlaw20.StreamCut", spec := "streamCut", apart := false }
def StreamCutSaid : Prop := streamCutRow.holds Try.pinned (OpenSpec.ofChange streamCutSpec)

/-- ITS FALSE NEIGHBOUR: 'it returns false'. Refute it at one input. -/
def streamCutWrong : ChangeSpec := { name := "streamCut", fn := fun _ => fun
  | [d1, d2, d3] => { results := [.lit (.bool false)], args := [d1, d2, d3] }
  | _ => none }
def StreamCutWrongFalsely : Prop := streamCutRow.holds Try.pinned (OpenSpec.ofChange streamCutWrong)

/- THE SECOND FORM. 'bulk': how many values and letters a reading holds, each counted each time it is reached (what is shared counts as often as it is met; a slice's spare places count too). A statement '..UptoSaid' is the law's where the arguments, and the package variables that the reading takes, are together of bulk at most 1048576: NARROWER than '..Said'. Prove '..Said' where nothing that the law and all that it calls make is longer than what came in: it says more and counts as full. Else prove '..UptoSaid'. A law counts once. -/
mutual
def uptoBulk {H : Type} : DataW H → Nat
  | .lit (.string bytes) => bytes.length + 1
  | .lit _ => 1
  | .nil => 1
  | .ptr d => uptoBulk d + 1
  | .slice elems spare => uptoBulkAll elems + uptoBulkAll spare + 1
  | .agg parts => uptoBulkAll parts + 1
  | .iface _ d => uptoBulk d + 1
  | .map entries => uptoBulkEntries entries + 1
  | .held _ => 1
def uptoBulkAll {H : Type} : List (DataW H) → Nat
  | [] => 0
  | d :: r => uptoBulk d + uptoBulkAll r
def uptoBulkEntries {H : Type} : List (Lit × DataW H) → Nat
  | [] => 0
  | x :: r => uptoBulkEntry x + uptoBulkEntries r
def uptoBulkEntry {H : Type} : Lit × DataW H → Nat
  | (.string bytes, d) => bytes.length + uptoBulk d + 1
  | (_, d) => uptoBulk d + 1
 end
def uptoSmall : (H : Type) → List (DataW H) → Bool := fun _ ds => decide (uptoBulkAll ds ≤ 1048576)
def OpenSpec.upto (s : _root_.Go.ChangeSpec) : _root_.Go.OpenSpec := { _root_.Go.OpenSpec.ofChange s with cond := some uptoSmall }

/-- 'sapperlaw20.StreamPieces', WHERE WHAT IT READS IS OF BULK AT MOST 1048576: true; the input reads as it did. -/
def streamPiecesUptoRow : OpenClaim := { program := "ytinlemeogdnanaa", sum := "0fe96fae2a95c6d7d0851863363793774ff43ad0cdf9fb6e41b7320cfc1b4393", func := "sapper/sapperlaw20.StreamPieces", spec := "streamPieces", apart := false, narrowed := true }
def StreamPiecesUptoSaid : Prop := streamPiecesUptoRow.holds Try.pinned (OpenSpec.upto streamPiecesSpec)

/-- 'sapperlaw20.StreamBounds', WHERE WHAT IT READS IS OF BULK AT MOST 1048576: true; the input reads as it did. -/
def streamBoundsUptoRow : OpenClaim := { program := "ytinlemeogdnanaa", sum := "0fe96fae2a95c6d7d0851863363793774ff43ad0cdf9fb6e41b7320cfc1b4393", func := "sapper/sapperlaw20.StreamBounds", spec := "streamBounds", apart := false, narrowed := true }
def StreamBoundsUptoSaid : Prop := streamBoundsUptoRow.holds Try.pinned (OpenSpec.upto streamBoundsSpec)

/-- 'sapperlaw20.StreamWindows', WHERE WHAT IT READS IS OF BULK AT MOST 1048576: true; the input reads as it did. -/
def streamWindowsUptoRow : OpenClaim := { program := "ytinlemeogdnanaa", sum := "0fe96fae2a95c6d7d0851863363793774ff43ad0cdf9fb6e41b7320cfc1b4393", func := "sapper/sapperlaw20.StreamWindows", spec := "streamWindows", apart := false, narrowed := true }
def StreamWindowsUptoSaid : Prop := streamWindowsUptoRow.holds Try.pinned (OpenSpec.upto streamWindowsSpec)

/-- 'sapperlaw20.StreamOrder', WHERE WHAT IT READS IS OF BULK AT MOST 1048576: true; the input reads as it did. -/
def streamOrderUptoRow : OpenClaim := { program := "ytinlemeogdnanaa", sum := "0fe96fae2a95c6d7d0851863363793774ff43ad0cdf9fb6e41b7320cfc1b4393", func := "sapper/sapperlaw20.StreamOrder", spec := "streamOrder", apart := false, narrowed := true }
def StreamOrderUptoSaid : Prop := streamOrderUptoRow.holds Try.pinned (OpenSpec.upto streamOrderSpec)

/-- 'sapperlaw20.StreamHalf', WHERE WHAT IT READS IS OF BULK AT MOST 1048576: true; the input reads as it did. -/
def streamHalfUptoRow : OpenClaim := { program := "ytinlemeogdnanaa", sum := "0fe96fae2a95c6d7d0851863363793774ff43ad0cdf9fb6e41b7320cfc1b4393", func := "sapper/sapperlaw20.StreamHalf", spec := "streamHalf", apart := false, narrowed := true }
def StreamHalfUptoSaid : Prop := streamHalfUptoRow.holds Try.pinned (OpenSpec.upto streamHalfSpec)

/-- 'sapperlaw20.StreamPlays', WHERE WHAT IT READS IS OF BULK AT MOST 1048576: true; the input reads as it did. -/
def streamPlaysUptoRow : OpenClaim := { program := "ytinlemeogdnanaa", sum := "0fe96fae2a95c6d7d0851863363793774ff43ad0cdf9fb6e41b7320cfc1b4393", func := "sapper/sapperlaw20.StreamPlays", spec := "streamPlays", apart := false, narrowed := true }
def StreamPlaysUptoSaid : Prop := streamPlaysUptoRow.holds Try.pinned (OpenSpec.upto streamPlaysSpec)

/-- 'sapperlaw20.StreamNil', WHERE WHAT IT READS IS OF BULK AT MOST 1048576: true; the input reads as it did. -/
def streamNilUptoRow : OpenClaim := { program := "ytinlemeogdnanaa", sum := "0fe96fae2a95c6d7d0851863363793774ff43ad0cdf9fb6e41b7320cfc1b4393", func := "sapper/sapperlaw20.StreamNil", spec := "streamNil", apart := false, narrowed := true }
def StreamNilUptoSaid : Prop := streamNilUptoRow.holds Try.pinned (OpenSpec.upto streamNilSpec)

/-- 'sapperlaw20.StreamCut', WHERE WHAT IT READS IS OF BULK AT MOST 1048576: true; the input reads as it did. -/
def streamCutUptoRow : OpenClaim := { program := "ytinlemeogdnanaa", sum := "0fe96fae2a95c6d7d0851863363793774ff43ad0cdf9fb6e41b7320cfc1b4393", func := "sapper/sapperlaw20.StreamCut", spec := "streamCut", apart := false, narrowed := true }
def StreamCutUptoSaid : Prop := streamCutUptoRow.holds Try.pinned (OpenSpec.upto streamCutSpec)

end Rows
end Go.Proofs.Ytinlemeogdnanaa
