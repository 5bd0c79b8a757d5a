/-
  No cell of these rows narrows 'for every input' (looked for: loops, veiled, ifaces, maps, wideKeys, modest, calm, conditions, laid).
  DERIVED. THE GIVEN ROWS OF THIS SEAT. 9 by the template 'for every input the law returns true; each argument reads behind the call as it read before'; 0 by the template 'total and deterministic' (their statements: YtipkcbphjgmgiaaTotals.lean).
  GIVEN WITH THE SEED: the statements are not yours to turn. If you find one false, say at which input.
  Laid BY PROGRAM, IN A SANDBOX (cutbox-rows.mjs): the forced cells as the released guide's own fill.sh prints them over the translation 984f63d283310f62… (all of the seat's roots in one cut). By AI agents, Wed Nov 11 2026. No macro, syntax, notation, axiom, sorry.
-/
import Derived.Test.YtipkcbphjgmgiaaChecked
import GoSem.Claim
import GoSem.ClaimJoined
import GoSem.ClaimMapViews
import Derived.JoinedTies
import Derived.KernelRfl
namespace Go.Proofs.Ytipkcbphjgmgiaa
/- THE CELL 'sum', in the pinned program and in every row, IS THE sha256 OF THE DUMP (.gsa) THAT YtipkcbphjgmgiaaProg.lean LOADS. Nothing in Lean hashes anything: it is a label: what it is worth is what the hold of that sum in a sandbox is worth. -/
noncomputable def Try.pinned : Pinned := { name := "ytipkcbphjgmgiaa", sum := "984f63d283310f6261a4084286c0ea22a3609663c8473541f1f4639c72ce0718", checked := Try.checked }
namespace Rows
def none {H : Type} : Left H := { results := [], args := [] }

/-- 'sapperlaw19.CreditPlays': WHATEVER THE INPUT: true; the input reads as it did. -/
def creditPlaysSpec : ChangeSpec := { name := "creditPlays", fn := fun _ => fun
  | [d1, d2] => { results := [.lit (.bool true)], args := [d1, d2] }
  | _ => none }
def creditPlaysRow : OpenClaim := { program := "ytipkcbphjgmgiaa", sum := "984f63d283310f6261a4084286c0ea22a3609663c8473541f1f4639c72ce0718", func := "sapper/sapperlaw19.CreditPlays", spec := "creditPlays", apart := false }
def CreditPlaysSaid : Prop := creditPlaysRow.holds Try.pinned (OpenSpec.ofChange creditPlaysSpec)

/-- ITS FALSE NEIGHBOUR: 'it returns false'. Refute it at one input. -/
def creditPlaysWrong : ChangeSpec := { name := "creditPlays", fn := fun _ => fun
  | [d1, d2] => { results := [.lit (.bool false)], args := [d1, d2] }
  | _ => none }
def CreditPlaysWrongFalsely : Prop := creditPlaysRow.holds Try.pinned (OpenSpec.ofChange creditPlaysWrong)

/-- 'sapperlaw19.CreditNil': WHATEVER THE INPUT: true; the input reads as it did. -/
def creditNilSpec : ChangeSpec := { name := "creditNil", fn := fun _ => fun
  | [d] => { results := [.lit (.bool true)], args := [d] }
  | _ => none }
def creditNilRow : OpenClaim := { program := "ytipkcbphjgmgiaa", sum := "984f63d283310f6261a4084286c0ea22a3609663c8473541f1f4639c72ce0718", func := "sapper/sapperlaw19.CreditNil", spec := "creditNil", apart := false }
def CreditNilSaid : Prop := creditNilRow.holds Try.pinned (OpenSpec.ofChange creditNilSpec)

/-- ITS FALSE NEIGHBOUR: 'it returns false'. Refute it at one input. -/
def creditNilWrong : ChangeSpec := { name := "creditNil", fn := fun _ => fun
  | [d] => { results := [.lit (.bool false)], args := [d] }
  | _ => none }
def CreditNilWrongFalsely : Prop := creditNilRow.holds Try.pinned (OpenSpec.ofChange creditNilWrong)

/-- 'sapperlaw19.CreditSums': WHATEVER THE INPUT: true; the input reads as it did. -/
def creditSumsSpec : ChangeSpec := { name := "creditSums", fn := fun _ => fun
  | [d1, d2] => { results := [.lit (.bool true)], args := [d1, d2] }
  | _ => none }
def creditSumsRow : OpenClaim := { program := "ytipkcbphjgmgiaa", sum := "984f63d283310f6261a4084286c0ea22a3609663c8473541f1f4639c72ce0718", func := "sapper/sapperlaw19.CreditSums", spec := "creditSums", apart := false }
def CreditSumsSaid : Prop := creditSumsRow.holds Try.pinned (OpenSpec.ofChange creditSumsSpec)

/-- ITS FALSE NEIGHBOUR: 'it returns false'. Refute it at one input. -/
def creditSumsWrong : ChangeSpec := { name := "creditSums", fn := fun _ => fun
  | [d1, d2] => { results := [.lit (.bool false)], args := [d1, d2] }
  | _ => none }
def CreditSumsWrongFalsely : Prop := creditSumsRow.holds Try.pinned (OpenSpec.ofChange creditSumsWrong)

/-- 'sapperlaw19.CreditLess': WHATEVER THE INPUT: true; the input reads as it did. -/
def creditLessSpec : ChangeSpec := { name := "creditLess", fn := fun _ => fun
  | [d1, d2, d3] => { results := [.lit (.bool true)], args := [d1, d2, d3] }
  | _ => none }
def creditLessRow : OpenClaim := { program := "ytipkcbphjgmgiaa", sum := "984f63d283310f6261a4084286c0ea22a3609663c8473541f1f4639c72ce0718", func := "sapper/sapperlaw19.CreditLess", spec := "creditLess", apart := false }
def CreditLessSaid : Prop := creditLessRow.holds Try.pinned (OpenSpec.ofChange creditLessSpec)

/-- ITS FALSE NEIGHBOUR: 'it returns false'. Refute it at one input. -/
def creditLessWrong : ChangeSpec := { name := "creditLess", fn := fun _ => fun
  | [d1, d2, d3] => { results := [.lit (.bool false)], args := [d1, d2, d3] }
  | _ => none }
def CreditLessWrongFalsely : Prop := creditLessRow.holds Try.pinned (OpenSpec.ofChange creditLessWrong)

/-- 'sapperlaw16.ReplayPlays': WHATEVER THE INPUT: true; the input reads as it did. -/
def replayPlaysSpec : ChangeSpec := { name := "replayPlays", fn := fun _ => fun
  | [d1, d2, d3, d4] => { results := [.lit (.bool true)], args := [d1, d2, d3, d4] }
  | _ => none }
def replayPlaysRow : OpenClaim := { program := "ytipkcbphjgmgiaa", sum := "984f63d283310f6261a4084286c0ea22a3609663c8473541f1f4639c72ce0718", func := "sapper/sapperlaw16.ReplayPlays", spec := "replayPlays", unfollowed := true, recurses := true, apart := false }
def ReplayPlaysSaid : Prop := replayPlaysRow.holds Try.pinned (OpenSpec.ofChange replayPlaysSpec)

/-- ITS FALSE NEIGHBOUR: 'it returns false'. Refute it at one input. -/
def replayPlaysWrong : ChangeSpec := { name := "replayPlays", fn := fun _ => fun
  | [d1, d2, d3, d4] => { results := [.lit (.bool false)], args := [d1, d2, d3, d4] }
  | _ => none }
def ReplayPlaysWrongFalsely : Prop := replayPlaysRow.holds Try.pinned (OpenSpec.ofChange replayPlaysWrong)

/-- 'sapperlaw16.ReplayNil': WHATEVER THE INPUT: true; the input reads as it did. -/
def replayNilSpec : ChangeSpec := { name := "replayNil", fn := fun _ => fun
  | [d] => { results := [.lit (.bool true)], args := [d] }
  | _ => none }
def replayNilRow : OpenClaim := { program := "ytipkcbphjgmgiaa", sum := "984f63d283310f6261a4084286c0ea22a3609663c8473541f1f4639c72ce0718", func := "sapper/sapperlaw16.ReplayNil", spec := "replayNil", unfollowed := true, recurses := true, apart := false }
def ReplayNilSaid : Prop := replayNilRow.holds Try.pinned (OpenSpec.ofChange replayNilSpec)

/-- ITS FALSE NEIGHBOUR: 'it returns false'. Refute it at one input. -/
def replayNilWrong : ChangeSpec := { name := "replayNil", fn := fun _ => fun
  | [d] => { results := [.lit (.bool false)], args := [d] }
  | _ => none }
def ReplayNilWrongFalsely : Prop := replayNilRow.holds Try.pinned (OpenSpec.ofChange replayNilWrong)

/-- 'sapperlaw16.ReplayOnce': WHATEVER THE INPUT: true; the input reads as it did. -/
def replayOnceSpec : ChangeSpec := { name := "replayOnce", fn := fun _ => fun
  | [d1, d2, d3] => { results := [.lit (.bool true)], args := [d1, d2, d3] }
  | _ => none }
def replayOnceRow : OpenClaim := { program := "ytipkcbphjgmgiaa", sum := "984f63d283310f6261a4084286c0ea22a3609663c8473541f1f4639c72ce0718", func := "sapper/sapperlaw16.ReplayOnce", spec := "replayOnce", unfollowed := true, recurses := true, apart := false }
def ReplayOnceSaid : Prop := replayOnceRow.holds Try.pinned (OpenSpec.ofChange replayOnceSpec)

/-- ITS FALSE NEIGHBOUR: 'it returns false'. Refute it at one input. -/
def replayOnceWrong : ChangeSpec := { name := "replayOnce", fn := fun _ => fun
  | [d1, d2, d3] => { results := [.lit (.bool false)], args := [d1, d2, d3] }
  | _ => none }
def ReplayOnceWrongFalsely : Prop := replayOnceRow.holds Try.pinned (OpenSpec.ofChange replayOnceWrong)

/-- 'sapperlaw16.ReplayFull': WHATEVER THE INPUT: true; the input reads as it did. -/
def replayFullSpec : ChangeSpec := { name := "replayFull", fn := fun _ => fun
  | [d1, d2] => { results := [.lit (.bool true)], args := [d1, d2] }
  | _ => none }
def replayFullRow : OpenClaim := { program := "ytipkcbphjgmgiaa", sum := "984f63d283310f6261a4084286c0ea22a3609663c8473541f1f4639c72ce0718", func := "sapper/sapperlaw16.ReplayFull", spec := "replayFull", unfollowed := true, recurses := true, apart := false }
def ReplayFullSaid : Prop := replayFullRow.holds Try.pinned (OpenSpec.ofChange replayFullSpec)

/-- ITS FALSE NEIGHBOUR: 'it returns false'. Refute it at one input. -/
def replayFullWrong : ChangeSpec := { name := "replayFull", fn := fun _ => fun
  | [d1, d2] => { results := [.lit (.bool false)], args := [d1, d2] }
  | _ => none }
def ReplayFullWrongFalsely : Prop := replayFullRow.holds Try.pinned (OpenSpec.ofChange replayFullWrong)

/-- 'sapperlaw16.ReplaySpan': WHATEVER THE INPUT: true; the input reads as it did. -/
def replaySpanSpec : ChangeSpec := { name := "replaySpan", fn := fun _ => fun
  | [d1, d2, d3, d4] => { results := [.lit (.bool true)], args := [d1, d2, d3, d4] }
  | _ => none }
def replaySpanRow : OpenClaim := { program := "ytipkcbphjgmgiaa", sum := "984f63d283310f6261a4084286c0ea22a3609663c8473541f1f4639c72ce0718", func := "sapper/sapperlaw16.ReplaySpan", spec := "replaySpan", unfollowed := true, recurses := true, apart := false }
def ReplaySpanSaid : Prop := replaySpanRow.holds Try.pinned (OpenSpec.ofChange replaySpanSpec)

/-- ITS FALSE NEIGHBOUR: 'it returns false'. Refute it at one input. -/
def replaySpanWrong : ChangeSpec := { name := "replaySpan", fn := fun _ => fun
  | [d1, d2, d3, d4] => { results := [.lit (.bool false)], args := [d1, d2, d3, d4] }
  | _ => none }
def ReplaySpanWrongFalsely : Prop := replaySpanRow.holds Try.pinned (OpenSpec.ofChange replaySpanWrong)

/- THE SECOND FORM. 'bulk': how many values and letters a reading holds, each counted each time it is reached (what is shared counts as often as it is met; a slice's spare places count too). A statement '..UptoSaid' is the law's where the arguments, and the package variables that the reading takes, are together of bulk at most 1048576: NARROWER than '..Said'. Prove '..Said' where nothing that the law and all that it calls make is longer than what came in: it says more and counts as full. Else prove '..UptoSaid'. A law counts once. -/
mutual
def uptoBulk {H : Type} : DataW H → Nat
  | .lit (.string bytes) => bytes.length + 1
  | .lit _ => 1
  | .nil => 1
  | .ptr d => uptoBulk d + 1
  | .slice elems spare => uptoBulkAll elems + uptoBulkAll spare + 1
  | .agg parts => uptoBulkAll parts + 1
  | .iface _ d => uptoBulk d + 1
  | .map entries => uptoBulkEntries entries + 1
  | .held _ => 1
def uptoBulkAll {H : Type} : List (DataW H) → Nat
  | [] => 0
  | d :: r => uptoBulk d + uptoBulkAll r
def uptoBulkEntries {H : Type} : List (Lit × DataW H) → Nat
  | [] => 0
  | x :: r => uptoBulkEntry x + uptoBulkEntries r
def uptoBulkEntry {H : Type} : Lit × DataW H → Nat
  | (.string bytes, d) => bytes.length + uptoBulk d + 1
  | (_, d) => uptoBulk d + 1
 end
def uptoSmall : (H : Type) → List (DataW H) → Bool := fun _ ds => decide (uptoBulkAll ds ≤ 1048576)
def OpenSpec.upto (s : _root_.Go.ChangeSpec) : _root_.Go.OpenSpec := { _root_.Go.OpenSpec.ofChange s with cond := some uptoSmall }

/-- 'sapperlaw19.CreditPlays', WHERE WHAT IT READS IS OF BULK AT MOST 1048576: true; the input reads as it did. -/
def creditPlaysUptoRow : OpenClaim := { program := "ytipkcbphjgmgiaa", sum := "984f63d283310f6261a4084286c0ea22a3609663c8473541f1f4639c72ce0718", func := "sapper/sapperlaw19.CreditPlays", spec := "creditPlays", apart := false, narrowed := true }
def CreditPlaysUptoSaid : Prop := creditPlaysUptoRow.holds Try.pinned (OpenSpec.upto creditPlaysSpec)

/-- 'sapperlaw19.CreditNil', WHERE WHAT IT READS IS OF BULK AT MOST 1048576: true; the input reads as it did. -/
def creditNilUptoRow : OpenClaim := { program := "ytipkcbphjgmgiaa", sum := "984f63d283310f6261a4084286c0ea22a3609663c8473541f1f4639c72ce0718", func := "sapper/sapperlaw19.CreditNil", spec := "creditNil", apart := false, narrowed := true }
def CreditNilUptoSaid : Prop := creditNilUptoRow.holds Try.pinned (OpenSpec.upto creditNilSpec)

/-- 'sapperlaw19.CreditSums', WHERE WHAT IT READS IS OF BULK AT MOST 1048576: true; the input reads as it did. -/
def creditSumsUptoRow : OpenClaim := { program := "ytipkcbphjgmgiaa", sum := "984f63d283310f6261a4084286c0ea22a3609663c8473541f1f4639c72ce0718", func := "sapper/sapperlaw19.CreditSums", spec := "creditSums", apart := false, narrowed := true }
def CreditSumsUptoSaid : Prop := creditSumsUptoRow.holds Try.pinned (OpenSpec.upto creditSumsSpec)

/-- 'sapperlaw19.CreditLess', WHERE WHAT IT READS IS OF BULK AT MOST 1048576: true; the input reads as it did. -/
def creditLessUptoRow : OpenClaim := { program := "ytipkcbphjgmgiaa", sum := "984f63d283310f6261a4084286c0ea22a3609663c8473541f1f4639c72ce0718", func := "sapper/sapperlaw19.CreditLess", spec := "creditLess", apart := false, narrowed := true }
def CreditLessUptoSaid : Prop := creditLessUptoRow.holds Try.pinned (OpenSpec.upto creditLessSpec)

/-- 'sapperlaw16.ReplayPlays', WHERE WHAT IT READS IS OF BULK AT MOST 1048576: true; the input reads as it did. -/
def replayPlaysUptoRow : OpenClaim := { program := "ytipkcbphjgmgiaa", sum := "984f63d283310f6261a4084286c0ea22a3609663c8473541f1f4639c72ce0718", func := "sapper/sapperlaw16.ReplayPlays", spec := "replayPlays", unfollowed := true, recurses := true, apart := false, narrowed := true }
def ReplayPlaysUptoSaid : Prop := replayPlaysUptoRow.holds Try.pinned (OpenSpec.upto replayPlaysSpec)

/-- 'sapperlaw16.ReplayNil', WHERE WHAT IT READS IS OF BULK AT MOST 1048576: true; the input reads as it did. -/
def replayNilUptoRow : OpenClaim := { program := "ytipkcbphjgmgiaa", sum := "984f63d283310f6261a4084286c0ea22a3609663c8473541f1f4639c72ce0718", func := "sapper/sapperlaw16.ReplayNil", spec := "replayNil", unfollowed := true, recurses := true, apart := false, narrowed := true }
def ReplayNilUptoSaid : Prop := replayNilUptoRow.holds Try.pinned (OpenSpec.upto replayNilSpec)

/-- 'sapperlaw16.ReplayOnce', WHERE WHAT IT READS IS OF BULK AT MOST 1048576: true; the input reads as it did. -/
def replayOnceUptoRow : OpenClaim := { program := "ytipkcbphjgmgiaa", sum := "984f63d283310f6261a4084286c0ea22a3609663c8473541f1f4639c72ce0718", func := "sapper/sapperlaw16.ReplayOnce", spec := "replayOnce", unfollowed := true, recurses := true, apart := false, narrowed := true }
def ReplayOnceUptoSaid : Prop := replayOnceUptoRow.holds Try.pinned (OpenSpec.upto replayOnceSpec)

/-- 'sapperlaw16.ReplayFull', WHERE WHAT IT READS IS OF BULK AT MOST 1048576: true; the input reads as it did. -/
def replayFullUptoRow : OpenClaim := { program := "ytipkcbphjgmgiaa", sum := "984f63d283310f6261a4084286c0ea22a3609663c8473541f1f4639c72ce0718", func := "sapper/sapperlaw16.ReplayFull", spec := "replayFull", unfollowed := true, recurses := true, apart := false, narrowed := true }
def ReplayFullUptoSaid : Prop := replayFullUptoRow.holds Try.pinned (OpenSpec.upto replayFullSpec)

/-- 'sapperlaw16.ReplaySpan', WHERE WHAT IT READS IS OF BULK AT MOST 1048576: true; the input reads as it did. -/
def replaySpanUptoRow : OpenClaim := { program := "ytipkcbphjgmgiaa", sum := "984f63d283310f6261a4084286c0ea22a3609663c8473541f1f4639c72ce0718", func := "sapper/sapperlaw16.ReplaySpan", spec := "replaySpan", unfollowed := true, recurses := true, apart := false, narrowed := true }
def ReplaySpanUptoSaid : Prop := replaySpanUptoRow.holds Try.pinned (OpenSpec.upto replaySpanSpec)

end Rows
end Go.Proofs.Ytipkcbphjgmgiaa
