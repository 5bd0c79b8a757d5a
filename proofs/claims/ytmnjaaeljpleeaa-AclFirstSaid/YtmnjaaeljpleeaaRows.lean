/-
  No cell of these rows narrows 'for every input' (looked for: loops, veiled, ifaces, maps, wideKeys, modest, calm, conditions, laid).
  DERIVED. THE GIVEN ROWS OF THIS SEAT. 5 by the template 'for every input the law returns true; each argument reads behind the call as it read before'; 0 by the template 'total and deterministic' (their statements: YtmnjaaeljpleeaaTotals.lean).
  GIVEN WITH THE SEED: the statements are not yours to turn. If you find one false, say at which input.
  Laid BY PROGRAM, IN A SANDBOX (cutbox-rows.mjs): the forced cells as the released guide's own fill.sh prints them over the translation 90b1518562caf7d7… (all of the seat's roots in one cut). By AI agents, Wed Nov 11 2026. No macro, syntax, notation, axiom, sorry.
-/
import Derived.Test.YtmnjaaeljpleeaaChecked
import GoSem.Claim
import GoSem.ClaimJoined
import GoSem.ClaimMapViews
import Derived.JoinedTies
import Derived.KernelRfl
namespace Go.Proofs.Ytmnjaaeljpleeaa
/- THE CELL 'sum', in the pinned program and in every row, IS THE sha256 OF THE DUMP (.gsa) THAT YtmnjaaeljpleeaaProg.lean LOADS. Nothing in Lean hashes anything: it is a label: what it is worth is what the hold of that sum in a sandbox is worth. -/
noncomputable def Try.pinned : Pinned := { name := "ytmnjaaeljpleeaa", sum := "90b1518562caf7d7a224408cf9d3a1f3d5d168238be96edd296c1c8ee637ec79", checked := Try.checked }
namespace Rows
def none {H : Type} : Left H := { results := [], args := [] }

/-- 'sapperlaw14.AclFirst': WHATEVER THE INPUT: true; the input reads as it did. -/
def aclFirstSpec : ChangeSpec := { name := "aclFirst", fn := fun _ => fun
  | [d1, d2, d3] => { results := [.lit (.bool true)], args := [d1, d2, d3] }
  | _ => none }
def aclFirstRow : OpenClaim := { program := "ytmnjaaeljpleeaa", sum := "90b1518562caf7d7a224408cf9d3a1f3d5d168238be96edd296c1c8ee637ec79", func := "sapper/sapperlaw14.AclFirst", spec := "aclFirst", unfollowed := true, recurses := true, apart := false }
def AclFirstSaid : Prop := aclFirstRow.holds Try.pinned (OpenSpec.ofChange aclFirstSpec)

/-- ITS FALSE NEIGHBOUR: 'it returns false'. Refute it at one input. -/
def aclFirstWrong : ChangeSpec := { name := "aclFirst", fn := fun _ => fun
  | [d1, d2, d3] => { results := [.lit (.bool false)], args := [d1, d2, d3] }
  | _ => none }
def AclFirstWrongFalsely : Prop := aclFirstRow.holds Try.pinned (OpenSpec.ofChange aclFirstWrong)

/-- 'sapperlaw14.AclNets': WHATEVER THE INPUT: true; the input reads as it did. -/
def aclNetsSpec : ChangeSpec := { name := "aclNets", fn := fun _ => fun
  | [d1, d2, d3, d4, d5] => { results := [.lit (.bool true)], args := [d1, d2, d3, d4, d5] }
  | _ => none }
def aclNetsRow : OpenClaim := { program := "ytmnjaaeljpleeaa", sum := "90b1518562caf7d7a224408cf9d3a1f3d5d168238be96edd296c1c8ee637ec79", func := "sapper/sapperlaw14.AclNets", spec := "aclNets", unfollowed := true, recurses := true, apart := false }
def AclNetsSaid : Prop := aclNetsRow.holds Try.pinned (OpenSpec.ofChange aclNetsSpec)

/-- ITS FALSE NEIGHBOUR: 'it returns false'. Refute it at one input. -/
def aclNetsWrong : ChangeSpec := { name := "aclNets", fn := fun _ => fun
  | [d1, d2, d3, d4, d5] => { results := [.lit (.bool false)], args := [d1, d2, d3, d4, d5] }
  | _ => none }
def AclNetsWrongFalsely : Prop := aclNetsRow.holds Try.pinned (OpenSpec.ofChange aclNetsWrong)

/-- 'sapperlaw14.AclNames': WHATEVER THE INPUT: true; the input reads as it did. -/
def aclNamesSpec : ChangeSpec := { name := "aclNames", fn := fun _ => fun
  | [d1, d2, d3] => { results := [.lit (.bool true)], args := [d1, d2, d3] }
  | _ => none }
def aclNamesRow : OpenClaim := { program := "ytmnjaaeljpleeaa", sum := "90b1518562caf7d7a224408cf9d3a1f3d5d168238be96edd296c1c8ee637ec79", func := "sapper/sapperlaw14.AclNames", spec := "aclNames", unfollowed := true, recurses := true, apart := false }
def AclNamesSaid : Prop := aclNamesRow.holds Try.pinned (OpenSpec.ofChange aclNamesSpec)

/-- ITS FALSE NEIGHBOUR: 'it returns false'. Refute it at one input. -/
def aclNamesWrong : ChangeSpec := { name := "aclNames", fn := fun _ => fun
  | [d1, d2, d3] => { results := [.lit (.bool false)], args := [d1, d2, d3] }
  | _ => none }
def AclNamesWrongFalsely : Prop := aclNamesRow.holds Try.pinned (OpenSpec.ofChange aclNamesWrong)

/-- 'sapperlaw14.AclPorts': WHATEVER THE INPUT: true; the input reads as it did. -/
def aclPortsSpec : ChangeSpec := { name := "aclPorts", fn := fun _ => fun
  | [d1, d2, d3] => { results := [.lit (.bool true)], args := [d1, d2, d3] }
  | _ => none }
def aclPortsRow : OpenClaim := { program := "ytmnjaaeljpleeaa", sum := "90b1518562caf7d7a224408cf9d3a1f3d5d168238be96edd296c1c8ee637ec79", func := "sapper/sapperlaw14.AclPorts", spec := "aclPorts", unfollowed := true, recurses := true, apart := false }
def AclPortsSaid : Prop := aclPortsRow.holds Try.pinned (OpenSpec.ofChange aclPortsSpec)

/-- ITS FALSE NEIGHBOUR: 'it returns false'. Refute it at one input. -/
def aclPortsWrong : ChangeSpec := { name := "aclPorts", fn := fun _ => fun
  | [d1, d2, d3] => { results := [.lit (.bool false)], args := [d1, d2, d3] }
  | _ => none }
def AclPortsWrongFalsely : Prop := aclPortsRow.holds Try.pinned (OpenSpec.ofChange aclPortsWrong)

/-- 'sapperlaw14.AclWider': WHATEVER THE INPUT: true; the input reads as it did. -/
def aclWiderSpec : ChangeSpec := { name := "aclWider", fn := fun _ => fun
  | [d1, d2, d3, d4] => { results := [.lit (.bool true)], args := [d1, d2, d3, d4] }
  | _ => none }
def aclWiderRow : OpenClaim := { program := "ytmnjaaeljpleeaa", sum := "90b1518562caf7d7a224408cf9d3a1f3d5d168238be96edd296c1c8ee637ec79", func := "sapper/sapperlaw14.AclWider", spec := "aclWider", unfollowed := true, recurses := true, apart := false }
def AclWiderSaid : Prop := aclWiderRow.holds Try.pinned (OpenSpec.ofChange aclWiderSpec)

/-- ITS FALSE NEIGHBOUR: 'it returns false'. Refute it at one input. -/
def aclWiderWrong : ChangeSpec := { name := "aclWider", fn := fun _ => fun
  | [d1, d2, d3, d4] => { results := [.lit (.bool false)], args := [d1, d2, d3, d4] }
  | _ => none }
def AclWiderWrongFalsely : Prop := aclWiderRow.holds Try.pinned (OpenSpec.ofChange aclWiderWrong)

/- THE SECOND FORM. 'bulk': how many values and letters a reading holds, each counted each time it is reached (what is shared counts as often as it is met; a slice's spare places count too). A statement '..UptoSaid' is the law's where the arguments, and the package variables that the reading takes, are together of bulk at most 1048576: NARROWER than '..Said'. Prove '..Said' where nothing that the law and all that it calls make is longer than what came in: it says more and counts as full. Else prove '..UptoSaid'. A law counts once. -/
mutual
def uptoBulk {H : Type} : DataW H → Nat
  | .lit (.string bytes) => bytes.length + 1
  | .lit _ => 1
  | .nil => 1
  | .ptr d => uptoBulk d + 1
  | .slice elems spare => uptoBulkAll elems + uptoBulkAll spare + 1
  | .agg parts => uptoBulkAll parts + 1
  | .iface _ d => uptoBulk d + 1
  | .map entries => uptoBulkEntries entries + 1
  | .held _ => 1
def uptoBulkAll {H : Type} : List (DataW H) → Nat
  | [] => 0
  | d :: r => uptoBulk d + uptoBulkAll r
def uptoBulkEntries {H : Type} : List (Lit × DataW H) → Nat
  | [] => 0
  | x :: r => uptoBulkEntry x + uptoBulkEntries r
def uptoBulkEntry {H : Type} : Lit × DataW H → Nat
  | (.string bytes, d) => bytes.length + uptoBulk d + 1
  | (_, d) => uptoBulk d + 1
 end
def uptoSmall : (H : Type) → List (DataW H) → Bool := fun _ ds => decide (uptoBulkAll ds ≤ 1048576)
def OpenSpec.upto (s : _root_.Go.ChangeSpec) : _root_.Go.OpenSpec := { _root_.Go.OpenSpec.ofChange s with cond := some uptoSmall }

/-- 'sapperlaw14.AclFirst', WHERE WHAT IT READS IS OF BULK AT MOST 1048576: true; the input reads as it did. -/
def aclFirstUptoRow : OpenClaim := { program := "ytmnjaaeljpleeaa", sum := "90b1518562caf7d7a224408cf9d3a1f3d5d168238be96edd296c1c8ee637ec79", func := "sapper/sapperlaw14.AclFirst", spec := "aclFirst", unfollowed := true, recurses := true, apart := false, narrowed := true }
def AclFirstUptoSaid : Prop := aclFirstUptoRow.holds Try.pinned (OpenSpec.upto aclFirstSpec)

/-- 'sapperlaw14.AclNets', WHERE WHAT IT READS IS OF BULK AT MOST 1048576: true; the input reads as it did. -/
def aclNetsUptoRow : OpenClaim := { program := "ytmnjaaeljpleeaa", sum := "90b1518562caf7d7a224408cf9d3a1f3d5d168238be96edd296c1c8ee637ec79", func := "sapper/sapperlaw14.AclNets", spec := "aclNets", unfollowed := true, recurses := true, apart := false, narrowed := true }
def AclNetsUptoSaid : Prop := aclNetsUptoRow.holds Try.pinned (OpenSpec.upto aclNetsSpec)

/-- 'sapperlaw14.AclNames', WHERE WHAT IT READS IS OF BULK AT MOST 1048576: true; the input reads as it did. -/
def aclNamesUptoRow : OpenClaim := { program := "ytmnjaaeljpleeaa", sum := "90b1518562caf7d7a224408cf9d3a1f3d5d168238be96edd296c1c8ee637ec79", func := "sapper/sapperlaw14.AclNames", spec := "aclNames", unfollowed := true, recurses := true, apart := false, narrowed := true }
def AclNamesUptoSaid : Prop := aclNamesUptoRow.holds Try.pinned (OpenSpec.upto aclNamesSpec)

/-- 'sapperlaw14.AclPorts', WHERE WHAT IT READS IS OF BULK AT MOST 1048576: true; the input reads as it did. -/
def aclPortsUptoRow : OpenClaim := { program := "ytmnjaaeljpleeaa", sum := "90b1518562caf7d7a224408cf9d3a1f3d5d168238be96edd296c1c8ee637ec79", func := "sapper/sapperlaw14.AclPorts", spec := "aclPorts", unfollowed := true, recurses := true, apart := false, narrowed := true }
def AclPortsUptoSaid : Prop := aclPortsUptoRow.holds Try.pinned (OpenSpec.upto aclPortsSpec)

/-- 'sapperlaw14.AclWider', WHERE WHAT IT READS IS OF BULK AT MOST 1048576: true; the input reads as it did. -/
def aclWiderUptoRow : OpenClaim := { program := "ytmnjaaeljpleeaa", sum := "90b1518562caf7d7a224408cf9d3a1f3d5d168238be96edd296c1c8ee637ec79", func := "sapper/sapperlaw14.AclWider", spec := "aclWider", unfollowed := true, recurses := true, apart := false, narrowed := true }
def AclWiderUptoSaid : Prop := aclWiderUptoRow.holds Try.pinned (OpenSpec.upto aclWiderSpec)

end Rows
end Go.Proofs.Ytmnjaaeljpleeaa
