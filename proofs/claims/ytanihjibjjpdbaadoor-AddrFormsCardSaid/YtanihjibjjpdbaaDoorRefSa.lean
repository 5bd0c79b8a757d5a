/- The document's SameAddr, walked. -/
import Derived.Test.YtanihjibjjpdbaaDoorAddrW
import Derived.Test.YtanihjibjjpdbaaDoorOwn
namespace Go.Proofs.YtanihjibjjpdbaaDoor
open Go Go.RowKit
set_option linter.unusedVariables false
set_option linter.unusedSimpArgs false
def adC (a : AdM) (ip : Value) : Value := .agg #[.int .i64 a.kind, ip, .string a.name, .int .i64 a.port]
def sameAd (a b : AdM) : Bool := a.kind == b.kind && a.ip == b.ip && a.name.data.toList == b.name.data.toList && a.port == b.port
section
variable {w0 w : World} {L : List Assn}

set_option maxRecDepth 100000 in
set_option maxHeartbeats 1000000 in
theorem ref_SameAddr (a b : AdM) (x y : Option Addr) (c d : Nat) (ha : RdB w (.slice x a.ip.length c) a.ip) (hb : RdB w (.slice y b.ip.length d) b.ip) :
    Calls Tryd.prog 14 #[adC a (.slice x a.ip.length c), adC b (.slice y b.ip.length d)] w fun e w' => e = .returned (.bool (sameAd a b)) ∧ Below w.heap.size w w' := by
  unfold adC
  have hA : ∀ o p, Sat w ((w.alloc o).alloc p) (Blk (w.heap.size + 1) p :: Blk w.heap.size o :: []) := fun o p => (Sat.refl w).alloc2 o p
  have hB : ∀ o p, Below w.heap.size w ((w.alloc o).alloc p) := fun o p => (hA o p).below
  have ka : ∀ o p, (convert 23 9 (.slice x a.ip.length c)).run Tryd.prog ((w.alloc o).alloc p) = .ok (.string (strOf a.ip)) ((w.alloc o).alloc p) := fun o p => conv_rd (P := Tryd.prog) (dst := 9) Tryd.underlying23 Tryd.underlying5 Tryd.underlying9 (ha.mono (hB _ _))
  have kb : ∀ o p, (convert 23 9 (.slice y b.ip.length d)).run Tryd.prog ((w.alloc o).alloc p) = .ok (.string (strOf b.ip)) ((w.alloc o).alloc p) := fun o p => conv_rd (P := Tryd.prog) (dst := 9) Tryd.underlying23 Tryd.underlying5 Tryd.underlying9 (hb.mono (hB _ _))
  have e1 := hid_ (show sameAd a b = (a.kind == b.kind && (strOf a.ip).data.toList == (strOf b.ip).data.toList && a.name.data.toList == b.name.data.toList && a.port == b.port) by unfold sameAd; rw [strOf_toList, strOf_toList])
  go_enter Tryd.func14, Tryd.ntmps14
  go_wp2
  all_goals
    go_ret
    exact ⟨ret_bool (by rw [e1.out]; (try simp only [ByteArray.toList_eq] at *); simp_all), hB _ _⟩
end
end Go.Proofs.YtanihjibjjpdbaaDoor
