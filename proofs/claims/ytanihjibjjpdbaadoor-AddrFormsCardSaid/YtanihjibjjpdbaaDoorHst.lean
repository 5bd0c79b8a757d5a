/- addr.host of a name; addr.Text of an address that may not be. -/
import Derived.Test.YtanihjibjjpdbaaDoorFbt
namespace Go.Proofs.YtanihjibjjpdbaaDoor
open Go Go.RowKit
set_option linter.unusedVariables false
set_option linter.unusedSimpArgs false
section
variable {w0 w : World} {L : List Assn}
set_option maxRecDepth 100000 in
set_option maxHeartbeats 2000000 in
theorem addr_host3 (a : AdM) (x : Option Addr) (c : Nat) (hk : a.kind = 3) (hs : Sat w0 w L) :
    Calls Tryd.prog 21 #[.agg #[.int .i64 a.kind, .slice x a.ip.length c, .string a.name, .int .i64 a.port]] w fun e w' => e = .returned (.string (strOf a.name.data.toList)) ∧ Sat w0 w' L := by
  have HK := hid_ hk
  have q1 : (a.kind == 1) = false := by simp [hk]
  have q4 : (a.kind == 4) = false := by simp [hk]
  have h3 := hs.alloc2 (.cells #[.int .i64 a.kind, .slice x a.ip.length c, .string a.name, .int .i64 a.port] 25 (0, 0)) (.cells #[.slice none 0 0] 49 (0, 0))
  clear hk
  rw [strOf_data]
  go_enter Tryd.func21, Tryd.ntmps21
  go_wp2_with fail
  go_ret
  exact ⟨rfl, h3.drop.drop⟩
set_option maxRecDepth 100000 in
set_option maxHeartbeats 2000000 in
theorem addr_Text_no (a : AdM) (x : Option Addr) (c : Nat) (hnn : a.name.size ≤ maxLen) (hl : a.ip.length ≤ maxLen) (hm : a.may = false) (hs : Sat w0 w L) :
    Calls Tryd.prog 12 #[.agg #[.int .i64 a.kind, .slice x a.ip.length c, .string a.name, .int .i64 a.port]] w fun e w' => e = .returned (.string (strOf [])) ∧ Sat w0 w' L := by
  have HM := hid_ hm
  clear hm
  go_enter Tryd.func12, Tryd.ntmps12
  go_wp2_with fail
  refine (addr_May a x c hnn hl).mono ?_
  rintro _ w2 ⟨rfl, hb⟩
  rw [HM.out]
  go_wp2_with fail
  go_ret
  exact ⟨rfl, (hs.alloc_ _).under hb⟩
end
end Go.Proofs.YtanihjibjjpdbaaDoor
