/- The law SocksNil, walked. -/
import Derived.Test.YthfdejgckcoohaaSoX
import Derived.Test.YthfdejgckcoohaaOpnZ
import Derived.Test.YthfdejgckcoohaaRefSa
namespace Go.Proofs.Ythfdejgckcoohaa
open Go Go.RowKit
set_option linter.unusedVariables false
set_option linter.unusedSimpArgs false
set_option maxRecDepth 100000 in
set_option maxHeartbeats 4000000 in
theorem socks_nil_law (v : Value) (w : World) (hv : IsCall w v) :
    Calls Try.prog 7 #[v] w fun e w' => e = .returned (.bool true) ∧ Below w.heap.size w w' := by
  have hs := Sat.refl w
  obtain ⟨c, rfl, hr⟩ := hv
  unfold soC
  have hA := hs.alloc_ (.cells #[.int .i64 c.kind, .int .i64 c.code, .slice c.p c.b.length c.cap] 42 (0, 0))
  have hn := fun W => (ref_SameAddr (w := W) AdM.zero AdM.zero none none 0 0 (RdB.nil W) (RdB.nil W))
  simp only [show sameAd AdM.zero AdM.zero = true from rfl, adC, AdM.zero, List.length_nil] at hn
  go_enter Try.func7, Try.ntmps7
  go_wp2_with fail
  refine (so_Feed_nil _).mono ?_
  rintro _ _ ⟨rfl, rfl⟩
  go_wp2_with fail
  refine (so_Reply_nil _).mono ?_
  rintro _ _ ⟨rfl, rfl⟩
  go_wp2_with fail
  refine so_State_nil.mono ?_
  rintro _ _ ⟨rfl, rfl⟩
  go_wp2_with fail
  refine (so_Addr_nil hA).mono ?_
  rintro _ w1 ⟨rfl, h1⟩
  go_wp2_with fail
  refine (hn _).mono ?_
  rintro _ w2 ⟨rfl, h2⟩
  have h3 := h1.under h2
  go_wp2_with fail
  refine (so_awake h3).mono ?_
  rintro _ w4 ⟨rfl, h4⟩
  go_wp2_with fail
  go_ret
  exact ⟨rfl, h4.below⟩
end Go.Proofs.Ythfdejgckcoohaa
