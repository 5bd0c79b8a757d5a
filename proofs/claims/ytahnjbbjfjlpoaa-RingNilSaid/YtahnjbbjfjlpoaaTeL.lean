/- The law RingNil, walked. -/
import Derived.Test.YtahnjbbjfjlpoaaTeK
import Derived.Test.YtahnjbbjfjlpoaaOpT
namespace Go.Proofs.Ytahnjbbjfjlpoaa
open Go Go.RowKit Go.Shelf
set_option linter.unusedVariables false
set_option linter.unusedSimpArgs false
set_option maxRecDepth 100000 in
set_option maxHeartbeats 4000000 in
theorem ring_nil_law (v : Value) (w : World) (hv : IsInt w v) : Calls Try.prog 4 #[v] w fun e w' => e = .returned (.bool true) ∧ Below w.heap.size w w' := by
  obtain ⟨id, rfl, _⟩ := hv
  have hG := get_nil (w := w) id
  have hAll : ∀ W : World, Calls Try.prog 14 #[.pointer none, .int .i64 5] W (AllOk W []) := fun W => all_nil 5 (by omega)
  have hLen : ∀ W : World, Calls Try.prog 13 #[.pointer none] W fun e w' => e = .returned (.int .i64 0) ∧ W = w' := fun W => ring_Len_nil
  have hAw : ∀ W : World, Calls Try.prog 8 #[] W fun e w' => e = .returned (.bool true) ∧ Sat W w' [] := fun W => ring_awake (Sat.refl W)
  go_enter Try.func4, Try.ntmps4
  go_wp2_with fail
  refine hG.mono ?_
  rintro _ w1 ⟨hb1, ⟨t, kx, kc, rx, rc, ht, _⟩ | ⟨_, rfl⟩⟩
  case inl => cases ht
  have h1 := ((Sat.refl w).under hb1).alloc (.cells #[.int .i64 0, .slice none 0 0, .int .i64 0, .slice none 0 0] 28 (0, 0))
  go_wp2_with fail
  refine (hLen _).mono ?_
  rintro _ _ ⟨rfl, rfl⟩
  go_wp2_with fail
  refine (hAll _).mono ?_
  rintro _ w3 ⟨a, c, vs, rfl, hb3, hrow, hm, hin⟩
  have hvl : vs.length = 0 := by have := congrArg List.length hm; simpa using this
  rw [hvl]
  have h3 := h1.under hb3
  clear hvl hm
  go_wp2_with fail
  refine (hAw _).mono ?_
  rintro _ w4 ⟨rfl, h4⟩
  go_wp2_with fail
  go_ret
  exact ⟨rfl, (h3.trans h4).below⟩
end Go.Proofs.Ytahnjbbjfjlpoaa
