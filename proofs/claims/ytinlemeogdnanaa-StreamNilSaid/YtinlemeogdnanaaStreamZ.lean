/- The law StreamNil, walked. -/
import Derived.Test.YtinlemeogdnanaaOpnC
namespace Go.Proofs.Ytinlemeogdnanaa
open Go Go.RowKit
set_option linter.unusedVariables false
set_option linter.unusedSimpArgs false
set_option maxRecDepth 100000 in
set_option maxHeartbeats 4000000 in
theorem stream_nil_law (v : Value) (w : World) (hv : IsCall w v) :
    Calls Try.prog 9 #[v] w fun e w' => e = .returned (.bool true) ∧ Below w.heap.size w w' := by
  have hs := Sat.refl w
  obtain ⟨m, y, x, z, e, c, k, rfl, hr⟩ := hv
  unfold callC frC
  have hA := fun o => hs.alloc o
  go_enter Try.func9, Try.ntmps9
  go_wp2_with fail
  refine (stream_Break_nil m.n).mono ?_
  rintro _ w1 ⟨rfl, h1⟩
  replace h1 := (hA _).under h1
  unfold frV
  have b1 : w1.cell? ⟨w.heap.size, 2, none⟩ = some _ := h1.cell 2 rfl
  have b2 : w1.cell? ⟨w.heap.size, 3, none⟩ = some _ := h1.cell 3 rfl
  have b3 : w1.cell? ⟨w.heap.size, 4, none⟩ = some _ := h1.cell 4 rfl
  have b4 : w1.cell? ⟨w.heap.size, 5, none⟩ = some _ := h1.cell 5 rfl
  have b5 : w1.cell? ⟨w.heap.size, 6, none⟩ = some _ := h1.cell 6 rfl
  have b6 : w1.cell? ⟨w.heap.size, 7, none⟩ = some _ := h1.cell 7 rfl
  have b7 : w1.cell? ⟨w.heap.size, 8, none⟩ = some _ := h1.cell 8 rfl
  have b8 : w1.cell? ⟨w.heap.size, 9, none⟩ = some _ := h1.cell 9 rfl
  have b9 : w1.cell? ⟨w.heap.size, 10, none⟩ = some _ := h1.cell 10 rfl
  have b10 : w1.cell? ⟨w.heap.size, 11, none⟩ = some _ := h1.cell 11 rfl
  have hlt : w.heap.size < w1.heap.size := h1.lt
  have hne : w1.heap.size ≠ w.heap.size := by omega
  go_wp2_with fail
  refine (stream_Got_nil m.f x z c k).mono ?_
  rintro _ w2 ⟨rfl, h2⟩
  replace h2 := (h1.alloc_ _).under h2
  clear b1 b2 b3 b4 b5 b6 b7 b8 b9 b10
  have b1 : w2.cell? ⟨w.heap.size, 2, none⟩ = some _ := h2.cell 2 rfl
  go_wp2_with fail
  refine (stream_Send_nil _).mono ?_
  rintro _ _ ⟨rfl, rfl⟩
  go_wp2_with fail
  refine stream_End_nil.mono ?_
  rintro _ _ ⟨rfl, rfl⟩
  go_wp2_with fail
  refine stream_Next_nil.mono ?_
  rintro _ _ ⟨rfl, rfl⟩
  go_wp2_with fail
  refine stream_Done_nil.mono ?_
  rintro _ _ ⟨rfl, rfl⟩
  go_wp2_with fail
  refine stream_Waits_nil.mono ?_
  rintro _ _ ⟨rfl, rfl⟩
  go_wp2_with fail
  refine stream_Id_nil.mono ?_
  rintro _ _ ⟨rfl, rfl⟩
  go_wp2_with fail
  refine (stream_awake h2).mono ?_
  rintro _ w12 ⟨rfl, h12⟩
  go_wp2_with fail
  go_ret
  exact ⟨rfl, h12.below⟩
end Go.Proofs.Ytinlemeogdnanaa
