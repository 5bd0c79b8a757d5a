/- Key and awake (the laws of the filter); the law ReplayNil. -/
import Derived.Test.YtipkcbphjgmgiaaRepC
import Derived.Test.YtipkcbphjgmgiaaByt
namespace Go.Proofs.Ytipkcbphjgmgiaa
open Go Go.RowKit
set_option linter.unusedVariables false
set_option linter.unusedSimpArgs false

def keyL (b : List UInt8) : List UInt8 := b.take 32 ++ (zerosB 32).drop b.length
theorem keyL_len (b : List UInt8) : (keyL b).length = 32 := by unfold keyL; simp [zerosB]; omega

section
variable {w0 w : World} {L : List Assn}
theorem rep_Check {f : Nat} {m : FltM} {now stamp : Int} {v : Value} {e : List UInt8} (hrd : ∀ (W : World) (A : Assn), Sat w0 W (A :: L) → RdB W v e) (hs : Sat w0 w (Flt f m :: L)) :
    Calls Try.prog 24 #[.pointer (some ⟨f, 0, none⟩), .int .i64 now, .int .i64 stamp, v] w fun e' w' => e' = .returned (.int .i64 (m.says now stamp e)) ∧ Sat w0 w' (Flt f (m.check now stamp e) :: L) := by
  cases hb : FltM.bad now stamp e
  · exact rep_Check_good hrd hs hb
  · have e1 : m.says now stamp e = 1 := by unfold FltM.says; rw [hb]; rfl
    have e2 : m.check now stamp e = m := by unfold FltM.check; rw [hb]; rfl
    rw [e1, e2]
    exact rep_Check_bad (hrd _ _ hs) hs hb
theorem rep_Key {v : Value} {b : List UInt8} (hr : RdB w v b) (hs : Sat w0 w L) :
    Calls Try.prog 23 #[v] w fun e w' => ∃ a c, e = .returned (.slice a 32 c) ∧ Sat w0 w' (OwnB 5 (.slice a 32 c) (keyL b) :: L) := by
  have hmk : ∀ w : World, (Instr.makeSlice 45 (.int .i64 32) (.int .i64 32)).run Try.prog w = .ok (.slice (some ⟨w.heap.size, 0, none⟩) 32 32) (w.alloc (.cells (bytesC (zerosB 32)).toArray 5 (0, 0))) := mk_u8 32 (by omega)
  have h1 := OwnB.mk (by omega) (hs.alloc (.cells (bytesC (zerosB 32)).toArray 5 (0, 0)))
  have hr1 := hr.mono ((Below.refl _ w).alloc (Nat.le_refl _) (.cells (bytesC (zerosB 32)).toArray 5 (0, 0)))
  go_enter Try.func23, Try.ntmps23
  go_wp2_with (refine wpList_copy_bytes (w0 := w0) (p := zerosB 32) rfl _ _ rfl (zerosB_length 32) rfl rfl h1 hr1 ?_)
  intro w2 h2
  go_wp2_with fail
  go_ret
  exact ⟨_, _, rfl, h2⟩

set_option maxRecDepth 100000 in
theorem rep_awake (hs : Sat w0 w L) : Calls Try.prog 27 #[] w fun e w' => e = .returned (.bool true) ∧ Sat w0 w' L := by
  have hmk : ∀ w : World, (Instr.makeSlice 45 (.int .i64 32) (.int .i64 32)).run Try.prog w = .ok (.slice (some ⟨w.heap.size, 0, none⟩) 32 32) (w.alloc (.cells (bytesC (zerosB 32)).toArray 5 (0, 0))) := mk_u8 32 (by omega)
  have t1 : (FltM.new 5 3 10).says 12 15 (zerosB 32) = 8 := by decide +kernel
  have t2 : ((FltM.new 5 3 10).check 12 15 (zerosB 32)).says 12 16 (zerosB 32) = 0 := by decide +kernel
  have t3 : (((FltM.new 5 3 10).check 12 15 (zerosB 32)).check 12 16 (zerosB 32)).says 12 16 (zerosB 32) = 8 := by decide +kernel
  have t4 : ((((FltM.new 5 3 10).check 12 15 (zerosB 32)).check 12 16 (zerosB 32)).check 12 16 (zerosB 32)).l.length = 1 := by decide +kernel
  have t5 : ((((FltM.new 5 3 10).check 12 15 (zerosB 32)).check 12 16 (zerosB 32)).check 12 16 (zerosB 32)).since = 15 := by decide +kernel
  have T1 := hid_ t1
  have T2 := hid_ t2
  have T3 := hid_ t3
  have T4 := hid_ t4
  have T5 := hid_ t5
  clear t1 t2 t3 t4 t5
  go_enter Try.func27, Try.ntmps27
  go_wp2_with fail
  refine (rep_New 5 3 10 hs).mono ?_
  rintro _ w1 ⟨f, rfl, h1⟩
  go_wp2_with fail
  have h2 := OwnB.mk (by omega) (h1.alloc (.cells (bytesC (zerosB 32)).toArray 5 (0, 0)))
  have hrd : ∀ (W : World) (A : Assn), Sat w0 W (A :: OwnB 5 (.slice (some ⟨w1.heap.size, 0, none⟩) 32 32) (zerosB 32) :: L) → RdB W (.slice (some ⟨w1.heap.size, 0, none⟩) 32 32) (zerosB 32) := fun W A h => OwnB.rd h.swap
  refine (rep_Check hrd h2.swap).mono ?_
  rw [T1.out]
  rintro _ w3 ⟨rfl, h3⟩
  go_wp2_with fail
  refine (rep_Check hrd h3).mono ?_
  rw [T2.out]
  rintro _ w4 ⟨rfl, h4⟩
  go_wp2_with fail
  refine (rep_Check hrd h4).mono ?_
  rw [T3.out]
  rintro _ w5 ⟨rfl, h5⟩
  go_wp2_with fail
  refine (rep_Len h5).mono ?_
  rw [T4.out]
  rintro _ _ ⟨rfl, rfl⟩
  go_wp2_with fail
  refine (rep_Since h5).mono ?_
  rw [T5.out]
  rintro _ _ ⟨rfl, rfl⟩
  go_wp2_with fail
  go_ret
  exact ⟨rfl, h5.drop.drop⟩
end
end Go.Proofs.Ytipkcbphjgmgiaa
