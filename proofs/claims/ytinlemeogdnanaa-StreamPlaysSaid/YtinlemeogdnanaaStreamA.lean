/- A stream that every program must know: the law's awake, walked. -/
import Derived.Test.YtinlemeogdnanaaStreamN
import Derived.Lib.SlBytesConst
namespace Go.Proofs.Ytinlemeogdnanaa
open Go Go.RowKit
set_option linter.unusedVariables false
set_option linter.unusedSimpArgs false
section
variable {w0 w : World} {L : List Assn}

def awk1 : StM := ⟨7, 3, 3, [97, 98, 99, 100, 101], false, false, false, false⟩
def awk2 : StM := ⟨7, 0, 3, [100, 101], false, false, false, false⟩
theorem awk_next : awk1.next = awk2 := rfl
theorem awk_nextL : awk1.nextL = [FrM.dataF 7 [97, 98, 99]] := by
  have h : awk1.sent = 3 := by decide
  unfold StM.nextL
  rw [h]
  have h2 : awk1.mid.finNow = false := by decide
  rw [h2]
  rw [show awk1.wait.take 3 = [97, 98, 99] from rfl, chunk_cons (by decide), show List.drop 1000 [97, 98, 99] = ([] : List UInt8) from rfl, chunk_nil]
  rfl

theorem awk_bytes (w : World) (fr : Nat × Nat) : RdB (w.alloc (.cells #[.int .u8 97, .int .u8 98, .int .u8 99, .int .u8 100, .int .u8 101] 5 fr)) (.slice (some ⟨w.heap.size, 0, none⟩) 5 5) [97, 98, 99, 100, 101] := by
  refine ⟨_, 5, rfl, by decide, by decide, (fun e => nomatch e), fun _ => ⟨w.heap.size, 0, rfl, by simp, fun i hi => ?_⟩⟩
  have h1 : i < 5 := hi
  rw [cell_at (heap_alloc_new w _)]
  match i, h1 with
  | 0, _ => rfl
  | 1, _ => rfl
  | 2, _ => rfl
  | 3, _ => rfl
  | 4, _ => rfl

set_option maxRecDepth 100000 in
set_option maxHeartbeats 1000000 in
theorem stream_awake (hs : Sat w0 w L) :
    Calls Try.prog 11 #[] w fun e w' => e = .returned (.bool true) ∧ Sat w0 w' L := by
  have kc := fun (w : World) (C : Array Value) (n c : Nat) => Lib.run_convert_bytes_const (P := Try.prog) w 22 5 C n c Try.underlying22 Try.underlying5
  go_enter Try.func11, Try.ntmps11
  go_wp2_with fail
  refine (stream_New 7 3 (by omega) (by omega) (by omega) (by omega) hs).mono ?_
  rintro _ w1 ⟨g, rfl, h1⟩
  go_wp2_with fail
  refine (stream_Send g _ _ [97, 98, 99, 100, 101] (awk_bytes _ _) (h1.alloc_ _)).mono ?_
  rintro _ w2 ⟨rfl, h2⟩
  clear h1
  rw [show (StM.new 7 3).sendB [97, 98, 99, 100, 101] = true from rfl]
  replace h2 : Sat w0 w2 (StA g awk1 :: L) := h2
  go_wp2_with fail
  refine (stream_Next g awk1 h2).mono ?_
  rintro _ w3 ⟨v, rfl, h3⟩
  clear h2
  rw [awk_next, awk_nextL] at h3
  obtain ⟨b, off, cap, ip, d, rfl, hr⟩ := FramesA.at h3 (i := 0) rfl
  simp only [Nat.zero_mul, Nat.add_zero, List.length_cons, List.length_nil, Nat.zero_add] at hr
  have c0 : w3.cell? ⟨b, off, none⟩ = some (.int .i64 3) := hr.cell 0 _ rfl
  obtain ⟨ad, cd, rfl, _, _, _⟩ := hr.data.form
  have c8 : w3.cell? ⟨b, off + 8, none⟩ = some (.slice ad 3 cd) := hr.cell 8 _ rfl
  have hcv : (convert 22 9 (.slice ad 3 cd)).run Try.prog w3 = .ok (.string ⟨#[97, 98, 99]⟩) w3 := conv_rd (P := Try.prog) (dst := 9) Try.underlying22 Try.underlying5 Try.underlying9 hr.data
  go_wp2_with fail
  have h4 : Sat w0 w3 (StA g awk2 :: L) := h3.drop
  refine (stream_Waits g awk2 h4).mono ?_
  rintro _ _ ⟨rfl, rfl⟩
  rw [show (awk2.wait.length : Int) = 2 from rfl]
  go_wp2_with fail
  refine (stream_Id g awk2 h4).mono ?_
  rintro _ _ ⟨rfl, rfl⟩
  rw [show awk2.id = 7 from rfl]
  go_wp2_with fail
  go_ret
  exact ⟨rfl, h4.drop⟩
end
end Go.Proofs.Ytinlemeogdnanaa
