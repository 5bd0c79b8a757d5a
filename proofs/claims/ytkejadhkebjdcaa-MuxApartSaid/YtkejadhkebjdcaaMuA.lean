/- The law MuxApart, walked. -/
import Derived.Deep.DeepCutAuto
import Derived.Test.YtkejadhkebjdcaaMxT
import Derived.Test.YtkejadhkebjdcaaMxK
import Derived.Test.YtkejadhkebjdcaaFrQ
import Derived.Test.YtkejadhkebjdcaaOpnZ
namespace Go.Proofs.Ytkejadhkebjdcaa
open Go Go.RowKit Go.Maps
set_option linter.unusedVariables false
set_option linter.unusedSimpArgs false

/-! ### The two streams, in plain Lean -/
def apA (c : Int) (b : List UInt8) (ends : Bool) : StM := if ends then ((StM.new 2 c).send b).fin else (StM.new 2 c).send b
def apB (c : Int) (b : List UInt8) (cuts : Bool) : StM := if cuts then ((StM.new 4 c).send b).breakS 3 else (StM.new 4 c).send b
theorem send_new (i c : Int) {b : List UInt8} (h : b.length ≤ 3000) : (StM.new i c).send b = ⟨i, c, c, b, false, false, false, false⟩ := by
  unfold StM.send StM.sendB StM.closed StM.new
  simp
  intro h1
  omega
theorem apA_eq (c : Int) {b : List UInt8} (h : b.length ≤ 3000) (ends : Bool) : apA c b ends = ⟨2, c, c, b, ends, false, false, false⟩ := by
  unfold apA
  rw [send_new 2 c h]
  cases ends <;> rfl
theorem apB_eq (c : Int) {b : List UInt8} (h : b.length ≤ 3000) (cuts : Bool) : apB c b cuts = ⟨4, c, c, if cuts then [] else b, false, false, false, cuts⟩ := by
  unfold apB
  rw [send_new 4 c h]
  cases cuts
  · rfl
  · rfl
theorem apA_done (c : Int) {b : List UInt8} (h : b.length ≤ 3000) (ends : Bool) : (apA c b ends).next.done = false := by
  rw [apA_eq c h]
  unfold StM.next StM.done StM.mid
  simp
theorem apB_done (c : Int) {b : List UInt8} (h : b.length ≤ 3000) (cuts : Bool) : (apB c b cuts).next.done = cuts := by
  rw [apB_eq c h]
  unfold StM.next StM.done StM.mid
  cases cuts <;> simp
theorem apA_id (c : Int) {b : List UInt8} (h : b.length ≤ 3000) (ends : Bool) : (apA c b ends).id = 2 := by rw [apA_eq c h]
theorem apB_id (c : Int) {b : List UInt8} (h : b.length ≤ 3000) (cuts : Bool) : (apB c b cuts).id = 4 := by rw [apB_eq c h]
theorem ap_get2 {g h : Nat} {s t : StM} (hs : s.id = 2) : getM [(g, s), (h, t)] 2 = some (g, s) := by unfold getM; simp [hs]
theorem ap_get4 {g h : Nat} {s t : StM} (hs : s.id = 2) (ht : t.id = 4) : getM [(g, s), (h, t)] 4 = some (h, t) := by unfold getM; simp [hs, ht]
theorem id_send (s : StM) (b : List UInt8) : (s.send b).id = s.id := by unfold StM.send; split <;> rfl
theorem id_fin (s : StM) : s.fin.id = s.id := by unfold StM.fin; split <;> rfl
theorem id_breakS (s : StM) (k : Int) : (s.breakS k).id = s.id := by unfold StM.breakS; split <;> rfl

section
variable {w0 w : World} {L : List Assn}
/-- One stream out of a mux, and back. -/
theorem MxA.at {m : Nat} {cr mo : Int} {A B : List (Nat × StM)} {e : Nat × StM} (h : Sat w0 w (MxA m cr mo (A ++ e :: B) :: L)) :
    ∃ F : List Assn, Sat w0 w (StA e.1 e.2 :: (F ++ L)) ∧ ∀ (w' : World) (s : StM) (L' : List Assn), s.id = e.2.id → Sat w0 w' (StA e.1 s :: (F ++ L')) → Sat w0 w' (MxA m cr mo (A ++ (e.1, s) :: B) :: L') := by
  obtain ⟨b, hok, h1⟩ := MxA.opn h
  have hst : ∀ s : StM, stP (A ++ (e.1, s) :: B) = stP A ++ StA e.1 s :: stP B := fun s => by unfold stP; rw [List.map_append, List.map_cons]
  have hen : ∀ s : StM, s.id = e.2.id → ent (A ++ (e.1, s) :: B) = ent (A ++ e :: B) := fun s hs => by unfold ent; rw [List.map_append, List.map_append, List.map_cons, List.map_cons, hs]
  have hidl : ∀ s : StM, s.id = e.2.id → (A ++ (e.1, s) :: B).map (·.2.id) = (A ++ e :: B).map (·.2.id) := fun s hs => by rw [List.map_append, List.map_append, List.map_cons, List.map_cons, hs]
  refine ⟨MapP b (A ++ e :: B).length (mapD (ent (A ++ e :: B))) :: Blk m (.cells #[.int .i64 cr, .int .i64 mo, .map (some b)] 71 (0, 0)) :: (stP A ++ stP B), ?_, fun w' s L' hs h2 => ?_⟩
  · have h3 := hst e.2
    rw [show ((e.1, e.2) : Nat × StM) = e from rfl] at h3
    rw [h3] at h1
    have h4 := Sat.front (Blk m (.cells #[.int .i64 cr, .int .i64 mo, .map (some b)] 71 (0, 0)) :: MapP b (A ++ e :: B).length (mapD (ent (A ++ e :: B))) :: stP A) (L2 := stP B ++ L) (by simpa only [List.cons_append, List.append_assoc, List.nil_append] using h1)
    have h5 : Sat w0 w (StA e.1 e.2 :: MapP b (A ++ e :: B).length (mapD (ent (A ++ e :: B))) :: Blk m (.cells #[.int .i64 cr, .int .i64 mo, .map (some b)] 71 (0, 0)) :: (stP A ++ (stP B ++ L))) := Sat.re [0, 2, 1] [_, _, _] h4
    simpa only [List.cons_append, List.append_assoc, List.nil_append] using h5
  · have hok2 : OkM cr mo (A ++ (e.1, s) :: B) := ⟨hok.cr1, hok.cr2, hok.mo1, hok.mo2, by have := hok.len; simpa using this, by rw [hidl s hs]; exact hok.rise⟩
    refine MxA.shut hok2 (b := b) (n := (A ++ e :: B).length) ?_
    rw [hen s hs, hst s]
    have h3 : Sat w0 w' (StA e.1 s :: (MapP b (A ++ e :: B).length (mapD (ent (A ++ e :: B))) :: Blk m (.cells #[.int .i64 cr, .int .i64 mo, .map (some b)] 71 (0, 0)) :: (stP A ++ (stP B ++ L')))) := by simpa only [List.cons_append, List.append_assoc, List.nil_append] using h2
    have h4 := Sat.back (MapP b (A ++ e :: B).length (mapD (ent (A ++ e :: B))) :: Blk m (.cells #[.int .i64 cr, .int .i64 mo, .map (some b)] 71 (0, 0)) :: stP A) (L2 := stP B ++ L') (by simpa only [List.cons_append, List.append_assoc, List.nil_append] using h3)
    simpa only [List.cons_append, List.append_assoc, List.nil_append] using h4
theorem mux_Next {m : Nat} {cr mo : Int} {l : List (Nat × StM)} (hs : Sat w0 w (MxA m cr mo l :: L)) :
    Calls Try.prog 16 #[.pointer (some ⟨m, 0, none⟩)] w fun e w' => ∃ v, e = .returned v ∧ Sat w0 w' (FramesA v (nextsL l) :: MxA m cr mo (nextM l l.length) :: L) := callsIn_wide.1 (next_in 10 (by omega) hs)
theorem mux_Sweep {m : Nat} {cr mo : Int} {l : List (Nat × StM)} (hs : Sat w0 w (MxA m cr mo l :: L)) :
    Calls Try.prog 17 #[.pointer (some ⟨m, 0, none⟩)] w fun e w' => ∃ a c, e = .returned (.slice a (goneL l).length c) ∧ Sat w0 w' (OwnS 3 1 (.slice a (goneL l).length c) (goneL l).length ((goneL l).map encZ) :: MxA m cr mo (sweepM l) :: L) := callsIn_wide.1 (sweep_in 10 (by omega) hs)
end
end Go.Proofs.Ytkejadhkebjdcaa
