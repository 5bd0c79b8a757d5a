/- The filter of first messages: its messages in memory, its small functions. -/
import Derived.Test.YtipkcbphjgmgiaaChecked
import Derived.Test.YtipkcbphjgmgiaaOwn
import Derived.Shelf.SlicesQ.Load
import Derived.Deep.DeepCutAuto
import Derived.ChangeKeysEq
import Derived.Laws.StructEq
namespace Go.Proofs.Ytipkcbphjgmgiaa
open Go Go.RowKit
set_option linter.unusedVariables false
set_option linter.unusedSimpArgs false

structure MsgM where
  key : List UInt8
  stamp : Int
def msgC (m : MsgM) : List Value := bytesC m.key ++ [.int .i64 m.stamp]
def MsgM.ok (m : MsgM) : Prop := m.key.length = 32
theorem msgC_len {m : MsgM} (h : m.ok) : (msgC m).length = 33 := by
  unfold MsgM.ok at h
  simp [msgC, bytesC, h]
theorem msgC_one {m : MsgM} : ∀ u ∈ msgC m, u.oneCell' = true := by
  intro u hu
  simp only [msgC, List.mem_append, List.mem_singleton] at hu
  rcases hu with hu | rfl
  · exact bytesC_one u hu
  · rfl
def flat (l : List MsgM) : List Value := (l.map msgC).flatten
theorem flat_len {l : List MsgM} (h : ∀ m ∈ l, m.ok) : (flat l).length = l.length * 33 := by
  have := flatten_len (css := l.map msgC) (sz := 33) (fun cs hcs => by
    obtain ⟨m, hm, rfl⟩ := List.mem_map.1 hcs
    exact msgC_len (h m hm))
  simpa [flat] using this
theorem flat_get {l : List MsgM} (h : ∀ m ∈ l, m.ok) {i j : Nat} {m : MsgM} (hi : l[i]? = some m) (hj : j < 33) : (flat l)[i * 33 + j]? = (msgC m)[j]? :=
  flatten_get (css := l.map msgC) (sz := 33) (fun cs hcs => by
    obtain ⟨m, hm, rfl⟩ := List.mem_map.1 hcs
    exact msgC_len (h m hm)) (by rw [List.getElem?_map, hi]; rfl) hj
theorem flat_append (a b : List MsgM) : flat (a ++ b) = flat a ++ flat b := by simp [flat]
theorem flat_nil : flat [] = [] := rfl
theorem flat_one (m : MsgM) : flat [m] = msgC m := by simp [flat]

/-- The sizes of the two long types, under a name: so that the walk does not open their loads cell by cell. -/
def K33 : Nat := 33
def K32 : Nat := 32
theorem sz68 (w : World) : (Go.sizeOf 68).run Try.prog w = .ok K33 w := by
  show _ = Result.ok 33 w
  simp only [Try.sizeOf68]
theorem sz66 (w : World) : (Go.sizeOf 66).run Try.prog w = .ok K32 w := by
  show _ = Result.ok 32 w
  simp only [Try.sizeOf66]
attribute [local simp high] sz68 sz66

/-- A row of messages that is one's own. -/
def Msgs (v : Value) (l : List MsgM) : Assn := fun h => (∀ m ∈ l, m.ok) ∧ OwnS 68 33 v l.length (flat l) h

section
variable {w0 w : World} {L : List Assn}
theorem Msgs.opn {v : Value} {l : List MsgM} (h : Sat w0 w (Msgs v l :: L)) : (∀ m ∈ l, m.ok) ∧ Sat w0 w (OwnS 68 33 v l.length (flat l) :: L) := Sat.pure h
theorem Msgs.shut {v : Value} {l : List MsgM} (hl : ∀ m ∈ l, m.ok) (h : Sat w0 w (OwnS 68 33 v l.length (flat l) :: L)) : Sat w0 w (Msgs v l :: L) := Sat.pureI hl h
theorem Msgs.nilI (h : Sat w0 w L) : Sat w0 w (Msgs (.slice none 0 0) [] :: L) := Msgs.shut (fun m hm => nomatch hm) (OwnS.nilI h)
theorem Msgs.form {v : Value} {l : List MsgM} (h : Sat w0 w (Msgs v l :: L)) : ∃ a cap, v = .slice a l.length cap ∧ l.length ≤ cap ∧ cap ≤ maxLen := OwnS.form (Msgs.opn h).2

/-- Cells of a row, as one load reads them. -/
theorem OwnS.load33 {g off n cap : Nat} {xs : List Value} (h : Sat w0 w (OwnS 68 33 (.slice (some ⟨g, off, none⟩) n cap) n xs :: L)) {i : Nat} (hi : i < n) {m : MsgM} (hm : m.ok) (hx : ∀ j, j < 33 → xs[i * 33 + j]? = (msgC m)[j]?) :
    Sem.run Try.prog (loadCellsFrom ⟨g, off + i * K33, none⟩ 0 K33 #[]) w = .ok (msgC m).toArray w := by
  refine Go.Proofs.run_loadCellsFrom_list Try.prog w ⟨g, off + i * 33, none⟩ (msgC m) 33 (msgC_len hm) (fun j v hj => ?_)
  have hj33 : j < 33 := by rw [← msgC_len hm]; exact (List.getElem?_eq_some_iff.1 hj).1
  obtain ⟨b, o, c, he, hc⟩ := OwnS.cells h (by omega)
  injection he with he _ _
  injection he with he
  injection he with e1 e2 _
  subst e1 e2
  have h1 := hc.2.2.1 (i * 33 + j) v (by rw [hx j hj33]; exact hj)
  rw [addr_add, Nat.add_assoc]
  exact h1

/-- The closure that tells whether a message is too old. -/
def oldB (now window : Int) (m : MsgM) : Bool := decide (m.stamp < now - window)
theorem rep_old {m : MsgM} (hm : m.ok) {bn bf f : Nat} {now window : Int} (h1 : 0 ≤ now ∧ now ≤ 1099511627776) (h2 : 0 ≤ window ∧ window ≤ 1099511627776) (c1 : w.cell? ⟨bn, 0, none⟩ = some (.int .i64 now)) (c2 : w.cell? ⟨bf, 0, none⟩ = some (.pointer (some ⟨f, 0, none⟩))) (c3 : w.cell? ⟨f, 0, none⟩ = some (.int .i64 window)) :
    Calls Try.prog 31 #[.agg (msgC m).toArray, .pointer (some ⟨bn, 0, none⟩), .pointer (some ⟨bf, 0, none⟩)] w fun e w' => e = .returned (.bool (oldB now window m)) ∧ Below w.heap.size w w' := by
  have e1 : IntKind.i64.wrap (now - window) = now - window := IntWalk.i64_in _ (by omega)
  have hl := World.block_lt_of_cell? w _ c1
  have hl2 := World.block_lt_of_cell? w _ c2
  have hl3 := World.block_lt_of_cell? w _ c3
  have hs := (Sat.refl w).alloc (.cells (msgC m).toArray 68 (0, 0))
  have c4 : (w.alloc (.cells (msgC m).toArray 68 (0, 0))).cell? ⟨w.heap.size, 32, none⟩ = some (.int .i64 m.stamp) := hs.cell 32 (by
    unfold MsgM.ok at hm
    simp [msgC, bytesC, hm])
  have k1 := (hs.below.cell (p := ⟨bn, 0, none⟩) hl).trans c1
  have k2 := (hs.below.cell (p := ⟨bf, 0, none⟩) hl2).trans c2
  have k3 := (hs.below.cell (p := ⟨f, 0, none⟩) hl3).trans c3
  have hb := hs.below
  clear c1 c2 c3 hl hl2 hl3
  unfold oldB
  go_enter Try.func31, Try.ntmps31
  go_upto_region 1 with fail
  generalize w.alloc (.cells (msgC m).toArray 68 (0, 0)) = w1 at *
  generalize w.heap.size = g at *
  go_quiet (fail)
  go_wp2_with fail
  go_ret
  exact ⟨rfl, (Sat.drewN hs _).below⟩

/-! ### two keys alike -/
theorem eqItems_bytes (w : World) (a b : List UInt8) : ∀ is : List Nat, (∀ i ∈ is, i < a.length ∧ i < b.length) →
    (Op.eqItems 9999 5 (Try.prog.cellsOf 5) (bytesC a).toArray (bytesC b).toArray is).run Try.prog w = .ok (is.all fun i => a.getD i 0 == b.getD i 0) w
  | [], _ => by simp [Op.eqItems]
  | i :: is, h => by
    obtain ⟨h1, h2⟩ := h i (List.mem_cons_self ..)
    have ih := eqItems_bytes w a b is (fun j hj => h j (List.mem_cons_of_mem _ hj))
    have hc : Try.prog.cellsOf 5 = 1 := by kernel_rfl
    have g1 := bytesC_get h1
    have g2 := bytesC_get h2
    have l1 : (bytesC a).length = a.length := by simp [bytesC]
    have l2 : (bytesC b).length = b.length := by simp [bytesC]
    have p1 : (part 5 (bytesC a).toArray (i * Try.prog.cellsOf 5)).run Try.prog w = .ok (.int .u8 (a.getD i 0).toNat) w := by
      rw [hc, Nat.mul_one]
      simp [part, g1]
    have p2 : (part 5 (bytesC b).toArray (i * Try.prog.cellsOf 5)).run Try.prog w = .ok (.int .u8 (b.getD i 0).toNat) w := by
      rw [hc, Nat.mul_one]
      simp [part, g2]
    simp only [Op.eqItems, Sem.run_bind, p1, p2, Result.andThen_ok, show (9999 : Nat) = 9998 + 1 from rfl, run_equalIn_int w 9998 5 .u8 .u8 _ _ Try.underlying5]
    rw [List.all_cons]
    have e : (((a.getD i 0).toNat : Int) == ((b.getD i 0).toNat : Int)) = (a.getD i 0 == b.getD i 0) := by
      rw [Bool.eq_iff_iff, beq_iff_eq, beq_iff_eq]
      exact ⟨fun h => UInt8.toNat_inj.1 (by omega), fun h => by rw [h]⟩
    rw [e]
    cases a.getD i 0 == b.getD i 0
    · simp
    · simpa using ih
theorem all_getD {a b : List UInt8} (h : a.length = b.length) : ((List.range a.length).all fun i => a.getD i 0 == b.getD i 0) = (a == b) := by
  rw [Bool.eq_iff_iff, beq_iff_eq, List.all_eq_true]
  constructor
  · intro h1
    apply List.ext_getElem h
    intro i hi hi2
    have := h1 i (List.mem_range.2 hi)
    simpa [List.getD, hi, hi2] using this
  · rintro rfl i _
    simp
theorem run_keys (w : World) {a b : List UInt8} (ha : a.length = 32) (hb : b.length = 32) : (Op.equalIn 10000 66 (.agg (bytesC a).toArray) (.agg (bytesC b).toArray)).run Try.prog w = .ok (a == b) w := by
  obtain ⟨i0, hi0, _, _, _⟩ := info_at (P := Try.prog) (e := 5) (z := .int .u8 0) (sz := 1) (bytes := 1) (by kernel_rfl)
  rw [show (10000 : Nat) = 9999 + 1 from rfl, run_equalIn_array w 9999 _ _ Try.underlying66 hi0, eqItems_bytes w a b _ (fun i hi => by have := List.mem_range.1 hi; omega), ← all_getD (by omega), ha]

theorem rep_same {m : MsgM} (hm : m.ok) {key : List UInt8} (hk : key.length = 32) {bk : Nat} (hb : w.heap[bk]? = some (.cells (bytesC key).toArray 66 (0, 0))) :
    Calls Try.prog 33 #[.agg (msgC m).toArray, .pointer (some ⟨bk, 0, none⟩)] w fun e w' => e = .returned (.bool (m.key == key)) ∧ Below w.heap.size w w' := by
  have hm32 : m.key.length = 32 := hm
  have hs := (Sat.refl w).alloc (.cells (msgC m).toArray 68 (0, 0))
  have hlt : bk < w.heap.size := (Array.getElem?_eq_some_iff.1 hb).1
  have hl : ∀ l : List UInt8, (bytesC l).length = l.length := fun l => by simp [bytesC]
  have k1 : Sem.run Try.prog (loadCellsFrom ⟨w.heap.size, 0, none⟩ 0 K32 #[]) (w.alloc (.cells (msgC m).toArray 68 (0, 0))) = .ok (bytesC m.key).toArray (w.alloc (.cells (msgC m).toArray 68 (0, 0))) :=
    Go.Proofs.run_loadCellsFrom_list Try.prog _ _ (bytesC m.key) 32 (by rw [hl]; exact hm32) (fun j v hj => by
      rw [addr_add]
      refine hs.cell (0 + j) ?_
      have hj32 : j < (bytesC m.key).length := (List.getElem?_eq_some_iff.1 hj).1
      rw [Nat.zero_add, List.getElem?_toArray]
      unfold msgC
      rw [List.getElem?_append_left hj32]
      exact hj)
  have k2 : Sem.run Try.prog (loadCellsFrom ⟨bk, 0, none⟩ 0 K32 #[]) (w.alloc (.cells (msgC m).toArray 68 (0, 0))) = .ok (bytesC key).toArray (w.alloc (.cells (msgC m).toArray 68 (0, 0))) :=
    Go.Proofs.run_loadCellsFrom_list Try.prog _ _ (bytesC key) 32 (by rw [hl]; exact hk) (fun j v hj => by
      rw [addr_add, hs.below.cell (p := ⟨bk, 0 + j, none⟩) hlt, cell_at hb, Nat.zero_add, List.getElem?_toArray]
      exact hj)
  have k3 : ∀ W, (Op.equalIn 10000 66 (.agg (bytesC m.key).toArray) (.agg (bytesC key).toArray)).run Try.prog W = .ok (m.key == key) W := fun W => run_keys W hm32 hk
  have hbl := hs.below
  obtain ⟨q, hq⟩ : ∃ q, (m.key == key) = q := ⟨_, rfl⟩
  rw [hq] at k3 ⊢
  clear hb hs
  go_enter Try.func33, Try.ntmps33
  go_wp2_with fail
  go_ret
  exact ⟨rfl, hbl⟩
end
end Go.Proofs.Ytipkcbphjgmgiaa
