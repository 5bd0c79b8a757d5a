/- A map from ints to pointers as a piece of the heap, and its datum in plain lists; general but for the types' numbers. -/
import Derived.Maps.OwnSet
import Derived.Maps.Views
import Derived.Lib.SlKeysI
import Derived.Test.YtkejadhkebjdcaaStreamI
namespace Go.Proofs.Ytkejadhkebjdcaa
open Go Go.RowKit Go.Maps
open Go.WideElems (Fit rd rg pl)
set_option linter.unusedVariables false
set_option linter.unusedSimpArgs false

/-- How a pointer reads: as its block's number. -/
def ptrR : Value → Option (DataW Unit × List MemPlace)
  | .pointer none => some (.nil, [])
  | .pointer (some ⟨b, 0, none⟩) => some (.lit (.int .u64 b), [])
  | _ => none
theorem ptrR_at (b : Nat) : ptrR (.pointer (some ⟨b, 0, none⟩)) = some (.lit (.int .u64 b), []) := rfl
theorem ptrR_inv {v : Value} {b : Nat} {ps : List MemPlace} (h : ptrR v = some (.lit (.int .u64 b), ps)) : v = .pointer (some ⟨b, 0, none⟩) := by
  unfold ptrR at h
  split at h
  · simp at h
  · rename_i c
    simp at h
    obtain ⟨h, _⟩ := h
    have : c = b := by omega
    rw [this]
  · cases h
theorem ptrR_nil {v : Value} {ps : List MemPlace} (h : ptrR v = some (.nil, ps)) : v = .pointer none := by
  unfold ptrR at h
  split at h
  · rfl
  · simp at h
  · cases h

/-- The datum of entries that rise. -/
def mapD (l : List (Int × Nat)) : DataW Unit := .map (l.map fun e => (.int .i64 e.1, .lit (.int .u64 e.2)))
def insM (x : Int × Nat) : List (Int × Nat) → List (Int × Nat)
  | [] => [x]
  | y :: r => if x.1 < y.1 then x :: y :: r else y :: insM x r
theorem insM_map (k : Int) (g : Nat) : ∀ l : List (Int × Nat), DataW.insert ((.int .i64 k, .lit (.int .u64 g)) : Lit × DataW Unit) (l.map fun e => (.int .i64 e.1, .lit (.int .u64 e.2))) = (insM (k, g) l).map fun e => (.int .i64 e.1, .lit (.int .u64 e.2))
  | [] => rfl
  | y :: r => by
    unfold insM
    simp only [List.map_cons, DataW.insert, Lit.before]
    by_cases h : k < y.1
    · simp [h]
    · simp [h, insM_map k g r]
theorem filter_map' (k : Int) (l : List (Int × Nat)) : ((l.map fun e => ((.int .i64 e.1, .lit (.int .u64 e.2)) : Lit × DataW Unit)).filter fun p => !p.1.sameKey (.int .i64 k)) = (l.filter fun e => e.1 != k).map fun e => (.int .i64 e.1, .lit (.int .u64 e.2)) := by
  rw [List.filter_map]
  congr 1
  apply List.filter_congr
  intro e _
  cases h : (e.1 == k) <;> simp_all [Lit.sameKey, bne]
theorem mapD_put (l : List (Int × Nat)) (k : Int) (g : Nat) : (mapD l).put (.int .i64 k) (.lit (.int .u64 g)) = mapD (insM (k, g) (l.filter fun e => e.1 != k)) := by
  unfold mapD DataW.put
  simp only []
  rw [filter_map', insM_map]
theorem mapD_del (l : List (Int × Nat)) (k : Int) : (mapD l).del (.int .i64 k) = mapD (l.filter fun e => e.1 != k) := by
  unfold mapD DataW.del
  simp only []
  rw [filter_map']
theorem mapD_at (l : List (Int × Nat)) (k : Int) : (mapD l).atKey (.int .i64 k) .nil = match l.find? (fun e => e.1 == k) with | some e => .lit (.int .u64 e.2) | none => .nil := by
  unfold mapD DataW.atKey
  simp only []
  rw [List.find?_map]
  have e : ((fun p : Lit × DataW Unit => p.1.sameKey (.int .i64 k)) ∘ fun e : Int × Nat => ((.int .i64 e.1, .lit (.int .u64 e.2)) : Lit × DataW Unit)) = fun e => e.1 == k := by
    funext e
    cases h : (e.1 == k) <;> simp_all [Lit.sameKey]
  rw [e]
  cases l.find? (fun e => e.1 == k) <;> rfl
theorem mapD_keys (l : List (Int × Nat)) : intKeys (mapD l) = l.map (·.1) := by
  unfold mapD intKeys
  simp only [List.map_map]
  rfl
theorem mapD_size (l : List (Int × Nat)) : Maps.size (mapD l) = l.length := by simp [mapD, Maps.size]

/-- A map's block. -/
def MapP (b n : Nat) (D : DataW Unit) : Assn := fun h => ∃ es clock, h b = some (.map es clock) ∧ Fit Try.prog 3 ptrR es clock ∧ es.size ≤ n ∧ D = .map ((es.toList.map (rg Try.prog 3 ptrR)).foldr DataW.insert [])

section
variable {w0 w w' : World} {L : List Assn} {b n n' : Nat} {D D' : DataW Unit}
theorem MapP.owns (h : Sat w0 w (MapP b n D :: L)) : w.ownsMap Try.prog 3 ptrR b n D := by
  obtain ⟨_, h1, ⟨es, clock, hb, F, hs, hD⟩, l1, _⟩ := h
  exact ⟨es, clock, (l1 b _ hb).1, F, hs, hD⟩
theorem MapP.new (hs : Sat w0 w L) : Sat w0 (w.alloc (.map #[] 0)) (MapP w.heap.size 0 (mapD []) :: L) := by
  refine (hs.alloc (.map #[] 0)).imp fun h hh => ?_
  obtain ⟨es, clock, hb, F, hs, hD⟩ := World.ownsMap_made w Try.prog 3 ptrR
  have e : (w.alloc (.map #[] 0)).heap[w.heap.size]? = some (.map #[] 0) := heap_alloc_new w _
  rw [e] at hb
  injection hb with hb
  injection hb with h1 h2
  subst h1; subst h2
  exact ⟨_, _, hh, F, hs, hD⟩
theorem MapP.turn (h : Sat w0 w (MapP b n D :: L)) (ho : w'.ownsMap Try.prog 3 ptrR b n' D') (hg : w.grownBy w' (some b)) : Sat w0 w' (MapP b n' D' :: L) := by
  refine Sat.step h hg.os hg.tape hg.output hg.size fun h1 hA hin => ⟨fun k hk hn => hg.block k hk (fun e => ?_), ?_⟩
  · injection e with e
    subst e
    obtain ⟨es, clock, hb, _⟩ := hA
    rw [hb] at hn
    cases hn
  · obtain ⟨es, clock, hb, F, hs, hD⟩ := ho
    refine ⟨fun k => if k = b then some (.map es clock) else none, ⟨es, clock, by simp, F, hs, hD⟩, fun k o hk => ?_, fun k hk => ?_⟩
    · by_cases e : k = b
      · subst e; simp at hk; rw [← hk]; exact hb
      · simp [e] at hk
    · by_cases e : k = b
      · subst e
        obtain ⟨es1, clock1, hb1, _⟩ := hA
        exact .inl (by rw [hb1]; simp)
      · simp [e] at hk
theorem MapP.turned (h : Sat w0 w (MapP b n D :: L)) (ho : w'.ownsMap Try.prog 3 ptrR b n' D') (ht : w.mapTurned w' b) : Sat w0 w' (MapP b n' D' :: L) := MapP.turn h ho ht.grown

set_option maxRecDepth 100000 in
theorem MapP.look {l : List (Int × Nat)} (h : Sat w0 w (MapP b n (mapD l) :: L)) (k : Int) (hk : (Lit.int .i64 k).wf = true) :
    (Instr.lookup 69 (.map (some b)) (.int .i64 k) false).run Try.prog w = .ok (.pointer ((l.find? (fun e => e.1 == k)).map fun e => ⟨e.2, 0, none⟩)) w := by
  have hz : (zeroValue 32).run Try.prog w = .ok (.pointer none) w := by kernel_rfl
  obtain ⟨v, ps, hr, hv⟩ := (MapP.owns h).lookup (Maps.int_keyed Try.underlying3) Try.underlying69 hz (zd := .nil) (zp := []) rfl (key := .int .i64 k) (kl := .int .i64 k) (by simp [keyOf, Try.underlying3, mapKey, hk])
  rw [mapD_at] at hv
  rw [hr]
  have e : v = .pointer ((l.find? (fun e => e.1 == k)).map fun e => ⟨e.2, 0, none⟩) := by
    cases hf : l.find? (fun e => e.1 == k) with
    | none => rw [hf] at hv; exact ptrR_nil hv
    | some e => rw [hf] at hv; exact ptrR_inv hv
  rw [e]
set_option maxRecDepth 100000 in
theorem MapP.len {l : List (Int × Nat)} (h : Sat w0 w (MapP b n (mapD l) :: L)) (ty : TypeId) : (Builtin.len_ #[69] ty #[.map (some b)]).run Try.prog w = .ok (.int .i64 l.length) w := by
  have := (MapP.owns h).len (t := 69) Try.underlying69 ty
  rw [mapD_size] at this
  exact this
set_option maxRecDepth 100000 in
theorem MapP.put {l : List (Int × Nat)} (h : Sat w0 w (MapP b n (mapD l) :: L)) (hn : n < maxLen) (k : Int) (hk : (Lit.int .i64 k).wf = true) (g : Nat) :
    ∃ w', (Instr.mapUpdate 69 (.map (some b)) (.int .i64 k) (.pointer (some ⟨g, 0, none⟩))).run Try.prog w = .ok () w' ∧ Sat w0 w' (MapP b (n + 1) (mapD (insM (k, g) (l.filter fun e => e.1 != k))) :: L) := by
  obtain ⟨w', hr, ho, hg⟩ := (MapP.owns h).update (t := 69) (e := 32) (Maps.int_keyed Try.underlying3) Try.underlying69 hn (key := .int .i64 k) (kl := .int .i64 k) (by simp [keyOf, Try.underlying3, mapKey, hk]) (ptrR_at g)
  rw [mapD_put] at ho
  exact ⟨w', hr, MapP.turn h ho hg⟩
set_option maxRecDepth 100000 in
theorem MapP.del {l : List (Int × Nat)} (h : Sat w0 w (MapP b n (mapD l) :: L)) (k : Int) (hk : (Lit.int .i64 k).wf = true) (ty : TypeId) :
    ∃ w', (Builtin.delete_ #[69, 3] ty #[.map (some b), .int .i64 k]).run Try.prog w = .ok (.tuple #[]) w' ∧ Sat w0 w' (MapP b n (mapD (l.filter fun e => e.1 != k)) :: L) := by
  obtain ⟨w', hr, ho, ht⟩ := (MapP.owns h).drop (t := 69) (e := 32) (Maps.int_keyed Try.underlying3) Try.underlying69 (key := .int .i64 k) (kl := .int .i64 k) (by simp [keyOf, Try.underlying3, mapKey, hk]) ty
  rw [mapD_del] at ho
  exact ⟨w', hr, MapP.turned h ho ht⟩
end
end Go.Proofs.Ytkejadhkebjdcaa
