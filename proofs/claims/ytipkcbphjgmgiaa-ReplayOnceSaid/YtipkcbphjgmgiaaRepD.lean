/- slices.DeleteFunc over messages. -/
import Derived.Test.YtipkcbphjgmgiaaRepI
import Derived.Deep.WholeRow
namespace Go.Proofs.Ytipkcbphjgmgiaa
open Go Go.RowKit
set_option linter.unusedVariables false
set_option linter.unusedSimpArgs false
attribute [local simp high] sz68 sz66

def zmsg : MsgM := ⟨List.replicate 32 0, 0⟩
/-- The row while messages are struck: what is kept stands at its head, what is not looked at yet at its end. -/
def DelI (l : List MsgM) (p : MsgM → Bool) (i j : Nat) (xs : List Value) : Prop :=
  xs.length = l.length * 33 ∧ xs.take (i * 33) = flat ((l.take j).filter fun m => !p m) ∧ ((l.take j).filter fun m => !p m).length = i ∧ xs.drop (j * 33) = flat (l.drop j)
theorem DelI.start {l : List MsgM} {p : MsgM → Bool} {i : Nat} {m : MsgM} (hok : ∀ m ∈ l, m.ok) (hi : l[i]? = some m) (hp : p m = true) (hno : ∀ x ∈ l.take i, p x = false) : DelI l p i (i + 1) (flat l) := by
  have hil : i < l.length := (List.getElem?_eq_some_iff.1 hi).1
  have e1 : (l.take i).filter (fun m => !p m) = l.take i := List.filter_eq_self.2 (fun x hx => by rw [hno x hx]; rfl)
  have e2 : (l.take (i + 1)).filter (fun m => !p m) = l.take i := by
    rw [List.take_add_one, List.filter_append, e1, hi]
    simp [hp]
  have tk : ∀ k, k ≤ l.length → flat l = flat (l.take k) ++ flat (l.drop k) := fun k _ => by rw [← flat_append, List.take_append_drop]
  have lk : ∀ k, k ≤ l.length → (flat (l.take k)).length = k * 33 := fun k hk => by
    rw [flat_len (fun m hm => hok m (List.mem_of_mem_take hm)), List.length_take, Nat.min_eq_left hk]
  refine ⟨flat_len hok, ?_, by rw [e2, List.length_take]; omega, ?_⟩
  · rw [e2, tk i (by omega), List.take_left' (lk i (by omega))]
  · rw [tk (i + 1) (by omega), List.drop_left' (lk (i + 1) (by omega))]
theorem DelI.get {l : List MsgM} {p : MsgM → Bool} {i j : Nat} {xs : List Value} {m : MsgM} (h : DelI l p i j xs) (hok : ∀ m ∈ l, m.ok) (hj : l[j]? = some m) : ∀ t, t < 33 → xs[j * 33 + t]? = (msgC m)[t]? := by
  intro t ht
  have e : (l.drop j)[0]? = some m := by rw [List.getElem?_drop]; simpa using hj
  have h1 := flat_get (l := l.drop j) (fun m hm => hok m (List.mem_of_mem_drop hm)) e ht
  rw [← h.2.2.2, List.getElem?_drop] at h1
  simpa using h1
theorem DelI.skip {l : List MsgM} {p : MsgM → Bool} {i j : Nat} {xs : List Value} {m : MsgM} (h : DelI l p i j xs) (hok : ∀ m ∈ l, m.ok) (hj : l[j]? = some m) (hp : p m = true) : DelI l p i (j + 1) xs := by
  obtain ⟨h1, h2, h3, h4⟩ := h
  have e : (l.take (j + 1)).filter (fun m => !p m) = (l.take j).filter (fun m => !p m) := by
    rw [List.take_add_one, List.filter_append, hj]
    simp [hp]
  refine ⟨h1, by rw [e]; exact h2, by rw [e]; exact h3, ?_⟩
  have hd : l.drop j = m :: l.drop (j + 1) := by
    rw [List.drop_eq_getElem_cons (List.getElem?_eq_some_iff.1 hj).1]
    congr 1
    exact (List.getElem?_eq_some_iff.1 hj).2
  rw [show (j + 1) * 33 = j * 33 + 33 by omega, ← List.drop_drop, h4, hd]
  show List.drop 33 (msgC m ++ flat (l.drop (j + 1))) = _
  rw [List.drop_left' (msgC_len (hok m (List.mem_of_getElem? hj)))]
theorem DelI.keep {l : List MsgM} {p : MsgM → Bool} {i j : Nat} {xs : List Value} {m : MsgM} (h : DelI l p i j xs) (hij : i < j) (hok : ∀ m ∈ l, m.ok) (hj : l[j]? = some m) (hp : p m = false) :
    DelI l p (i + 1) (j + 1) (xs.take (i * 33) ++ msgC m ++ xs.drop (i * 33 + (msgC m).length)) := by
  have hm := hok m (List.mem_of_getElem? hj)
  have hml := msgC_len hm
  have hjl : j < l.length := (List.getElem?_eq_some_iff.1 hj).1
  obtain ⟨h1, h2, h3, h4⟩ := h
  have e : (l.take (j + 1)).filter (fun m => !p m) = (l.take j).filter (fun m => !p m) ++ [m] := by
    rw [List.take_add_one, List.filter_append, hj]
    simp [hp]
  have hd : l.drop j = m :: l.drop (j + 1) := by
    rw [List.drop_eq_getElem_cons (List.getElem?_eq_some_iff.1 hj).1]
    congr 1
    exact (List.getElem?_eq_some_iff.1 hj).2
  have lt : (xs.take (i * 33)).length = i * 33 := by rw [List.length_take]; omega
  have lp : (xs.take (i * 33) ++ msgC m).length = (i + 1) * 33 := by rw [List.length_append, lt, hml]; omega
  refine ⟨?_, ?_, by rw [e, List.length_append, h3]; rfl, ?_⟩
  · rw [List.length_append, lp, List.length_drop, hml]; omega
  · rw [List.take_left' lp, e, flat_append, ← h2, flat_one]
  · rw [List.drop_append, List.drop_of_length_le (by rw [lp]; omega), List.nil_append, List.drop_drop, lp, hml]
    rw [show i * 33 + 33 + ((j + 1) * 33 - (i + 1) * 33) = j * 33 + 33 by omega, ← List.drop_drop, h4, hd]
    show List.drop 33 (msgC m ++ flat (l.drop (j + 1))) = _
    rw [List.drop_left' hml]

theorem mem_zeroCells {cs : Array Value} {n : Nat} {v : Value} (h0 : 0 < cs.size) (h : v ∈ (Builtin.zeroCells cs n).toList) : v ∈ cs := by
  unfold Builtin.zeroCells at h
  simp only [Array.toList_map, List.mem_map] at h
  obtain ⟨i, _, rfl⟩ := h
  have : i % cs.size < cs.size := Nat.mod_lt _ h0
  rw [getElem!_pos cs _ this]
  exact Array.getElem_mem this

section
variable {w0 w : World} {L : List Assn}
/-- clear, at elements of several cells. -/
theorem run_clear_own {g off cap n : Nat} {xs : List Value} (h : Sat w0 w (OwnS 68 33 (.slice (some ⟨g, off, none⟩) n cap) n xs :: L)) {i c : Nat} (hi : i < n) :
    ∃ vs : List Value, vs.length = (n - i) * 33 ∧ ∀ ty, (Builtin.clear_ #[61] ty #[.slice (some ⟨g, off + i * K33, none⟩) (n - i) c]).run Try.prog w = .ok (.tuple #[]) (w.setCells g (off + i * 33) vs) := by
  obtain ⟨zs, hz, hzs, hz1⟩ : ∃ zs : Array Value, (∀ w, (zeroValue 68).run Try.prog w = .ok (.agg zs) w) ∧ zs.size = 33 ∧ ∀ v ∈ zs, v.oneCell' = true :=
    ⟨(msgC zmsg).toArray, fun w => by rw [Try.zeroValue68]; rfl, by rw [List.size_toArray]; exact msgC_len rfl, fun v hv => msgC_one v (by simpa using hv)⟩
  refine ⟨(Builtin.zeroCells zs (n - i)).toList, by simp [Builtin.zeroCells, hzs], ?_⟩
  have hlen : (Builtin.zeroCells zs (n - i)).toList.length = (n - i) * 33 := by simp [Builtin.zeroCells, hzs]
  have hl := OwnS.len h
  obtain ⟨b, o, c', he, _, _, hc, hf⟩ := OwnS.cells h (by omega)
  injection he with e1 _ _
  injection e1 with e1
  injection e1 with e1 e2 _
  subst e1 e2
  have hst := run_storeCells_cells (P := Try.prog) g (off + i * 33) (Builtin.zeroCells zs (n - i)).toList 0 w (fun j hj => by
    rw [Nat.add_zero, Nat.add_assoc]
    obtain ⟨u, hu⟩ : ∃ u, xs[i * 33 + j]? = some u := ⟨_, List.getElem?_eq_getElem (by rw [hl]; rw [hlen] at hj; have : (n - i) * 33 = n * 33 - i * 33 := Nat.sub_mul ..; omega)⟩
    rw [hc _ u hu]
    rfl) (fun j hj => hf _) (fun v hv => hz1 v (mem_zeroCells (by omega) hv))
  obtain ⟨k, hk⟩ : ∃ k, n - i = k + 1 := ⟨n - i - 1, by omega⟩
  rw [hk] at hst ⊢
  have e33 : off + i * K33 = off + i * 33 := rfl
  rw [e33]
  simp only [Nat.add_zero] at hst
  intro ty
  simp [Builtin.clear_, run_underlying Try.underlying61, hz, hst, Value.cells]
end
end Go.Proofs.Ytipkcbphjgmgiaa
