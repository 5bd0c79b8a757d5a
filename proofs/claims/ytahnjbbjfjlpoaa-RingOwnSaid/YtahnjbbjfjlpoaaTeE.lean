/- Tenants sorted by id: slices.SortedFunc over slices.Values, walked. -/
import Derived.Lib.OwnBridge
import Derived.Lib.AppendIntMem
import Derived.Test.YtahnjbbjfjlpoaaSho
import Derived.Test.YtahnjbbjfjlpoaaTeD
namespace Go.Proofs.Ytahnjbbjfjlpoaa
open Go Go.RowKit Go.Shelf Go.Sort Go.Lib
set_option linter.unusedVariables false
set_option linter.unusedSimpArgs false

instance : Inhabited TenV := ⟨⟨⟨0, [], 0, []⟩, none, 0, none, 0⟩⟩
def cfT (x y : TenV) : Int := Lib.compareInt x.t.id y.t.id
theorem ltT (x y : TenV) : ltOf cfT x y = decide (x.t.id < y.t.id) := by
  unfold ltOf cfT Lib.compareInt
  by_cases h1 : x.t.id < y.t.id
  · simp [h1]
  · by_cases h2 : y.t.id < x.t.id <;> simp [h1, h2]
theorem swoT : SWO (ltOf cfT) where
  irrefl x := by rw [ltT]; simp
  trans x y z h1 h2 := by rw [ltT] at *; simp at *; omega
  ntrans x y z h1 h2 := by rw [ltT] at *; simp at *; omega
set_option maxHeartbeats 1000000 in
theorem ring_by (x y : TenV) (W : World) : Calls Try.prog 26 #[.agg x.c.toArray, .agg y.c.toArray] W fun e w' => e = .returned (.int .i64 (cfT x y)) ∧ ∃ q os', w' = grow (W.drewN q) os' := by
  have hcon := fun W' => AnyG.cmp_Compare_int Try.cmpT x.t.id y.t.id W'
  change ∀ W', Calls Try.prog 38 _ _ _ at hcon
  unfold cfT TenV.c
  generalize Lib.compareInt x.t.id y.t.id = r at hcon ⊢
  go_enter Try.func26, Try.ntmps26
  go_wp2_with (go_at_call 38; refine (hcon _).mono ?_; rintro e w' ⟨rfl, rfl⟩)
  go_ret
  exact ⟨rfl, 0, _, by rw [alloc_eq_grow, alloc_eq_grow, grow_grow]; rfl⟩
theorem cmpLaysT (blk off size : Nat) (w : World) : CmpLays Try.prog 26 #[] TenV.c 4 cfT blk off size w :=
  fun _ _ _ _ x y => ring_by x y _
section
variable {w0 w : World} {L : List Assn}
/-- A row that is owned holds its elements. -/
theorem holds_row {W : World} {n₀ g cap n : Nat} {vs : List TenV} (h : W.ownsRow n₀ 28 4 (.slice (some ⟨g, 0, none⟩) n cap) n (flatT vs)) (hn : vs.length = n) : HoldsK TenV.c 4 W g 0 vs.toArray ∧ n₀ ≤ g ∧ g < W.heap.size ∧ n ≤ cap ∧ cap ≤ maxLen := by
  rcases h.2 with ⟨h0, _⟩ | ⟨g', cap', cur, he, hg0, hg, h1, h2, h3, h4⟩
  · cases h0
  · injection he with he _ hc
    injection he with he
    injection he with he _
    subst he hc
    refine ⟨fun j hj => ?_, hg0, (Array.getElem?_eq_some_iff.1 hg).1, h1, h2⟩
    rw [size_flatK] at hj
    rw [get_flatK _ _ _ _ hj]
    have hsz : vs.toArray.size = vs.length := by simp
    rw [hsz] at hj
    have hd : j / 4 < vs.length := by omega
    have e1 : (flatT vs)[j]? = (vs[j / 4]).c[j % 4]? := by
      have := flatT_get (vs := vs) (i := j / 4) (j := j % 4) (List.getElem?_eq_getElem hd) (Nat.mod_lt _ (by decide))
      rwa [show j / 4 * 4 + j % 4 = j by omega] at this
    have hm : j % 4 < (vs[j / 4]).c.length := Nat.mod_lt _ (by decide)
    have e2 : vs.toArray[j / 4]! = vs[j / 4] := by simp [hd]
    rw [e2]
    have e3 : (vs[j / 4]).c[j % 4]! = (vs[j / 4]).c[j % 4] := by rw [List.getElem!_eq_getElem?_getD, List.getElem?_eq_getElem hm]; rfl
    rw [e3]
    rw [List.getElem?_eq_getElem hm, ← h4, List.getElem?_take, if_pos (by omega)] at e1
    refine ⟨?_, ?_⟩
    · rw [cell_at hg, Nat.zero_add, ← Array.getElem?_toList]
      exact e1
    · exact frozen_at hg _
theorem row_holds {W : World} {g cap : Nat} {d : Array TenV} (h : HoldsK TenV.c 4 W g 0 d) (hg : g < W.heap.size) (hn : d.size ≤ cap) (hc : cap ≤ maxLen) : RowT W (some ⟨g, 0, none⟩) cap d.toList := by
  refine ⟨by simpa using hn, (fun e => nomatch e), hc, fun i v hi => ⟨g, 0, rfl, hg, fun j u hj => ?_⟩⟩
  have hil : i < d.size := by have := (List.getElem?_eq_some_iff.1 hi).1; simpa using this
  have hj4 : j < 4 := by have := (List.getElem?_eq_some_iff.1 hj).1; simpa [TenV.c] using this
  have h1 := (h.cell (i := i) (c := j) hil hj4).1
  rw [h1]
  have e2 : d[i]! = v := by
    rw [Array.getElem?_toList] at hi
    rw [getElem!_pos d i hil]
    rw [Array.getElem?_eq_getElem hil] at hi
    injection hi
  rw [e2]
  have hjl := (List.getElem?_eq_some_iff.1 hj).1
  rw [List.getElem!_eq_getElem?_getD, hj]
  rfl
/-- Sorted: the elements of vs, by id. -/
def SortedT (vs us : List TenV) : Prop := us.Perm vs ∧ us.Pairwise (fun x y => x.t.id ≤ y.t.id)
theorem sorted_of {d d' : Array TenV} (hp : PermIn 0 d.size d d') (hs : SortedIn (ltOf cfT) 0 d.size d') : SortedT d.toList d'.toList := by
  obtain ⟨h1, _, h3⟩ := hp
  refine ⟨?_, ?_⟩
  · have e1 : (d'.extract 0 d.size).toList = d'.toList := by rw [← h1]; simp
    have e2 : (d.extract 0 d.size).toList = d.toList := by simp
    rwa [e1, e2] at h3
  · rw [List.pairwise_iff_getElem]
    intro i j hi hj hij
    have := hs i j (Nat.zero_le _) hij (by rw [← h1]; simpa using hj)
    rw [ltT, decide_eq_false_iff_not, getElem!_pos d' i (by simpa using hi), getElem!_pos d' j (by simpa using hj)] at this
    simp only [Array.getElem_toList]
    omega
theorem size_putCells {α : Type} [Inhabited α] (enc : α → Value) (off : Nat) (d : Array α) (cs : Array Value) : (putCells enc off d cs).size = cs.size := by
  simp [putCells]
/-- The row behind the sort is owned as it was, its cells the sorted elements'. -/
theorem row_of_holds {w1 : World} {B g cap n q : Nat} {xs : List Value} {d' : Array TenV} {os : Array Obj} (h : w1.ownsRow B 28 4 (.slice (some ⟨g, 0, none⟩) n cap) n xs)
    (hH : HoldsK TenV.c 4 (sortWorldK TenV.c 4 w1 g 0 q d' os) g 0 d') (hd : d'.size = n) : (sortWorldK TenV.c 4 w1 g 0 q d' os).ownsRow B 28 4 (.slice (some ⟨g, 0, none⟩) n cap) n (flatT d'.toList) := by
  rcases h.2 with ⟨h0, _⟩ | ⟨g', cap', cur, he, hg0, hg, h1, h2, h3, h4⟩
  · cases h0
  · injection he with he _ hc
    injection he with he
    injection he with he _
    subst he hc
    have hlt : g < w1.heap.size := (Array.getElem?_eq_some_iff.1 hg).1
    have hb : (sortWorldK TenV.c 4 w1 g 0 q d' os).heap[g]? = some (.cells (putCells id 0 (flatK TenV.c 4 d') cur) 28 (0, 0)) := by
      unfold sortWorldK grow putRowK putRow mapBlock Sort.ahead
      rw [Array.getElem?_append_left (by simpa using hlt), Array.getElem?_modify, if_pos rfl, hg]
      rfl
    have hfl : (flatT d'.toList).length = n * 4 := by rw [flatT_len, Array.length_toList, hd]
    refine ⟨hfl, .inr ⟨g, cap, _, rfl, hg0, hb, h1, h2, by rw [size_putCells]; exact h3, ?_⟩⟩
    apply List.ext_getElem?
    intro j
    by_cases hj : j < n * 4
    · have hdj : j / 4 < d'.size := by omega
      have hcell := (hH.cell (i := j / 4) (c := j % 4) hdj (Nat.mod_lt _ (by decide))).1
      rw [cell_at hb, show 0 + j / 4 * 4 + j % 4 = j by omega] at hcell
      rw [List.getElem?_take, if_pos hj, Array.getElem?_toList, hcell]
      have e1 : (flatT d'.toList)[j]? = (d'[j / 4]).c[j % 4]? := by
        have := flatT_get (vs := d'.toList) (i := j / 4) (j := j % 4) (v := d'[j / 4]) (by rw [Array.getElem?_toList, Array.getElem?_eq_getElem hdj]) (Nat.mod_lt _ (by decide))
        rwa [show j / 4 * 4 + j % 4 = j by omega] at this
      have hm : j % 4 < (d'[j / 4]).c.length := Nat.mod_lt _ (by decide)
      rw [e1, getElem!_pos d' (j / 4) hdj, List.getElem!_eq_getElem?_getD, List.getElem?_eq_getElem hm]
      rfl
    · rw [List.getElem?_eq_none (by simp; omega), List.getElem?_eq_none (by omega)]
set_option maxRecDepth 100000 in
set_option maxHeartbeats 1000000 in
theorem values_in (la : Option Addr) (len cap : Nat) (w : World) : Calls Try.prog 25 #[.slice la len cap] w fun e w' =>
    e = .returned (.func (.func 37) #[] #[.pointer (some ⟨w.heap.size, 0, none⟩)]) ∧ w' = w.alloc (.cells #[.slice la len cap] 22) := by
  go_enter Try.func25, Try.ntmps25
  go_wp2_with fail
  go_ret
  exact ⟨rfl, rfl⟩
set_option maxRecDepth 100000 in
set_option maxHeartbeats 1000000 in
theorem collect_vals (la : Option Addr) (cap : Nat) (vs : List TenV) (hr : RowT w0 la cap vs) (hl : vs.length ≤ 1000) (Bv : Nat) (hbw : Below w0.heap.size w0 w) (hBv : Bv < w.heap.size) (hcv : w.cell? ⟨Bv, 0, none⟩ = some (.slice la vs.length cap)) :
    Calls Try.prog 35 #[.func (.func 37) #[] #[.pointer (some ⟨Bv, 0, none⟩)]] w fun e W' => ∃ v, e = .returned v ∧ Below w.heap.size w W' ∧ W'.ownsRow w.heap.size 28 4 v vs.length (flatT vs) := by
  have hA : ∀ W, w.heap.size ≤ W.heap.size → Below w.heap.size w W → Calls Try.prog 44 #[.slice none 0 0, .func (.func 37) #[] #[.pointer (some ⟨Bv, 0, none⟩)]] W fun e W' => ∃ v, e = .returned v ∧ Below W.heap.size W W' ∧ W'.ownsRow W.heap.size 28 4 v vs.length (flatT vs) := fun W hs hb =>
    callsIn_wide.1 (append_seq 3 (by omega) _ _ vs hl W (enters_of Try.func37 (by kernel_rfl) rfl) (fun W1 h1 =>
      values1_seq 2 (by omega) la cap vs hr Bv W.heap.size W1 (Nat.le_trans hbw.size hs) ((hbw.trans (hb.mono hbw.size)).trans (h1.mono (Nat.le_trans hbw.size hs))) h1.size (by have := h1.size; omega) ((h1.cell (p := ⟨Bv, 0, none⟩) (show Bv < W.heap.size by omega)).trans ((hb.cell (p := ⟨Bv, 0, none⟩) hBv).trans hcv))))
  go_enter Try.func35, Try.ntmps35
  go_wp2_with fail
  refine (hA _ (Nat.le_refl _) (Below.refl _ _)).mono ?_
  rintro _ w1 ⟨v, rfl, hb, hrow⟩
  go_wp2_with fail
  go_ret
  exact ⟨v, rfl, hb, hrow⟩
set_option maxRecDepth 100000 in
set_option maxHeartbeats 1000000 in
theorem sorted_vals (la : Option Addr) (cap : Nat) (vs : List TenV) (hr : RowT w0 la cap vs) (hl : vs.length ≤ 1000) (Bv : Nat) (hbw : Below w0.heap.size w0 w) (hBv : Bv < w.heap.size) (hcv : w.cell? ⟨Bv, 0, none⟩ = some (.slice la vs.length cap)) :
    Calls Try.prog 24 #[.func (.func 37) #[] #[.pointer (some ⟨Bv, 0, none⟩)], .func (.func 26) #[] #[]] w fun e W' => ∃ (a : Option Addr) (c : Nat) (us : List TenV), e = .returned (.slice a vs.length c) ∧ Below w.heap.size w W' ∧ W'.ownsRow w.heap.size 28 4 (.slice a vs.length c) vs.length (flatT us) ∧ SortedT vs us := by
  have hA := collect_vals la cap vs hr hl Bv hbw hBv hcv
  obtain ⟨n, hn⟩ : ∃ n, vs.length = n := ⟨_, rfl⟩
  have HN := hid_ hn
  rw [hn] at hA hl ⊢
  clear hcv hn
  go_enter Try.func24, Try.ntmps24
  go_wp2_with fail
  refine hA.mono ?_
  rintro _ w1 ⟨v, rfl, hb, hrow⟩
  have hw1 := hb.size
  by_cases h0 : n = 0
  · subst h0
    have hvs : vs = [] := List.eq_nil_of_length_eq_zero HN.out
    obtain ⟨va, vc, rfl⟩ := row_form hrow
    have HR := hid_ hrow
    have hnone : ∀ W, Calls Try.prog 36 #[.slice va 0 vc, .func (.func 26) #[] #[]] W fun e w' => e = .returned (.tuple #[]) ∧ w' = W := fun W => AnyF.slices_SortFunc_none { Try.sortT with } va vc _ W
    clear hrow
    go_wp2_with fail
    refine (hnone _).mono ?_
    rintro _ _ ⟨rfl, rfl⟩
    go_wp2_with fail
    go_ret
    exact ⟨va, vc, [], rfl, hb, by have := HR.out; rwa [hvs] at this, by rw [hvs]; exact ⟨List.Perm.refl _, List.Pairwise.nil⟩⟩
  · obtain ⟨g, cap', rfl⟩ : ∃ g cap', v = .slice (some ⟨g, 0, none⟩) n cap' := by
      rcases hrow.2 with ⟨_, h⟩ | ⟨g, cap', cur, rfl, _⟩
      · omega
      · exact ⟨g, cap', rfl⟩
    obtain ⟨hH, hg0, hg, hnc, hcm⟩ := holds_row hrow HN.out
    have hsz : vs.toArray.size = n := by simp [HN.out]
    have hcon := AnyQ.slices_SortFunc Try.sortT 4 Try.isAgg28 Try.sizeOf28 TenV.c (fun _ => rfl) TenV.c_one cfT swoT 26 #[] g 0 cap' vs.toArray w1 (enters_of Try.func26 (by kernel_rfl) rfl) (cmpLaysT g 0 _ w1) hH hg (by rw [hsz]; omega)
    change Calls Try.prog 36 _ _ _ at hcon
    rw [hsz] at hcon
    have HS := hid_ hsz
    have HH := hid_ hH
    have HR := hid_ hrow
    clear hrow hsz hH h0
    go_wp2_with fail
    refine hcon.mono ?_
    rintro _ w2 ⟨rfl, d', q, os, hp, hs, rfl⟩
    go_wp2_with fail
    go_ret
    have hd := hp.1
    rw [← HS.out] at hp hs
    have hH2 : HoldsK TenV.c 4 (putRowK TenV.c 4 (Sort.ahead w1 q) g 0 d') g 0 d' := holdsK_putRowK _ _ _ _ _ vs.toArray d' (holdsK_ahead _ _ _ _ _ _ _ HH.out) hd
    have hlt : g < (putRowK TenV.c 4 (Sort.ahead w1 q) g 0 d').heap.size := by simpa [putRowK, putRow, mapBlock, Sort.ahead] using hg
    have hBp : Below w.heap.size w (putRowK TenV.c 4 (Sort.ahead w1 q) g 0 d') := Lib.below_putRow hb hg0
    have hBg : Below w.heap.size w (sortWorldK TenV.c 4 w1 g 0 q d' os) := hBp.trans (Lib.below_grow _ _ hBp.size 0 os)
    refine ⟨some ⟨g, 0, none⟩, cap', d'.toList, rfl, hBg, ?_, ?_⟩
    · have h1 := holdsK_grow _ _ _ os _ _ _ hlt hH2
      exact row_of_holds HR.out (os := os) (q := q) h1 (by rw [hd, HS.out])
    · have := sorted_of hp hs
      simpa using this
end
end Go.Proofs.Ytahnjbbjfjlpoaa
