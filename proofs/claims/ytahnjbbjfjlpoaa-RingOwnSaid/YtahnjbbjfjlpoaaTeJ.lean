/- The ring's Get, walked. -/
import Derived.Test.YtahnjbbjfjlpoaaTeI
namespace Go.Proofs.Ytahnjbbjfjlpoaa
open Go Go.RowKit Go.Shelf Go.Maps
set_option linter.unusedVariables false
set_option linter.unusedSimpArgs false
attribute [local go_sem] Oper.semAt_some

theorem heap_set4 {w : World} {b : Nat} {x0 x1 x2 x3 y0 y1 y2 y3 : Value} {t : TypeId} (h : w.heap[b]? = some (.cells #[x0, x1, x2, x3] t (0, 0))) :
    ((((w.setCell ⟨b, 0, none⟩ y0).setCell ⟨b, 1, none⟩ y1).setCell ⟨b, 2, none⟩ y2).setCell ⟨b, 3, none⟩ y3).heap[b]? = some (.cells #[y0, y1, y2, y3] t (0, 0)) :=
  heap_setCell_same _ b 3 y3 (heap_setCell_same _ b 2 y2 (heap_setCell_same _ b 1 y1 (heap_setCell_same w b 0 y0 h)))
theorem heap_setCell_other {w : World} {b k i : Nat} (v : Value) (h : k ≠ b) : (w.setCell ⟨b, i, none⟩ v).heap[k]? = w.heap[k]? := Below.heap_setCell w ⟨b, i, none⟩ v k (fun e => h (by first | exact e | exact e.symm))
theorem kelT_set {w : World} {b i : Nat} {cs : Array Value} {t : TypeId} (v : Value) (h : w.heap[b]? = some (.cells cs t (0, 0))) (ht : t ≠ 5 ∧ t ≠ 46) : KelT w (w.setCell ⟨b, i, none⟩ v) := by
  intro k cs2 t2 hk ht2
  have hne : k ≠ b := by
    rintro rfl
    rw [h] at hk
    injection hk with hk
    injection hk with _ e _
    rcases ht2 with h2 | h2
    · exact ht.1 (e.trans h2)
    · exact ht.2 (e.trans h2)
  rw [heap_setCell_other v hne]
  exact hk
theorem kelT_two {X Z : World} {b1 b2 : Nat} {c1 c2 : Array Value} {t1 t2 : TypeId} (h1 : X.heap[b1]? = some (.cells c1 t1 (0, 0))) (ht1 : t1 ≠ 5 ∧ t1 ≠ 46) (h2 : X.heap[b2]? = some (.cells c2 t2 (0, 0))) (ht2 : t2 ≠ 5 ∧ t2 ≠ 46)
    (h : ∀ k, k ≠ b1 → k ≠ b2 → Z.heap[k]? = X.heap[k]?) : KelT X Z := by
  intro k cs t hk ht
  have ne : ∀ {b c t'}, X.heap[b]? = some (.cells c t' (0, 0)) → (t' ≠ 5 ∧ t' ≠ 46) → k ≠ b := by
    rintro b c t' hb htb rfl
    rw [hb] at hk
    injection hk with hk
    injection hk with _ e _
    rcases ht with h' | h'
    · exact htb.1 (e.trans h')
    · exact htb.2 (e.trans h')
  rw [h k (ne h1 ht1) (ne h2 ht2)]
  exact hk
def ZT : Array Value := #[.int .i64 0, .slice none 0 0, .int .i64 0, .slice none 0 0]
/-- What Get answers of a ring of ts. -/
def GetOk (w : World) (ts : List TenM) (id : Int) (e : Ending) (W : World) : Prop := Below w.heap.size w W ∧
  ((∃ (t : TenM) (kx : Option Addr) (kc : Nat) (rx : Option Addr) (rc : Nat), t ∈ ts ∧ t.id = id ∧ e = .returned (.tuple #[.agg #[.int .i64 t.id, .slice kx t.key.length kc, .int .i64 t.streams, .slice rx t.rules.length rc], .bool true]) ∧ TenV.inn w.heap.size W ⟨t, kx, kc, rx, rc⟩) ∨
   ((∀ t ∈ ts, t.id ≠ id) ∧ e = .returned (.tuple #[.agg #[.int .i64 0, .slice none 0 0, .int .i64 0, .slice none 0 0], .bool false])))
section
variable {w0 w : World} {L : List Assn}
set_option maxRecDepth 100000 in
set_option maxHeartbeats 4000000 in
theorem get_in (n : Nat) (hn : 3 ≤ n) (p : Option Addr) (id : Int) (ts : List TenM) (w : World) (hseq : SeqIs (n - 1) w p ts) :
    CallsIn Fence.wide n Try.prog 17 #[.pointer p, .int .i64 id] w (GetOk w ts id) := by
  have h1 : 1 ≤ n := by omega
  refine callsIn_of_wp_marks Try.func17 rfl trivial ?_ rfl
  simp only [Try.ntmps17, List.size_toArray, List.length_cons, List.length_nil, Nat.reduceAdd, Nat.reduceSub, Array.replicate_succ, Array.replicate_zero, List.push_toArray, List.append_toArray, List.nil_append, List.cons_append]
  gi_wp2
  refine ⟨trivial, (ring_All (n - 1) p _).mono ?_⟩
  rintro _ w1 ⟨rfl, hw1⟩
  have s2 := ((Sat.refl w).alloc2 (.cells #[.int .i64 id] 3 (0, 0)) (.cells #[.int .i64 0, .slice none 0 0, .int .i64 0, .slice none 0 0] 28 (0, 0))).alloc2 (.cells #[.bool false] 4 (0, 0)) (.cells #[.pointer p] 30 (0, 0))
  rw [← hw1] at s2
  clear hw1
  simp only [World.size_alloc, Nat.add_assoc, Nat.reduceAdd] at s2 ⊢
  have hBw : Below w.heap.size w w1 := s2.below
  have hbm := s2.blk.1
  have hbf := s2.drop.blk.1
  have hbt := s2.drop.drop.blk.1
  have hbn := s2.drop.drop.drop.blk.1
  have hlt := s2.lt
  clear s2
  gi_wp2
  refine wpIn_seqY h1 (gf := 41) (lb := #[.pointer (some ⟨w.heap.size + 3, 0, none⟩)]) rfl (enters_of Try.func41 (by kernel_rfl) rfl) (hseq w1 (w.heap.size + 3) hBw (by omega) (cell_at hbm 0)) (Below.refl _ _) hBw.size (fun k args X h => h.size)
    (fun k X => ((∀ t ∈ ts.take k, t.id ≠ id) ∧ Boxed X w.heap.size 3 (.int .i64 id) ∧ X.heap[w.heap.size + 1]? = some (.cells #[.int .i64 0, .slice none 0 0, .int .i64 0, .slice none 0 0] 28 (0, 0)) ∧ Boxed X (w.heap.size + 2) 4 (.bool false)) ∧ Below w.heap.size w X)
    (fun c k X => (c = .ret ∧ ∃ (t : TenM) (kx : Option Addr) (kc : Nat) (rx : Option Addr) (rc : Nat), t ∈ ts ∧ t.id = id ∧ X.heap[w.heap.size + 1]? = some (.cells #[.int .i64 t.id, .slice kx t.key.length kc, .int .i64 t.streams, .slice rx t.rules.length rc] 28 (0, 0)) ∧ Boxed X (w.heap.size + 2) 4 (.bool true) ∧ TenV.inn w.heap.size X ⟨t, kx, kc, rx, rc⟩) ∧ Below w.heap.size w X)
    (fun k X Z ⟨⟨h, hb, hc, hd⟩, hB⟩ hK => ⟨⟨h, hK.boxed hb, hK.same _ _ hc (.inl rfl), hK.boxed hd⟩, hB.trans (hK.below hBw.size hB.size)⟩)
    (fun c k X Z ⟨⟨h, t, kx, kc, rx, rc, ht, hid2, hc, hd, hu⟩, hB⟩ hK => ⟨⟨h, t, kx, kc, rx, rc, ht, hid2, hK.same _ _ hc (.inl rfl), hK.boxed hd, hu.kel (KelT.ofKel hK)⟩, hB.trans (hK.below hBw.size hB.size)⟩)
    ⟨⟨(fun t h => (by cases h)), hbn, hbt, hbf⟩, hBw⟩ ?round ?done ?stop
  case round =>
    rintro l k args X hk hl hX ⟨⟨hno, bn, bt, bf⟩, hB⟩ ⟨t, kx, kc, rx, rc, htk, rfl, hinn⟩
    unfold TenV.c
    have HTK := hid_ htk
    have HNO := hid_ hno
    clear htk hno
    gi_wp2
    refine ⟨(KeepsOthers.alloc _ _).from _, (Below.refl _ X).alloc hB.size _, ?_⟩
    intro X2 hK
    have hKs := hK.size
    rw [World.size_alloc] at hKs
    have bn2 := hK.boxed (bn.alloc _)
    have hXb := (Array.getElem?_eq_some_iff.1 bf).1
    have bt2 := hK.same _ _ ((Below.heap_alloc X (.cells #[.int .i64 t.id, .slice kx t.key.length kc, .int .i64 t.streams, .slice rx t.rules.length rc] 28 (0, 0)) _ (by omega)).trans bt) (.inl rfl)
    have bf2 := hK.boxed (bf.alloc (.cells #[.int .i64 t.id, .slice kx t.key.length kc, .int .i64 t.streams, .slice rx t.rules.length rc] 28 (0, 0)))
    have hXs := hB.size
    have hB2 : Below w.heap.size w X2 := (hB.trans ((Below.refl _ X).alloc hB.size _)).trans (hK.below hBw.size (by simp; omega))
    have hkt : KelT X X2 := (KelT.ofBelow ((Below.refl _ X).alloc (Nat.le_refl _) _)).trans (KelT.ofKel hK)
    have hbv := World.alloc_heap_new X (.cells #[.int .i64 t.id, .slice kx t.key.length kc, .int .i64 t.streams, .slice rx t.rules.length rc] 28 (0, 0))
    have e0 := hK.cell ((cell_at hbv 0).trans rfl : _ = some (.int .i64 t.id))
    have e1 := hK.cell ((cell_at hbv 1).trans rfl : _ = some (.slice kx t.key.length kc))
    have e2 := hK.cell ((cell_at hbv 2).trans rfl : _ = some (.int .i64 t.streams))
    have e3 := hK.cell ((cell_at hbv 3).trans rfl : _ = some (.slice rx t.rules.length rc))
    clear hbv hK bn bt bf
    have hcn := bn2.cell
    have t0 : X2.cell? ⟨w.heap.size + 1, 0, none⟩ = some (.int .i64 0) := (cell_at bt2 0).trans rfl
    have t1 : X2.cell? ⟨w.heap.size + 1, 1, none⟩ = some (.slice none 0 0) := (cell_at bt2 1).trans rfl
    have t2 : X2.cell? ⟨w.heap.size + 1, 2, none⟩ = some (.int .i64 0) := (cell_at bt2 2).trans rfl
    have t3 : X2.cell? ⟨w.heap.size + 1, 3, none⟩ = some (.slice none 0 0) := (cell_at bt2 3).trans rfl
    have g0 : X2.frozen? ⟨w.heap.size + 1, 0, none⟩ = false := frozen_at bt2 0
    have g1 : X2.frozen? ⟨w.heap.size + 1, 1, none⟩ = false := frozen_at bt2 1
    have g2 : X2.frozen? ⟨w.heap.size + 1, 2, none⟩ = false := frozen_at bt2 2
    have g3 : X2.frozen? ⟨w.heap.size + 1, 3, none⟩ = false := frozen_at bt2 3
    have hcf := bf2.cell
    have hff := bf2.frozen
    have HK := hid_ hk
    clear hk
    by_cases heq : t.id = id
    · have q : (t.id == id) = true := by simp [heq]
      have HE := hid_ heq
      clear heq
      gi_wp2
      have b5 := heap_set4 (y0 := .int .i64 t.id) (y1 := .slice kx t.key.length kc) (y2 := .int .i64 t.streams) (y3 := .slice rx t.rules.length rc) bt2
      refine ⟨((((((KeepsOthers.setCell _ _ _).trans (KeepsOthers.setCell _ _ _)).trans (KeepsOthers.setCell _ _ _)).trans (KeepsOthers.setCell _ _ _)).trans (KeepsOthers.setCell _ _ _))).from _, ⟨rfl, t, kx, kc, rx, rc, List.mem_of_getElem? HTK.out, HE.out, ?_, ?_, ?_⟩, ?_⟩
      · rw [heap_setCell_other _ (by omega)]
        exact b5
      · have b6 : ((((X2.setCell ⟨w.heap.size + 1, 0, none⟩ (.int .i64 t.id)).setCell ⟨w.heap.size + 1, 1, none⟩ (.slice kx t.key.length kc)).setCell ⟨w.heap.size + 1, 2, none⟩ (.int .i64 t.streams)).setCell ⟨w.heap.size + 1, 3, none⟩ (.slice rx t.rules.length rc)).heap[w.heap.size + 2]? = some (.cells #[.bool false] 4 (0, 0)) := by
          rw [heap_setCell_other _ (by omega), heap_setCell_other _ (by omega), heap_setCell_other _ (by omega), heap_setCell_other _ (by omega)]
          exact bf2
        exact heap_setCell_same _ _ 0 (.bool true) b6
      · refine (hinn.kel hkt).kel ?_
        refine kelT_two bt2 (by decide) bf2 (by decide) (fun k h1 h2 => ?_)
        rw [heap_setCell_other _ h2, heap_setCell_other _ h1, heap_setCell_other _ h1, heap_setCell_other _ h1, heap_setCell_other _ h1]
      · exact ((((hB2.setCell (p := ⟨w.heap.size + 1, 0, none⟩) (by simp) _).setCell (p := ⟨w.heap.size + 1, 1, none⟩) (by simp) _).setCell (p := ⟨w.heap.size + 1, 2, none⟩) (by simp) _).setCell (p := ⟨w.heap.size + 1, 3, none⟩) (by simp) _).setCell (p := ⟨w.heap.size + 2, 0, none⟩) (by simp) _
    · have q : (t.id == id) = false := by simp [heq]
      have HE := hid_ heq
      clear heq
      gi_wp2
      refine ⟨KeepsFrom.refl _ _, Below.refl _ _, ⟨?_, bn2, bt2, bf2⟩, hB2⟩
      intro y hy
      rw [List.take_add_one, HTK.out] at hy
      simp only [Option.toList, List.mem_append, List.mem_singleton] at hy
      rcases hy with hy | rfl
      · exact HNO.out y hy
      · exact HE.out
  case done =>
    rintro D W hD ⟨⟨hno, bn, bt, bf⟩, hB⟩ hDK
    rw [List.take_length] at hno
    have HNO := hid_ hno
    clear hno
    have t0 : W.cell? ⟨w.heap.size + 1, 0, none⟩ = some (.int .i64 0) := (cell_at bt 0).trans rfl
    have t1 : W.cell? ⟨w.heap.size + 1, 1, none⟩ = some (.slice none 0 0) := (cell_at bt 1).trans rfl
    have t2 : W.cell? ⟨w.heap.size + 1, 2, none⟩ = some (.int .i64 0) := (cell_at bt 2).trans rfl
    have t3 : W.cell? ⟨w.heap.size + 1, 3, none⟩ = some (.slice none 0 0) := (cell_at bt 3).trans rfl
    have g0 : W.frozen? ⟨w.heap.size + 1, 0, none⟩ = false := frozen_at bt 0
    have g1 : W.frozen? ⟨w.heap.size + 1, 1, none⟩ = false := frozen_at bt 1
    have g2 : W.frozen? ⟨w.heap.size + 1, 2, none⟩ = false := frozen_at bt 2
    have g3 : W.frozen? ⟨w.heap.size + 1, 3, none⟩ = false := frozen_at bt 3
    have hcf := bf.cell
    have hff := bf.frozen
    gi_wp2
    have b5 := heap_set4 (y0 := .int .i64 0) (y1 := .slice none 0 0) (y2 := .int .i64 0) (y3 := .slice none 0 0) bt
    have b6 : ((((W.setCell ⟨w.heap.size + 1, 0, none⟩ (.int .i64 0)).setCell ⟨w.heap.size + 1, 1, none⟩ (.slice none 0 0)).setCell ⟨w.heap.size + 1, 2, none⟩ (.int .i64 0)).setCell ⟨w.heap.size + 1, 3, none⟩ (.slice none 0 0)).heap[w.heap.size + 2]? = some (.cells #[.bool false] 4 (0, 0)) := by
      rw [heap_setCell_other _ (by omega), heap_setCell_other _ (by omega), heap_setCell_other _ (by omega), heap_setCell_other _ (by omega)]
      exact bf
    have b7 := heap_setCell_same _ _ 0 (.bool false) b6
    have b5' := (heap_setCell_other (i := 0) (.bool false) (show w.heap.size + 1 ≠ w.heap.size + 2 by omega)).trans b5
    have hBf := ((((hB.setCell (p := ⟨w.heap.size + 1, 0, none⟩) (by simp) (.int .i64 0)).setCell (p := ⟨w.heap.size + 1, 1, none⟩) (by simp) (.slice none 0 0)).setCell (p := ⟨w.heap.size + 1, 2, none⟩) (by simp) (.int .i64 0)).setCell (p := ⟨w.heap.size + 1, 3, none⟩) (by simp) (.slice none 0 0)).setCell (p := ⟨w.heap.size + 2, 0, none⟩) (by simp) (.bool false)
    have hK' := ((((((KeepsOthers.setCell W ⟨w.heap.size + 1, 0, none⟩ (.int .i64 0)).trans (KeepsOthers.setCell _ ⟨w.heap.size + 1, 1, none⟩ (.slice none 0 0))).trans (KeepsOthers.setCell _ ⟨w.heap.size + 1, 2, none⟩ (.int .i64 0))).trans (KeepsOthers.setCell _ ⟨w.heap.size + 1, 3, none⟩ (.slice none 0 0))).trans (KeepsOthers.setCell _ ⟨w.heap.size + 2, 0, none⟩ (.bool false)))).same D _ hDK rfl
    obtain ⟨Wf, hWf⟩ : ∃ Wf, (((((W.setCell ⟨w.heap.size + 1, 0, none⟩ (.int .i64 0)).setCell ⟨w.heap.size + 1, 1, none⟩ (.slice none 0 0)).setCell ⟨w.heap.size + 1, 2, none⟩ (.int .i64 0)).setCell ⟨w.heap.size + 1, 3, none⟩ (.slice none 0 0)).setCell ⟨w.heap.size + 2, 0, none⟩ (.bool false)) = Wf := ⟨_, rfl⟩
    rw [hWf] at b7 b5' hBf hK' ⊢
    refine ⟨by simp, .inl ⟨_, _, rfl, run_takeDeferred hK', ?_⟩⟩
    have hkp : Kel w.heap.size Wf (Wf.putObj D (.deferred none)) := Kel.put hK' rfl (by omega)
    have r0 := hkp.cell ((cell_at b5' 0).trans rfl : _ = some (.int .i64 0))
    have r1 := hkp.cell ((cell_at b5' 1).trans rfl : _ = some (.slice none 0 0))
    have r2 := hkp.cell ((cell_at b5' 2).trans rfl : _ = some (.int .i64 0))
    have r3 := hkp.cell ((cell_at b5' 3).trans rfl : _ = some (.slice none 0 0))
    have r4 := hkp.cell ((cell_at b7 0).trans rfl : _ = some (.bool false))
    refine ⟨.tuple #[.agg #[.int .i64 0, .slice none 0 0, .int .i64 0, .slice none 0 0], .bool false], ?_, hBf.trans (hkp.below (Nat.le_refl _) hBf.size), .inr ⟨HNO.out, rfl⟩⟩
    simp [results, Try.f17, go_sem, r0, r1, r2, r3, r4]
  case stop =>
    rintro D c k W hD hk ⟨⟨rfl, t, kx, kc, rx, rc, ht, hid2, bt, bf, hu⟩, hB⟩ hDK
    have HID := hid_ hid2
    clear hid2
    gi_wp2
    refine ⟨by simp, .inl ⟨_, _, rfl, run_takeDeferred hDK, ?_⟩⟩
    have hkp : Kel w.heap.size W (W.putObj D (.deferred none)) := Kel.put hDK rfl (by omega)
    have r0 := hkp.cell ((cell_at bt 0).trans rfl : _ = some (.int .i64 t.id))
    have r1 := hkp.cell ((cell_at bt 1).trans rfl : _ = some (.slice kx t.key.length kc))
    have r2 := hkp.cell ((cell_at bt 2).trans rfl : _ = some (.int .i64 t.streams))
    have r3 := hkp.cell ((cell_at bt 3).trans rfl : _ = some (.slice rx t.rules.length rc))
    have r4 := hkp.cell bf.cell
    refine ⟨.tuple #[.agg #[.int .i64 t.id, .slice kx t.key.length kc, .int .i64 t.streams, .slice rx t.rules.length rc], .bool true], ?_, hB.trans (hkp.below (Nat.le_refl _) hB.size), .inl ⟨t, kx, kc, rx, rc, ht, HID.out, rfl, hu.kel (KelT.ofKel hkp)⟩⟩
    simp [results, Try.f17, go_sem, r0, r1, r2, r3, r4]
end
end Go.Proofs.Ytahnjbbjfjlpoaa
