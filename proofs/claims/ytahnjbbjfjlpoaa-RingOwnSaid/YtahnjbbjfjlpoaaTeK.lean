/- What every law of rings knows (awake): walked. -/
import Derived.Test.YtahnjbbjfjlpoaaByt
import Derived.Test.YtahnjbbjfjlpoaaTeJ
namespace Go.Proofs.Ytahnjbbjfjlpoaa
open Go Go.RowKit Go.Shelf Go.Maps
set_option linter.unusedVariables false
set_option linter.unusedSimpArgs false

theorem sorted_eq {us vs ts : List TenM} (h1 : us.Perm ts) (h2 : vs.Perm ts) (p1 : us.Pairwise (fun x y => x.id < y.id)) (p2 : vs.Pairwise (fun x y => x.id < y.id)) : us = vs :=
  List.Perm.eq_of_pairwise (fun a b _ _ h h' => by omega) p1 p2 (h1.trans h2.symm)
def zk : List UInt8 := zerosB 32
def t7 : TenM := ⟨7, zk, 0, []⟩
def t3 : TenM := ⟨3, zk, 0, []⟩
theorem aw_ok : okT [t7, t3] := by
  refine ⟨by decide, fun t ht => ?_, by decide⟩
  rcases List.mem_cons.1 ht with rfl | ht
  · decide +kernel
  · rw [List.mem_singleton.1 ht]; decide +kernel
section
variable {w0 w : World} {L : List Assn}
theorem get_ring (n : Nat) (hn : 4 ≤ n) (R : Nat) (ts : List TenM) (hts : ∀ t ∈ ts, t.may = true) (id : Int) (hr : RdRing w R ts) : Calls Try.prog 17 #[.pointer (some ⟨R, 0, none⟩), .int .i64 id] w (GetOk w ts id) :=
  callsIn_wide.1 (get_in n (by omega) _ id ts w (seq_ring (n - 1) (by omega) w R ts hts hr))
theorem get_nil (id : Int) : Calls Try.prog 17 #[.pointer none, .int .i64 id] w (GetOk w [] id) :=
  callsIn_wide.1 (get_in 4 (by omega) none id [] w (seq_nil 3 w))
theorem all_ring (R : Nat) (ts : List TenM) (hts : ∀ t ∈ ts, t.may = true) (hl : ts.length ≤ 1000) (N : Nat) (hN : N ≤ 1000) (hr : RdRing w R ts) : Calls Try.prog 14 #[.pointer (some ⟨R, 0, none⟩), .int .i64 N] w (AllOk w (ts.take N)) :=
  callsIn_wide.1 (all_in 4 (by omega) _ N hN ts hl w (seq_ring 3 (by omega) w R ts hts hr))
theorem all_nil (N : Nat) (hN : N ≤ 1000) : Calls Try.prog 14 #[.pointer none, .int .i64 N] w (AllOk w []) := by
  have h := all_in 4 (by omega) none N hN [] (by simp) w (seq_nil 3 w)
  rw [List.take_nil] at h
  exact callsIn_wide.1 h
theorem rdB_zeros {g : Nat} (h : w.heap[g]? = some (.cells (bytesC (zerosB 32)).toArray 5 (0, 0))) : RdB w (.slice (some ⟨g, 0, none⟩) 32 32) zk := by
  refine ⟨some ⟨g, 0, none⟩, 32, rfl, by decide, by decide, (fun e => nomatch e), fun _ => ⟨g, 0, rfl, (Array.getElem?_eq_some_iff.1 h).1, fun i hi => ?_⟩⟩
  rw [cell_at h, Nat.zero_add, List.getElem?_toArray]
  exact bytesC_get hi
theorem rdRus_nil : RdRus w none 0 [] := ⟨Nat.le_refl _, fun _ => rfl, Nat.zero_le _, fun i r h => by simp at h⟩
/-- New over the two tenants. -/
theorem aw_new (a b c : Nat) (h : Sat w0 w (Blk c (.cells #[.int .i64 7, .slice (some ⟨a, 0, none⟩) 32 32, .int .i64 0, .slice none 0 0, .int .i64 3, .slice (some ⟨b, 0, none⟩) 32 32, .int .i64 0, .slice none 0 0] 28 (0, 0)) :: Blk b (.cells (bytesC (zerosB 32)).toArray 5 (0, 0)) :: Blk a (.cells (bytesC (zerosB 32)).toArray 5 (0, 0)) :: L)) :
    Calls Try.prog 11 #[.slice (some ⟨c, 0, none⟩) 2 2] w fun e w' => ∃ r, e = .returned (.tuple #[.pointer (some ⟨r, 0, none⟩), .int .i64 0]) ∧ RdRing w' r [t3, t7] ∧ Below w.heap.size w w' := by
  have hv7 : TenV.rd w ⟨t7, some ⟨a, 0, none⟩, 32, none, 0⟩ := ⟨rdB_zeros h.drop.drop.blk.1, rdRus_nil⟩
  have hv3 : TenV.rd w ⟨t3, some ⟨b, 0, none⟩, 32, none, 0⟩ := ⟨rdB_zeros h.drop.blk.1, rdRus_nil⟩
  have hrow : RowT w (some ⟨c, 0, none⟩) 2 [⟨t7, some ⟨a, 0, none⟩, 32, none, 0⟩, ⟨t3, some ⟨b, 0, none⟩, 32, none, 0⟩] := by
    refine ⟨Nat.le_refl _, (fun e => nomatch e), by decide, fun i v hi => ⟨c, 0, rfl, h.lt, fun j u hj => ?_⟩⟩
    match i, hi with
    | 0, hi =>
      obtain rfl := Option.some.inj hi
      have hj4 : j < 4 := (List.getElem?_eq_some_iff.1 hj).1
      rw [cell_at h.blk.1]
      match j, hj4, hj with
      | 0, _, hj => exact hj
      | 1, _, hj => exact hj
      | 2, _, hj => exact hj
      | 3, _, hj => exact hj
    | 1, hi =>
      obtain rfl := Option.some.inj hi
      have hj4 : j < 4 := (List.getElem?_eq_some_iff.1 hj).1
      rw [cell_at h.blk.1]
      match j, hj4, hj with
      | 0, _, hj => exact hj
      | 1, _, hj => exact hj
      | 2, _, hj => exact hj
      | 3, _, hj => exact hj
  refine (ring_New (some ⟨c, 0, none⟩) 2 _ hrow (fun v hv => ?_)).mono ?_
  · rcases List.mem_cons.1 hv with rfl | hv
    · exact hv7
    · rw [List.mem_singleton.1 hv]; exact hv3
  · rintro e w' ⟨hb, ⟨hno, _⟩ | ⟨_, r, us, _, rfl, hring, hperm, hpw⟩⟩
    · exact absurd aw_ok hno
    · obtain rfl : us = [t3, t7] := sorted_eq (ts := [t7, t3]) hperm (List.Perm.swap _ _ _) hpw (by
        refine List.Pairwise.cons (fun y hy => ?_) (List.pairwise_singleton _ _)
        rw [List.mem_singleton.1 hy]
        decide)
      exact ⟨r, rfl, hring, hb⟩
theorem aw_may : ∀ t ∈ [t3, t7], t.may = true := fun t ht => aw_ok.2.1 t (by
  rcases List.mem_cons.1 ht with rfl | ht
  · exact List.mem_cons_of_mem _ (List.mem_singleton.2 rfl)
  · rw [List.mem_singleton.1 ht]; exact List.mem_cons_self ..)
set_option maxRecDepth 100000 in
set_option maxHeartbeats 4000000 in
theorem ring_awake (hs : Sat w0 w L) : Calls Try.prog 8 #[] w fun e w' => e = .returned (.bool true) ∧ Sat w0 w' L := by
  have hmk : ∀ w : World, (Instr.makeSlice 25 (.int .i64 32) (.int .i64 32)).run Try.prog w = .ok (.slice (some ⟨w.heap.size, 0, none⟩) 32 32) (w.alloc (.cells (bytesC (zerosB 32)).toArray 5 (0, 0))) := mk_u8 32 (by omega)
  have hA := ((hs.alloc2 (.cells (bytesC (zerosB 32)).toArray 5 (0, 0)) (.cells (bytesC (zerosB 32)).toArray 5 (0, 0))).alloc (.cells #[.int .i64 7, .slice (some ⟨w.heap.size, 0, none⟩) 32 32, .int .i64 0, .slice none 0 0, .int .i64 3, .slice (some ⟨w.heap.size + 1, 0, none⟩) 32 32, .int .i64 0, .slice none 0 0] 28 (0, 0))).drew
  have hB := ((hs.alloc2 (.cells (bytesC (zerosB 32)).toArray 5 (0, 0)) (.cells (bytesC (zerosB 32)).toArray 5 (0, 0))).alloc (.cells #[.int .i64 7, .slice (some ⟨w.heap.size + 1, 0, none⟩) 32 32, .int .i64 0, .slice none 0 0, .int .i64 3, .slice (some ⟨w.heap.size, 0, none⟩) 32 32, .int .i64 0, .slice none 0 0] 28 (0, 0))).drew
  have nA := aw_new _ _ _ hA
  have nB := aw_new _ _ _ (Sat.re [0, 2, 1] [_, _, _] hB)
  simp only [World.size_alloc] at nA nB
  go_enter Try.func8, Try.ntmps8
  go_upto_region 1 with fail
  go_cut [1, 2] (fun v1 v2 wx => ∃ r : Nat, v1 = .pointer (some ⟨r, 0, none⟩) ∧ v2 = .int .i64 0 ∧ RdRing wx r [t3, t7] ∧ Sat w0 wx L)
  case first =>
    go_region_law (first
      | (go_simp; go_at_call 11; refine nA.mono ?_; rintro _ w9 ⟨r, rfl, hring, hb⟩; have h9 := hA.drop.drop.drop.under hb)
      | (go_simp; go_at_call 11; refine nB.mono ?_; rintro _ w9 ⟨r, rfl, hring, hb⟩; have h9 := hB.drop.drop.drop.under hb))
    all_goals
      go_wp2_with fail
      go_meet
      exact ⟨r, rfl, rfl, hring, h9⟩
  obtain ⟨r, rfl, rfl, hring, h1⟩ := hcut
  have hR7 := fun (W : World) (h : RdRing W r [t3, t7]) => get_ring (w := W) 4 (by omega) r [t3, t7] aw_may 7 h
  have hR4 := fun (W : World) (h : RdRing W r [t3, t7]) => get_ring (w := W) 4 (by omega) r [t3, t7] aw_may 4 h
  clear nA nB hA hB hmk
  go_wp2_with fail
  refine (hR7 _ hring).mono ?_
  rintro _ w2 ⟨hb2, ⟨t, kx, kc, rx, rc, ht, hid7, rfl, hinn⟩ | ⟨hno, _⟩⟩
  case inr => exact absurd rfl (hno t7 (List.mem_cons_of_mem _ (List.mem_singleton.2 rfl)))
  have h2 := (h1.under hb2)
  have hring2 := hring.mono hb2
  have h3 := h2.alloc (.cells #[.int .i64 t.id, .slice kx t.key.length kc, .int .i64 t.streams, .slice rx t.rules.length rc] 28 (0, 0))
  have hring3 := hring2.mono (((Below.refl _ w2).alloc (Nat.le_refl _) (.cells #[.int .i64 t.id, .slice kx t.key.length kc, .int .i64 t.streams, .slice rx t.rules.length rc] 28 (0, 0))))
  have q7 : (t.id == 7) = true := by simp [hid7]
  clear hid7
  go_wp2_with fail
  refine (hR4 _ hring3).mono ?_
  rintro _ w4 ⟨hb4, ⟨t', kx', kc', rx', rc', ht', hid4, rfl, hinn'⟩ | ⟨hno, rfl⟩⟩
  case inl =>
    exfalso
    rcases List.mem_cons.1 ht' with rfl | ht'
    · exact absurd hid4 (by decide)
    · rw [List.mem_singleton.1 ht'] at hid4
      exact absurd hid4 (by decide)
  have h4 := h3.under hb4
  have hring4 := (hring3.mono hb4).mono (((Below.refl _ w4).alloc (Nat.le_refl _) (.cells #[.int .i64 0, .slice none 0 0, .int .i64 0, .slice none 0 0] 28 (0, 0))))
  have hL := ring_Len r [t3, t7] hring4
  have h5 := h4.alloc (.cells #[.int .i64 0, .slice none 0 0, .int .i64 0, .slice none 0 0] 28 (0, 0))
  have ct := h5.drop.cell 0 (v := .int .i64 t.id) rfl
  clear hno
  go_wp2_with fail
  refine hL.mono ?_
  rintro _ w6 ⟨rfl, rfl⟩
  go_wp2_with fail
  go_ret
  exact ⟨rfl, h5.drop.drop⟩
end
end Go.Proofs.Ytahnjbbjfjlpoaa
