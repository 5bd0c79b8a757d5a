/- The law MuxRoom, walked. -/
import Derived.Deep.RegionLaw
import Derived.Deep.WholeRow
import Derived.Test.YtkejadhkebjdcaaMxN
namespace Go.Proofs.Ytkejadhkebjdcaa
open Go Go.RowKit Go.Maps
set_option linter.unusedVariables false
set_option linter.unusedSimpArgs false

theorem find_isSome {α : Type} (p : α → Bool) (l : List α) : (l.find? p).isSome = l.any p := by
  induction l with
  | nil => rfl
  | cons a l ih => rw [List.find?_cons, List.any_cons]; cases h : p a <;> simp [ih]
def hasM (l : List (Nat × StM)) (id : Int) : Bool := (getM l id).isSome
theorem hasM_any (l : List (Nat × StM)) (id : Int) : hasM l id = l.any fun e => e.2.id == id := find_isSome _ _
theorem hasM_add (x : Nat × StM) (l : List (Nat × StM)) (i : Int) : hasM (addM x l) i = (x.2.id == i || hasM l i) := by
  rw [hasM_any, hasM_any, (add_perm x l).any_eq, List.any_cons]
theorem hasM_drop (l : List (Nat × StM)) (id i : Int) : hasM (dropM l id) i = (hasM l i && i != id) := by
  rw [hasM_any, hasM_any]
  unfold dropM
  rw [List.any_filter]
  induction l with
  | nil => rfl
  | cons a l ih =>
    rw [List.any_cons, List.any_cons, ih]
    by_cases h1 : a.2.id = i
    · subst h1
      cases h2 : (a.2.id != id) <;> simp
    · have : (a.2.id == i) = false := by simp [h1]
      simp [this]
theorem len_add (x : Nat × StM) (l : List (Nat × StM)) : (addM x l).length = l.length + 1 := by
  have := (add_perm x l).length_eq
  simpa using this
theorem len_drop {l : List (Nat × StM)} (h : (l.map (·.2.id)).Pairwise (· < ·)) {id : Int} (hh : hasM l id = true) : (dropM l id).length + 1 = l.length := by
  induction l with
  | nil => simp [hasM, getM] at hh
  | cons a l ih =>
    simp only [List.map_cons, List.pairwise_cons] at h
    by_cases ha : a.2.id = id
    · have hd : dropM (a :: l) id = l := by
        unfold dropM
        rw [List.filter_cons]
        rw [if_neg (by simp [ha])]
        rw [List.filter_eq_self]
        intro e he
        have := h.1 e.2.id (List.mem_map.2 ⟨e, he, rfl⟩)
        simp only [bne_iff_ne, ne_eq]
        omega
      rw [hd]
      rfl
    · have hb : (a.2.id == id) = false := by simp [ha]
      have hh' : hasM l id = true := by
        rw [hasM_any, List.any_cons, hb, Bool.false_or] at hh
        rw [hasM_any]
        exact hh
      have := ih h.2 hh'
      unfold dropM at this ⊢
      rw [List.filter_cons, if_pos (by simp [ha]), List.length_cons, List.length_cons]
      omega
/-- Which ids are there, as the law keeps it. -/
def thB (l : List (Nat × StM)) : List Value := (List.range 20).map fun i : Nat => .bool (hasM l (i : Int))
theorem thB_len (l : List (Nat × StM)) : (thB l).length = 20 := by simp [thB]
theorem thB_get (l : List (Nat × StM)) {j : Nat} (h : j < 20) : (thB l).toArray[j]? = some (.bool (hasM l (j : Int))) := by
  rw [List.getElem?_toArray]
  simp [thB, h]
theorem thB_set {l l' : List (Nat × StM)} {j : Nat} {b : Bool} (h : j < 20) (hb : hasM l' j = b) (ho : ∀ i : Nat, i ≠ j → hasM l' i = hasM l i) : (thB l).set j (.bool b) = thB l' := by
  apply List.ext_getElem?
  intro i
  rw [List.getElem?_set]
  by_cases hi : j = i
  · subst hi
    simp [thB, h, hb]
  · rw [if_neg hi]
    by_cases h2 : i < 20
    · simp [thB, h2, ho i (by omega)]
    · simp [thB, h2]
/-- A whole array into the block that was made last, as the walk meets it. -/
theorem wpList_store_new {P : Program} {w : World} {ops : Array Oper} {rest : List Oper} {op : Oper} {a : Act} {Q : Exit → Act → World → Prop} (hgd : op.guard = none) (ty : TypeId) (x y : Operand) (ho : op.op = .store ty x y)
    (c c' : Array Value) (hx : a.eval x = .pointer (some ⟨w.heap.size, 0, none⟩)) (hy : a.eval y = .agg c') (hi : (P.info? ty).map (·.size) = some c'.size) (hs : c.size = c'.size) (h1 : c'.all (·.oneCell') = true)
    (h : wpList P ops Q rest (a.put op.dst undef) (w.alloc (.cells c' ty))) : wpList P ops Q (op :: rest) a (w.alloc (.cells c ty)) := by
  refine wpList_plain hgd fun _ hK => ?_
  unfold Oper.wp execOp
  simp only [ho, hx, hy, run_storeAt_new w ty c c' hi hs h1, Sem.run_bind, Sem.run_pure, Result.andThen_ok]
  exact hK _ _ h
theorem getM_none {l : List (Nat × StM)} {id : Int} (h : hasM l id = false) : getM l id = none := by
  unfold hasM at h
  cases hg : getM l id with
  | none => rfl
  | some e => rw [hg] at h; cases h
theorem openB_has {mo : Int} {l : List (Nat × StM)} {id : Int} (h : hasM l id = true) : openB mo l id = false := by
  unfold openB
  unfold hasM at h
  cases hg : getM l id with
  | none => rw [hg] at h; cases h
  | some e => simp
theorem openB_full {mo : Int} {l : List (Nat × StM)} {id : Int} (h : ¬ (l.length : Int) < mo) : openB mo l id = false := by
  unfold openB
  simp [h]
theorem openB_yes {mo : Int} {l : List (Nat × StM)} {id : Int} (h : hasM l id = false) (h1 : (l.length : Int) < mo) (h2 : 1 ≤ id ∧ id ≤ 65535) : openB mo l id = true := by
  unfold openB
  rw [getM_none h]
  simp [h1, h2.1, h2.2]
theorem ids_len (l : List (Nat × StM)) : (idsOf l).length = l.length := by simp [idsOf]
theorem wf_small {d : Nat} (h : d < 70000) : (Lit.int .i64 (d : Int)).wf = true := by
  simp [Lit.wf, IntKind.min, IntKind.max, IntKind.signed, IntKind.bits]
  omega
section
variable {w0 w : World} {L : List Assn}
set_option maxRecDepth 100000 in
set_option maxHeartbeats 8000000 in
theorem mux_room_law (u v : Value) (w : World) (hu : IsInt w u) (hv : IsInts w v) :
    Calls Try.prog 3 #[u, v] w fun e w' => e = .returned (.bool true) ∧ Below w.heap.size w w' := by
  obtain ⟨k0, rfl, _⟩ := hu
  obtain ⟨al, cl, l, rfl, hl⟩ := hv
  have hs := Sat.refl w
  have hb1 := um_bd k0 (m := 8) (by omega) (by omega)
  obtain ⟨mz, hmz⟩ := Int.eq_ofNat_of_zero_le hb1.1
  rw [hmz] at hb1
  have hE1 : IntKind.i64.wrap (1 + (mz : Int)) = ((mz + 1 : Nat) : Int) := by rw [IntWalk.i64_in _ (by omega)]; omega
  obtain ⟨M, hM⟩ : ∃ M, mz + 1 = M := ⟨_, rfl⟩
  have hM1 : 1 ≤ M ∧ M ≤ 8 := by omega
  rw [hM] at hE1
  clear hM hb1
  obtain ⟨n, hn⟩ : ∃ n, l.length = n := ⟨_, rfl⟩
  have HN := hid_ hn
  rw [hn]
  clear hn
  go_enter Try.func3, Try.ntmps3
  go_wp2_with fail
  refine (mux_New 10 M hs).mono ?_
  rintro _ w1 ⟨m, rfl, h1⟩
  rw [show max (1 : Int) (min 10 65536) = 10 by decide, show max (1 : Int) (min M 64) = M by omega] at h1
  go_wp2_with (refine wpList_store_new (w := w1) rfl _ _ _ rfl _ _ rfl rfl (by kernel_rfl) rfl (by kernel_rfl) ?_)
  obtain ⟨tB, htB⟩ : ∃ g, w1.heap.size = g := ⟨_, rfl⟩
  have h2 := (h1.alloc (.cells (thB []).toArray 26 (0, 0))).swap
  rw [htB] at h2 ⊢
  rw [show (thB []).toArray = #[.bool false, .bool false, .bool false, .bool false, .bool false, .bool false, .bool false, .bool false, .bool false, .bool false, .bool false, .bool false, .bool false, .bool false, .bool false, .bool false, .bool false, .bool false, .bool false, .bool false] from rfl] at h2
  generalize w1.alloc (.cells #[.bool false, .bool false, .bool false, .bool false, .bool false, .bool false, .bool false, .bool false, .bool false, .bool false, .bool false, .bool false, .bool false, .bool false, .bool false, .bool false, .bool false, .bool false, .bool false, .bool false] 26) = w2 at h2 ⊢
  rw [show #[Value.bool false, Value.bool false, Value.bool false, Value.bool false, Value.bool false, Value.bool false, Value.bool false, Value.bool false, Value.bool false, Value.bool false, Value.bool false, Value.bool false, Value.bool false, Value.bool false, Value.bool false, Value.bool false, Value.bool false, Value.bool false, Value.bool false, Value.bool false] = (thB []).toArray from rfl] at h2
  clear h1 htB
  go_loopg [6, 21] n (fun gg v6 v21 wr => ∃ (i : Nat) (q : List (Nat × StM)), i ≤ n ∧ n - i ≤ gg ∧ v21 = .int .i64 i ∧ v6 = .int .i64 q.length ∧ Sat w wr [MxA m 10 M q, Blk tB (.cells (thB q).toArray 26 (0, 0))])
  case atStart => exact ⟨0, [], by omega, by omega, rfl, rfl, h2⟩
  case round =>
    obtain ⟨i, q, hi, hgg, rfl, rfl, h3⟩ := hrel
    clear h2
    have hok := MxA.ok h3
    have hq8 : q.length ≤ M := by have := hok.len; omega
    have hri := hid_ hok.rise
    clear hok
    by_cases hlt : i < n
    · obtain ⟨k, hk⟩ : ∃ k, l[i]? = some k := ⟨_, List.getElem?_eq_getElem (by rw [HN.out]; exact hlt)⟩
      obtain ⟨b, o, rfl, hb, hc, _⟩ := hl.2.2 i k hk
      have c0 : wr.cell? ⟨b, o + i * 1 + 0, none⟩ = some (.int .i64 k) := (h3.below.cell (p := ⟨b, o + i * 1 + 0, none⟩) hb).trans (hc 0 _ rfl)
      rw [Nat.mul_one, Nat.add_zero] at c0
      have z1 : (i : Int) < (n : Int) := by omega
      clear hk hc
      by_cases h60 : 60 ≤ i
      · have q60 : decide ((60 : Int) ≤ (i : Int)) = true := by simp; omega
        clear h60
        go_wp2_with fail
        refine (mux_Open 0 (by decide) h3).mono ?_
        rintro _ wA ⟨gA, rfl, hA⟩
        rw [show openB M q 0 = false by unfold openB; simp]
        go_wp2_with fail
        refine (mux_Open 65536 (by decide) hA).mono ?_
        rintro _ wB ⟨gB, rfl, hB⟩
        rw [show ∀ r, openB M r 65536 = false from fun r => by unfold openB; simp]
        go_wp2_with fail
        refine (mx_awake hB).mono ?_
        rintro _ wC ⟨rfl, hC⟩
        go_wp2_with fail
        go_ret
        exact ⟨rfl, hC.below⟩
      have q60 : decide ((60 : Int) ≤ (i : Int)) = false := by simp; omega
      have hi60 : i < 60 := by omega
      clear h60
      have hb16 := um_bd k (m := 16) (by omega) (by omega)
      obtain ⟨j, hj⟩ := Int.eq_ofNat_of_zero_le hb16.1
      rw [hj] at hb16
      obtain ⟨d, hd⟩ : ∃ d, j + 1 = d := ⟨_, rfl⟩
      have hE2 : IntKind.i64.wrap (1 + (j : Int)) = (d : Int) := by rw [IntWalk.i64_in _ (by omega)]; omega
      have hd1 : 1 ≤ d ∧ d ≤ 16 := by omega
      have hdw := hid_ (wf_small (d := d) (by omega))
      have hdz : (0 : Int) ≤ (d : Int) ∧ (d : Int) < 20 := by omega
      clear hb16 hd
      have hth : ∀ W, Sat w W [MxA m 10 M q, Blk tB (.cells (thB q).toArray 26 (0, 0))] → W.cell? ⟨tB, d, none⟩ = some (.bool (hasM q d)) := fun W h => h.swap.cell d (thB_get q (by omega))
      obtain ⟨bt, hbt⟩ : ∃ bt, (bits BinOp.and IntKind.i64 k 32 == 0) = bt := ⟨_, rfl⟩
      have hid8 : (idsOf q).length = q.length := ids_len q
      cases bt
      · cases hh : hasM q d
        · rw [hh] at hth
          have cT := hth _ h3.drew
          have cT0 := hth _ h3

          have hO : ∀ W, Sat w W [MxA m 10 M q, Blk tB (.cells (thB q).toArray 26 (0, 0))] → Calls Try.prog 11 #[.pointer (some ⟨m, 0, none⟩), .int .i64 d] W fun e w' => e = .returned (.bool false) ∧ Sat w w' [MxA m 10 M (dropM q d), Blk tB (.cells (thB q).toArray 26 (0, 0))] := fun W h => (mux_Drop d hdw.out h).mono (fun e w' ⟨he, h'⟩ => by
            rw [show (getM q d).isSome = false from hh] at he
            exact ⟨he, h'⟩)
          have HH := hid_ hh
          have hTd : (thB q).toArray[d]? = some (.bool false) := by rw [thB_get q (by omega), HH.out]
          clear hh
          go_upto_region 16 with fail
          go_region_held3 (fun W => W.cell? ⟨tB, d, none⟩ = some (.bool false)) (first | exact cT | exact cT2)
            ((go_at_call 11; refine (hO _ h3.drew).mono ?_; rintro _ w4 ⟨rfl, h4⟩; have cT2 : w4.cell? ⟨tB, d, none⟩ = some (.bool false) := h4.swap.cell d hTd))

          rw [drop_none (getM_none HH.out)] at h4

          go_wp2_with fail
          refine (mux_Len h4).mono ?_
          rintro _ _ ⟨rfl, rfl⟩
          go_wp2_with fail
          refine (law_ids 100 (by omega) h4).mono ?_
          rintro _ w9 ⟨a9, c9, rfl, h9⟩
          rw [List.take_of_length_le (by rw [ids_len]; omega), ids_len] at h9
          rw [List.take_of_length_le (by rw [ids_len]; omega), ids_len]
          go_wp2_with fail
          go_roundg (n - (i + 1))
          case measure => omega
          case rel => exact ⟨i + 1, q, by omega, by omega, by go_num, rfl, h9.drop⟩
        · rw [hh] at hth
          have cT := hth _ h3.drew
          have cT0 := hth _ h3

          have hO : ∀ W, Sat w W [MxA m 10 M q, Blk tB (.cells (thB q).toArray 26 (0, 0))] → Calls Try.prog 11 #[.pointer (some ⟨m, 0, none⟩), .int .i64 d] W fun e w' => e = .returned (.bool true) ∧ Sat w w' [MxA m 10 M (dropM q d), Blk tB (.cells (thB q).toArray 26 (0, 0))] := fun W h => (mux_Drop d hdw.out h).mono (fun e w' ⟨he, h'⟩ => by
            rw [show (getM q d).isSome = true from hh] at he
            exact ⟨he, h'⟩)
          have HH := hid_ hh
          have hTd : (thB q).toArray[d]? = some (.bool true) := by rw [thB_get q (by omega), HH.out]
          clear hh
          go_upto_region 16 with fail
          go_region_held3 (fun W => W.cell? ⟨tB, d, none⟩ = some (.bool true)) (first | exact cT | exact cT2)
            ((go_at_call 11; refine (hO _ h3.drew).mono ?_; rintro _ w4 ⟨rfl, h4⟩; have cT2 : w4.cell? ⟨tB, d, none⟩ = some (.bool true) := h4.swap.cell d hTd))

          have hfT := h4.swap.frozen d
          have hq' : (dropM q d).length + 1 = q.length := len_drop hri.out HH.out
          obtain ⟨e, he⟩ : ∃ e, (dropM q d).length = e := ⟨_, rfl⟩
          have hqe : q.length = e + 1 := by omega
          have hE3 : IntKind.i64.wrap ((q.length : Int) - 1) = (e : Int) := by rw [IntWalk.i64_in _ (by omega)]; omega
          have h5 := (h4.swap.set d (.bool false)).swap
          rw [List.setIfInBounds_toArray, thB_set (l' := dropM q d) (by omega) (by rw [hasM_drop]; simp) (fun i hi => by rw [hasM_drop]; rw [show ((i : Int) != (d : Int)) = true by simp; omega, Bool.and_true])] at h5
          have HQ := hid_ hq'
          clear hq'
          have HQE := hid_ hqe
          have hqm : e ≤ M := by omega
          clear hqe

          go_wp2_with fail
          refine (mux_Len h5).mono ?_
          rintro _ _ ⟨rfl, rfl⟩
          rw [he]
          go_wp2_with fail
          refine (law_ids 100 (by omega) h5).mono ?_
          rintro _ w9 ⟨a9, c9, rfl, h9⟩
          rw [List.take_of_length_le (by rw [ids_len]; rw [he]; omega), ids_len, he] at h9
          rw [List.take_of_length_le (by rw [ids_len]; rw [he]; omega), ids_len, he]
          go_wp2_with fail
          go_roundg (n - (i + 1))
          case measure => omega
          case rel => exact ⟨i + 1, dropM q d, by omega, by omega, by go_num, by rw [he], h9.drop⟩
      · cases hh : hasM q d
        · rw [hh] at hth
          have cT := hth _ h3.drew
          have cT0 := hth _ h3
          by_cases hlm : q.length < M
          · have hB := hid_ (openB_yes (mo := M) hh (by omega) (by omega))
            have hO : ∀ W, Sat w W [MxA m 10 M q, Blk tB (.cells (thB q).toArray 26 (0, 0))] → Calls Try.prog 10 #[.pointer (some ⟨m, 0, none⟩), .int .i64 d] W fun e w' => ∃ g, e = .returned (.bool true) ∧ Sat w w' [MxA m 10 M (addM (g, StM.new d 10) q), Blk tB (.cells (thB q).toArray 26 (0, 0))] := fun W h => (mux_Open d hdw.out h).mono (fun e w' ⟨g, he, h'⟩ => by
              unfold openM at h'
              rw [hB.out] at he h'
              exact ⟨g, he, h'⟩)
            have HH := hid_ hh
            have qlm : decide (q.length < M) = true := by simp; omega
            have HLM := hid_ hlm
            have hTd : (thB q).toArray[d]? = some (.bool false) := by rw [thB_get q (by omega), HH.out]
            clear hlm hh
            go_upto_region 11 with fail
            go_region_held3 (fun W => W.cell? ⟨tB, d, none⟩ = some (.bool false)) (first | exact cT | exact cT2)
              ((go_at_call 10; refine (hO _ h3.drew).mono ?_; rintro _ w4 ⟨g4, rfl, h4⟩; have cT2 : w4.cell? ⟨tB, d, none⟩ = some (.bool false) := h4.swap.cell d hTd))
            have hfT := h4.swap.frozen d
            have hq' : (addM (g4, StM.new d 10) q).length = q.length + 1 := len_add _ _
            have hE3 : IntKind.i64.wrap ((q.length : Int) + 1) = ((q.length + 1 : Nat) : Int) := by rw [IntWalk.i64_in _ (by omega)]; omega
            have h5 := (h4.swap.set d (.bool true)).swap
            rw [List.setIfInBounds_toArray, thB_set (l' := addM (g4, StM.new d 10) q) (by omega) (by rw [hasM_add]; simp [StM.new]) (fun i hi => by rw [hasM_add]; simp only [StM.new]; rw [show ((d : Int) == (i : Int)) = false by simp; omega, Bool.false_or])] at h5
            have HLM2 := hid_ (show q.length + 1 ≤ M by have := HLM.out; omega)

            go_wp2_with fail
            refine (mux_Len h5).mono ?_
            rintro _ _ ⟨rfl, rfl⟩
            rw [hq']
            go_wp2_with fail
            refine (law_ids 100 (by omega) h5).mono ?_
            rintro _ w9 ⟨a9, c9, rfl, h9⟩
            rw [List.take_of_length_le (by rw [ids_len]; have := HLM2.out; rw [hq']; omega), ids_len, hq'] at h9
            rw [List.take_of_length_le (by rw [ids_len]; have := HLM2.out; rw [hq']; omega), ids_len, hq']
            go_wp2_with fail
            go_roundg (n - (i + 1))
            case measure => omega
            case rel => exact ⟨i + 1, addM (g4, StM.new d 10) q, by omega, by omega, by go_num, by rw [hq']; go_num, h9.drop⟩
          · have hB := hid_ (openB_full (mo := M) (l := q) (id := d) (by omega))
            have hO : ∀ W, Sat w W [MxA m 10 M q, Blk tB (.cells (thB q).toArray 26 (0, 0))] → Calls Try.prog 10 #[.pointer (some ⟨m, 0, none⟩), .int .i64 d] W fun e w' => e = .returned (.bool false) ∧ Sat w w' [MxA m 10 M q, Blk tB (.cells (thB q).toArray 26 (0, 0))] := fun W h => (mux_Open d hdw.out h).mono (fun e w' ⟨g, he, h'⟩ => by
              unfold openM at h'
              rw [hB.out] at he h'
              exact ⟨he, h'⟩)
            have qlm : decide (q.length < M) = false := by simp; omega
            have HLM := hid_ hlm
            clear hlm hh
            go_upto_region 11 with fail
            go_region_held3 (fun W => W.cell? ⟨tB, d, none⟩ = some (.bool false)) (first | exact cT | exact cT2)
              ((go_at_call 10; refine (hO _ h3.drew).mono ?_; rintro _ w4 ⟨rfl, h4⟩; have cT2 : w4.cell? ⟨tB, d, none⟩ = some (.bool false) := hth _ h4))

            go_wp2_with fail
            refine (mux_Len h4).mono ?_
            rintro _ _ ⟨rfl, rfl⟩
            go_wp2_with fail
            refine (law_ids 100 (by omega) h4).mono ?_
            rintro _ w9 ⟨a9, c9, rfl, h9⟩
            rw [List.take_of_length_le (by rw [ids_len]; omega), ids_len] at h9
            rw [List.take_of_length_le (by rw [ids_len]; omega), ids_len]
            go_wp2_with fail
            go_roundg (n - (i + 1))
            case measure => omega
            case rel => exact ⟨i + 1, q, by omega, by omega, by go_num, rfl, h9.drop⟩
        · rw [hh] at hth
          have cT := hth _ h3.drew
          have cT0 := hth _ h3

          have hB := hid_ (openB_has (mo := M) hh)
          have hO : ∀ W, Sat w W [MxA m 10 M q, Blk tB (.cells (thB q).toArray 26 (0, 0))] → Calls Try.prog 10 #[.pointer (some ⟨m, 0, none⟩), .int .i64 d] W fun e w' => e = .returned (.bool false) ∧ Sat w w' [MxA m 10 M q, Blk tB (.cells (thB q).toArray 26 (0, 0))] := fun W h => (mux_Open d hdw.out h).mono (fun e w' ⟨g, he, h'⟩ => by
            unfold openM at h'
            rw [hB.out] at he h'
            exact ⟨he, h'⟩)
          clear hh
          go_upto_region 11 with fail
          refine wp_region_held_drew (S := fun W => W.cell? ⟨tB, d, none⟩ = some (.bool true)) (by kernel_rfl) cT (fun hHeld => ?_)
          refine wpAnyH_take (i := 0) (oi := ⟨(some 36), _, _, _, _, _⟩) (v := ?va0) rfl (by kernel_rfl) (by kernel_rfl) (by kernel_rfl) (fun _ _ _ h => h) (Or.inl ⟨by rfl, ?ya0⟩) hHeld ?_
          case ya0 => intro W hW; (try dsimp only at hW); go_simp; try with_reducible rfl
          try simp only [Act.put, List.setIfInBounds_toArray, List.set_cons_zero, List.set_cons_succ]
          refine wpAnyH_take (i := 1) (oi := ⟨(some 37), _, _, _, _, _⟩) (v := ?va1) rfl (by kernel_rfl) (by kernel_rfl) (by kernel_rfl) (fun _ _ _ h => h) (Or.inl ⟨by rfl, ?ya1⟩) hHeld ?_
          case ya1 => intro W hW; (try dsimp only at hW); go_simp; try with_reducible rfl
          try simp only [Act.put, List.setIfInBounds_toArray, List.set_cons_zero, List.set_cons_succ]
          refine wpAnyH_take (i := 3) (oi := ⟨(some 39), _, _, _, _, _⟩) (v := ?va3) rfl (by kernel_rfl) (by kernel_rfl) (by kernel_rfl) (fun _ _ _ h => h) (Or.inl ⟨by rfl, ?ya3⟩) hHeld ?_
          case ya3 => intro W hW; (try dsimp only at hW); go_simp; try with_reducible rfl
          try simp only [Act.put, List.setIfInBounds_toArray, List.set_cons_zero, List.set_cons_succ]
          refine wpAnyH_take (i := 4) (oi := ⟨(some 40), _, _, _, _, _⟩) (v := ?va4) rfl (by kernel_rfl) (by kernel_rfl) (by kernel_rfl) (fun _ _ _ h => h) (Or.inl ⟨by rfl, ?ya4⟩) hHeld ?_
          case ya4 => intro W hW; (try dsimp only at hW); go_simp; try with_reducible rfl
          try simp only [Act.put, List.setIfInBounds_toArray, List.set_cons_zero, List.set_cons_succ]
          refine wpAnyH_take (i := 5) (oi := ⟨(some 41), _, _, _, _, _⟩) (v := ?va5) rfl (by kernel_rfl) (by kernel_rfl) (by kernel_rfl) (fun _ _ _ h => h) (Or.inl ⟨by rfl, ?ya5⟩) hHeld ?_
          case ya5 => intro W hW; (try dsimp only at hW); go_simp; try with_reducible rfl
          try simp only [Act.put, List.setIfInBounds_toArray, List.set_cons_zero, List.set_cons_succ]
          refine wpAnyH_take (i := 6) (oi := ⟨(some 42), _, _, _, _, _⟩) (v := ?va6) rfl (by kernel_rfl) (by kernel_rfl) (by kernel_rfl) (fun _ _ _ h => h) (Or.inl ⟨by rfl, ?ya6⟩) hHeld ?_
          case ya6 => intro W hW; (try dsimp only at hW); go_simp; try with_reducible rfl
          try simp only [Act.put, List.setIfInBounds_toArray, List.set_cons_zero, List.set_cons_succ]
          refine wpAnyH_ready (rs := [2]) (by kernel_rfl) (by simp) ?_
          refine AllReadyH.cons (o := ⟨some 38, _, _, _, _, _⟩) rfl (fun K hK => ?_) AllReadyH.nil
          go_simp
          go_at_call 10
          refine (hO _ h3.drew).mono ?_
          rintro _ w4 ⟨rfl, h4⟩
          have cT2 : w4.cell? ⟨tB, d, none⟩ = some (.bool true) := hth _ h4
          refine hK.out _ _ cT2 (fun hHeld => ?_)
          clear hK K
          try simp only [Act.put, List.setIfInBounds_toArray, List.set_cons_zero, List.set_cons_succ]
          refine wpAnyH_take (i := 7) (oi := ⟨(some 43), _, _, _, _, _⟩) (v := ?vb7) rfl (by kernel_rfl) (by kernel_rfl) (by kernel_rfl) (fun _ _ _ h => h) (Or.inl ⟨by rfl, ?yb7⟩) hHeld ?_
          case yb7 => intro W hW; (try dsimp only at hW); go_simp; try with_reducible rfl
          try simp only [Act.put, List.setIfInBounds_toArray, List.set_cons_zero, List.set_cons_succ]
          refine wpAnyH_take (i := 8) (oi := ⟨(some 44), _, _, _, _, _⟩) (v := undef) rfl (by kernel_rfl) (by kernel_rfl) (by kernel_rfl) (fun _ _ _ h => h) (Or.inr ⟨by rfl, rfl⟩) hHeld ?_
          try simp only [Act.put, List.setIfInBounds_toArray, List.set_cons_zero, List.set_cons_succ]
          refine wpAnyH_take (i := 9) (oi := ⟨(some 45), _, _, _, _, _⟩) (v := undef) rfl (by kernel_rfl) (by kernel_rfl) (by kernel_rfl) (fun _ _ _ h => h) (Or.inr ⟨by rfl, rfl⟩) hHeld ?_
          try simp only [Act.put, List.setIfInBounds_toArray, List.set_cons_zero, List.set_cons_succ]
          refine wpAnyH_take (i := 10) (oi := ⟨(some 46), _, _, _, _, _⟩) (v := undef) rfl (by kernel_rfl) (by kernel_rfl) (by kernel_rfl) (fun _ _ _ h => h) (Or.inr ⟨by rfl, rfl⟩) hHeld ?_
          try simp only [Act.put, List.setIfInBounds_toArray, List.set_cons_zero, List.set_cons_succ]
          refine wpAnyH_take (i := 11) (oi := ⟨(some 47), _, _, _, _, _⟩) (v := ?vc11) rfl (by kernel_rfl) (by kernel_rfl) (by kernel_rfl) (fun _ _ _ h => h) (Or.inl ⟨by rfl, ?yc11⟩) hHeld ?_
          case yc11 => intro W hW; (try dsimp only at hW); go_simp; try with_reducible rfl
          try simp only [Act.put, List.setIfInBounds_toArray, List.set_cons_zero, List.set_cons_succ]
          refine wpAnyH_take (i := 12) (oi := ⟨(some 48), _, _, _, _, _⟩) (v := ?vc12) rfl (by kernel_rfl) (by kernel_rfl) (by kernel_rfl) (fun _ _ _ h => h) (Or.inl ⟨by rfl, ?yc12⟩) hHeld ?_
          case yc12 => intro W hW; (try dsimp only at hW); go_simp; try with_reducible rfl
          try simp only [Act.put, List.setIfInBounds_toArray, List.set_cons_zero, List.set_cons_succ]
          refine wpAnyH_done (by kernel_rfl) ?_ _

          go_wp2_with fail
          refine (mux_Len h4).mono ?_
          rintro _ _ ⟨rfl, rfl⟩
          go_wp2_with fail
          refine (law_ids 100 (by omega) h4).mono ?_
          rintro _ w9 ⟨a9, c9, rfl, h9⟩
          rw [List.take_of_length_le (by rw [ids_len]; omega), ids_len] at h9
          rw [List.take_of_length_le (by rw [ids_len]; omega), ids_len]
          go_wp2_with fail
          go_roundg (n - (i + 1))
          case measure => omega
          case rel => exact ⟨i + 1, q, by omega, by omega, by go_num, rfl, h9.drop⟩
    · obtain rfl : i = n := by omega
      go_wp2_with fail
      refine (mux_Open 0 (by decide) h3).mono ?_
      rintro _ wA ⟨gA, rfl, hA⟩
      rw [show openB M q 0 = false by unfold openB; simp]
      go_wp2_with fail
      refine (mux_Open 65536 (by decide) hA).mono ?_
      rintro _ wB ⟨gB, rfl, hB⟩
      rw [show ∀ r, openB M r 65536 = false from fun r => by unfold openB; simp]
      go_wp2_with fail
      refine (mx_awake hB).mono ?_
      rintro _ wC ⟨rfl, hC⟩
      go_wp2_with fail
      go_ret
      exact ⟨rfl, hC.below⟩
end
end Go.Proofs.Ytkejadhkebjdcaa
