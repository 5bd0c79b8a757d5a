/- One stream out of a mux, and back; both muxes as models; ints; like. -/
import Derived.BigQuiet
import Derived.Deep.RegionHeld3
import Derived.Test.YtkejadhkebjdcaaMxK
import Derived.Test.YtkejadhkebjdcaaRmc
namespace Go.Proofs.Ytkejadhkebjdcaa
open Go Go.RowKit Go.Maps
set_option linter.unusedVariables false
set_option linter.unusedSimpArgs false

/-! ### Models alone -/
theorem split_at {α : Type} {l : List α} {i : Nat} {e : α} (he : l[i]? = some e) : l = l.take i ++ e :: l.drop (i + 1) := by
  obtain ⟨hk, rfl⟩ := List.getElem?_eq_some_iff.1 he
  rw [List.getElem_cons_drop, List.take_append_drop]
theorem set_at {α : Type} {l : List α} {i : Nat} {e x : α} (he : l[i]? = some e) : l.set i x = l.take i ++ x :: l.drop (i + 1) := by
  obtain ⟨hk, rfl⟩ := List.getElem?_eq_some_iff.1 he
  rw [List.set_eq_take_append_cons_drop, if_pos hk]
theorem getM_ix {l : List (Nat × StM)} {id : Int} {e : Nat × StM} (h : getM l id = some e) : e.2.id = id ∧ ∃ i : Nat, l[i]? = some e := by
  unfold getM at h
  have h1 := List.find?_some h
  obtain ⟨i, hi, h2⟩ := List.getElem_of_mem (List.mem_of_find?_eq_some h)
  exact ⟨by simpa using h1, i, by rw [List.getElem?_eq_getElem hi, h2]⟩
section
variable {l r : List (Nat × StM)}
theorem eq_len (h : r.map (·.2) = l.map (·.2)) : r.length = l.length := by
  have := congrArg List.length h
  simpa using this
theorem eq_ids (h : r.map (·.2) = l.map (·.2)) : r.map (·.2.id) = l.map (·.2.id) := by
  have := congrArg (List.map StM.id) h
  rwa [List.map_map, List.map_map] at this
theorem eq_at (h : r.map (·.2) = l.map (·.2)) {i : Nat} {e : Nat × StM} (he : l[i]? = some e) : ∃ d : Nat, r[i]? = some (d, e.2) := by
  have h1 := congrArg (fun l => l[i]?) h
  simp only [List.getElem?_map, he, Option.map_some] at h1
  cases hr : r[i]? with
  | none => rw [hr] at h1; cases h1
  | some x =>
    rw [hr] at h1
    have h1 := Option.some.inj h1
    exact ⟨x.1, by rw [← h1]⟩
theorem eq_isSome (h : r.map (·.2) = l.map (·.2)) (id : Int) : (getM r id).isSome = (getM l id).isSome := by
  have key : ∀ q : List (Nat × StM), (getM q id).isSome = (q.map (·.2)).any (fun s => s.id == id) := by
    intro q
    induction q with
    | nil => rfl
    | cons a q ih =>
      unfold getM at ih ⊢
      rw [List.find?_cons, List.map_cons, List.any_cons, ← ih]
      cases h : (a.2.id == id) <;> simp [h]
  rw [key, key, h]
theorem eq_open (h : r.map (·.2) = l.map (·.2)) (mo id : Int) : openB mo r id = openB mo l id := by
  unfold openB
  have h2 := eq_isSome h id
  have h3 : (getM r id).isNone = (getM l id).isNone := by
    rw [← Option.not_isSome, ← Option.not_isSome, h2]
  rw [eq_len h, h3]
theorem eq_add {x y : Nat × StM} (hxy : x.2 = y.2) : ∀ {l r : List (Nat × StM)}, r.map (·.2) = l.map (·.2) → (addM y r).map (·.2) = (addM x l).map (·.2)
  | [], [], _ => by simp [addM, hxy]
  | [], b :: r, h => by simp at h
  | a :: l, [], h => by simp at h
  | a :: l, b :: r, h => by
    simp only [List.map_cons, List.cons.injEq] at h
    have ih := eq_add hxy h.2
    unfold addM
    rw [h.1, hxy]
    split
    · simp [hxy, h.1, h.2]
    · simp [h.1, ih]
theorem eq_openM (h : r.map (·.2) = l.map (·.2)) (cr mo id : Int) (g g' : Nat) : (openM cr mo r id g').map (·.2) = (openM cr mo l id g).map (·.2) := by
  unfold openM
  rw [eq_open h]
  split
  · exact eq_add (x := (g, StM.new id cr)) (y := (g', StM.new id cr)) rfl h
  · exact h
theorem eq_filter (p : StM → Bool) (h : r.map (·.2) = l.map (·.2)) : (r.filter (fun e => p e.2)).map (·.2) = (l.filter (fun e => p e.2)).map (·.2) := by
  have key : ∀ q : List (Nat × StM), (q.filter (fun e => p e.2)).map (·.2) = (q.map (·.2)).filter p := by
    intro q
    rw [List.filter_map]
    rfl
  rw [key, key, h]
theorem eq_drop (h : r.map (·.2) = l.map (·.2)) (id : Int) : (dropM r id).map (·.2) = (dropM l id).map (·.2) := eq_filter (fun s => s.id != id) h
theorem eq_sweep (h : r.map (·.2) = l.map (·.2)) : (sweepM r).map (·.2) = (sweepM l).map (·.2) := eq_filter (fun s => !s.done) h
theorem eq_gone (h : r.map (·.2) = l.map (·.2)) : goneL r = goneL l := by
  have h1 := congrArg (List.map StM.id) (eq_filter (fun s => s.done) h)
  rw [List.map_map, List.map_map] at h1
  exact h1
theorem nextM_all (l : List (Nat × StM)) : (nextM l l.length).map (·.2) = (l.map (·.2)).map StM.next := by
  unfold nextM
  rw [List.take_length, List.drop_length, List.append_nil, List.map_map, List.map_map]
  rfl
theorem eq_next (h : r.map (·.2) = l.map (·.2)) : (nextM r r.length).map (·.2) = (nextM l l.length).map (·.2) := by rw [nextM_all, nextM_all, h]
theorem eq_nexts (h : r.map (·.2) = l.map (·.2)) : nextsL r = nextsL l := by
  have key : ∀ q : List (Nat × StM), nextsL q = (q.map (·.2)).flatMap StM.nextL := by
    intro q
    unfold nextsL
    rw [List.flatMap_map]
  rw [key, key, h]
theorem eq_set (h : r.map (·.2) = l.map (·.2)) (i g d : Nat) (s : StM) : (r.set i (d, s)).map (·.2) = (l.set i (g, s)).map (·.2) := by
  rw [List.map_set, List.map_set, h]
end
section
variable {w0 w : World} {L : List Assn}
/-- One stream out of a mux, and back. -/
theorem MxA.foc {m : Nat} {cr mo : Int} {l : List (Nat × StM)} {i : Nat} {e : Nat × StM} (he : l[i]? = some e) (h : Sat w0 w (MxA m cr mo l :: L)) :
    ∃ F : List Assn, Sat w0 w (StA e.1 e.2 :: (F ++ L)) ∧ ∀ (w' : World) (s : StM) (L' : List Assn), s.id = e.2.id → Sat w0 w' (StA e.1 s :: (F ++ L')) → Sat w0 w' (MxA m cr mo (l.set i (e.1, s)) :: L') := by
  have hsp := split_at he
  have hst : ∀ x : Nat × StM, x = e ∨ True → ∀ s : StM, stP (l.take i ++ (e.1, s) :: l.drop (i + 1)) = stP (l.take i) ++ StA e.1 s :: stP (l.drop (i + 1)) := fun _ _ s => by unfold stP; rw [List.map_append, List.map_cons]
  obtain ⟨b, hok, h1⟩ := MxA.opn h
  have hidl : ∀ s : StM, s.id = e.2.id → (l.set i (e.1, s)).map (·.2.id) = l.map (·.2.id) := fun s hs => by
    rw [set_at he]
    conv => rhs; rw [hsp]
    rw [List.map_append, List.map_append, List.map_cons, List.map_cons, hs]
  have hen : ∀ s : StM, s.id = e.2.id → ent (l.set i (e.1, s)) = ent l := fun s hs => by
    rw [set_at he]
    conv => rhs; rw [hsp]
    unfold ent
    rw [List.map_append, List.map_append, List.map_cons, List.map_cons, hs]
  refine ⟨MapP b l.length (mapD (ent l)) :: Blk m (.cells #[.int .i64 cr, .int .i64 mo, .map (some b)] 71 (0, 0)) :: (stP (l.take i) ++ stP (l.drop (i + 1))), ?_, fun w' s L' hs h2 => ?_⟩
  · have h3 : stP l = stP (l.take i) ++ StA e.1 e.2 :: stP (l.drop (i + 1)) := by
      conv => lhs; rw [hsp]
      exact hst e (.inl rfl) e.2
    rw [h3] at h1
    have h4 := Sat.front (Blk m (.cells #[.int .i64 cr, .int .i64 mo, .map (some b)] 71 (0, 0)) :: MapP b l.length (mapD (ent l)) :: stP (l.take i)) (L2 := stP (l.drop (i + 1)) ++ L) (by simpa only [List.cons_append, List.append_assoc, List.nil_append] using h1)
    have h5 : Sat w0 w (StA e.1 e.2 :: MapP b l.length (mapD (ent l)) :: Blk m (.cells #[.int .i64 cr, .int .i64 mo, .map (some b)] 71 (0, 0)) :: (stP (l.take i) ++ (stP (l.drop (i + 1)) ++ L))) := Sat.re [0, 2, 1] [_, _, _] h4
    simpa only [List.cons_append, List.append_assoc, List.nil_append] using h5
  · have hok2 : OkM cr mo (l.set i (e.1, s)) := ⟨hok.cr1, hok.cr2, hok.mo1, hok.mo2, by rw [List.length_set]; exact hok.len, by rw [hidl s hs]; exact hok.rise⟩
    refine MxA.shut hok2 (b := b) (n := l.length) ?_
    rw [hen s hs, set_at he, hst e (.inl rfl) s]
    have h3 : Sat w0 w' (StA e.1 s :: (MapP b l.length (mapD (ent l)) :: Blk m (.cells #[.int .i64 cr, .int .i64 mo, .map (some b)] 71 (0, 0)) :: (stP (l.take i) ++ (stP (l.drop (i + 1)) ++ L')))) := by simpa only [List.cons_append, List.append_assoc, List.nil_append] using h2
    have h4 := Sat.back (MapP b l.length (mapD (ent l)) :: Blk m (.cells #[.int .i64 cr, .int .i64 mo, .map (some b)] 71 (0, 0)) :: stP (l.take i)) (L2 := stP (l.drop (i + 1)) ++ L') (by simpa only [List.cons_append, List.append_assoc, List.nil_append] using h3)
    simpa only [List.cons_append, List.append_assoc, List.nil_append] using h4
/-- The same of the document's mux. -/
theorem RMx.foc {g : Nat} {cr mo : Int} {l : List (Nat × StM)} {i : Nat} {e : Nat × StM} (he : l[i]? = some e) (h : Sat w0 w (RMx g cr mo l :: L)) :
    ∃ F : List Assn, Sat w0 w (RSt e.1 e.2 :: (F ++ L)) ∧ ∀ (w' : World) (s : StM) (L' : List Assn), Sat w0 w' (RSt e.1 s :: (F ++ L')) → Sat w0 w' (RMx g cr mo (l.set i (e.1, s)) :: L') := by
  have hsp := split_at he
  obtain ⟨a, c, _, _, h1⟩ := RMx.opn h
  have hst : ∀ s : StM, rsP (l.take i ++ (e.1, s) :: l.drop (i + 1)) = rsP (l.take i) ++ RSt e.1 s :: rsP (l.drop (i + 1)) := fun s => by unfold rsP; rw [List.map_append, List.map_cons]
  have hpt : ∀ s : StM, ptrC (l.set i (e.1, s)) = ptrC l := fun s => by
    rw [set_at he]
    conv => rhs; rw [hsp]
    unfold ptrC
    rw [List.map_append, List.map_append, List.map_cons, List.map_cons]
  refine ⟨Blk g (.cells #[.int .i64 cr, .int .i64 mo, .slice a l.length c] 86 (0, 0)) :: OwnS 56 1 (.slice a l.length c) l.length (ptrC l) :: (rsP (l.take i) ++ rsP (l.drop (i + 1))), ?_, fun w' s L' h2 => ?_⟩
  · have h3 : rsP l = rsP (l.take i) ++ RSt e.1 e.2 :: rsP (l.drop (i + 1)) := by
      conv => lhs; rw [hsp]
      exact hst e.2
    rw [h3] at h1
    have h4 := Sat.front (Blk g (.cells #[.int .i64 cr, .int .i64 mo, .slice a l.length c] 86 (0, 0)) :: OwnS 56 1 (.slice a l.length c) l.length (ptrC l) :: rsP (l.take i)) (L2 := rsP (l.drop (i + 1)) ++ L) (by simpa only [List.cons_append, List.append_assoc, List.nil_append] using h1)
    simpa only [List.cons_append, List.append_assoc, List.nil_append] using h4
  · refine RMx.shut (v := .slice a l.length c) ?_
    rw [hpt, List.length_set, set_at he, hst s]
    have h4 := Sat.back (Blk g (.cells #[.int .i64 cr, .int .i64 mo, .slice a l.length c] 86 (0, 0)) :: OwnS 56 1 (.slice a l.length c) l.length (ptrC l) :: rsP (l.take i)) (L2 := rsP (l.drop (i + 1)) ++ L') (by simpa only [List.cons_append, List.append_assoc, List.nil_append] using h2)
    simpa only [List.cons_append, List.append_assoc, List.nil_append] using h4
theorem mux_Next {m : Nat} {cr mo : Int} {l : List (Nat × StM)} (hs : Sat w0 w (MxA m cr mo l :: L)) :
    Calls Try.prog 16 #[.pointer (some ⟨m, 0, none⟩)] w fun e w' => ∃ v, e = .returned v ∧ Sat w0 w' (FramesA v (nextsL l) :: MxA m cr mo (nextM l l.length) :: L) := callsIn_wide.1 (next_in 10 (by omega) hs)
theorem mux_Sweep {m : Nat} {cr mo : Int} {l : List (Nat × StM)} (hs : Sat w0 w (MxA m cr mo l :: L)) :
    Calls Try.prog 17 #[.pointer (some ⟨m, 0, none⟩)] w fun e w' => ∃ a c, e = .returned (.slice a (goneL l).length c) ∧ Sat w0 w' (OwnS 3 1 (.slice a (goneL l).length c) (goneL l).length ((goneL l).map encZ) :: MxA m cr mo (sweepM l) :: L) := callsIn_wide.1 (sweep_in 10 (by omega) hs)
set_option maxRecDepth 100000 in
theorem law_ints {a b : Option Addr} {n c d : Nat} {l : List Int} (hl : l.length = n) (hn : n ≤ 1000) (hs : Sat w0 w (OwnS 3 1 (.slice a n c) n (l.map encZ) :: OwnS 3 1 (.slice b n d) n (l.map encZ) :: L)) :
    Calls Try.prog 31 #[.slice a n c, .slice b n d] w fun e w' => e = .returned (.bool true) ∧ Sat w0 w' (OwnS 3 1 (.slice a n c) n (l.map encZ) :: OwnS 3 1 (.slice b n d) n (l.map encZ) :: L) := by
  have HL := hid_ hl
  clear hl
  go_enter Try.func31, Try.ntmps31
  go_wp2_with fail
  go_loopg [13] n (fun gg v13 wr => ∃ i : Nat, i ≤ n ∧ n - i ≤ gg ∧ v13 = .int .i64 i ∧ Sat w0 wr (OwnS 3 1 (.slice a n c) n (l.map encZ) :: OwnS 3 1 (.slice b n d) n (l.map encZ) :: L))
  case atStart => exact ⟨0, by omega, by omega, rfl, hs⟩
  case round =>
    obtain ⟨i, hi, hgg, rfl, h⟩ := hrel
    clear hs
    by_cases hlt : i < n
    · obtain ⟨x, hx⟩ : ∃ x, l[i]? = some x := ⟨_, List.getElem?_eq_getElem (by rw [HL.out]; exact hlt)⟩
      have hx2 : (l.map encZ)[i]? = some (.int .i64 x) := by rw [List.getElem?_map, hx]; rfl
      obtain ⟨b1, o1, k1, e1, _, _, hc1, _⟩ := OwnS.cells h (by omega)
      obtain ⟨b2, o2, k2, e2, _, _, hc2, _⟩ := OwnS.cells h.swap (by omega)
      injection e1 with e1 z1 z2
      injection e2 with e2 z3 z4
      subst e1 z2 e2 z4
      have c1 := hc1 i _ hx2
      have c2 := hc2 i _ hx2
      have z5 : (i : Int) < (n : Int) := by omega
      clear z1 z3 hc1 hc2 hx hx2
      go_wp2_with fail
      go_quiet (fail)
      go_wp2_with fail
      go_roundg (n - (i + 1))
      case measure => omega
      case rel => exact ⟨i + 1, by omega, by omega, by go_num, h.drewN _⟩
    · obtain rfl : i = n := by omega
      go_wp2_with fail
      go_ret
      exact ⟨rfl, h⟩
end
end Go.Proofs.Ytkejadhkebjdcaa
