/- Many streams: the mux as a piece of the heap; New, Get, Len, Drop, Open walked. -/
import Derived.Test.YtkejadhkebjdcaaMxP
import Derived.Deep.RegionHeld3
namespace Go.Proofs.Ytkejadhkebjdcaa
open Go Go.RowKit Go.Maps
set_option linter.unusedVariables false
set_option linter.unusedSimpArgs false

/-- The entries of a map of streams. -/
def ent (l : List (Nat × StM)) : List (Int × Nat) := l.map fun e => (e.2.id, e.1)
def getM (l : List (Nat × StM)) (id : Int) : Option (Nat × StM) := l.find? fun e => e.2.id == id
def addM (x : Nat × StM) : List (Nat × StM) → List (Nat × StM)
  | [] => [x]
  | y :: r => if x.2.id < y.2.id then x :: y :: r else y :: addM x r
def dropM (l : List (Nat × StM)) (id : Int) : List (Nat × StM) := l.filter fun e => e.2.id != id
theorem ent_add (x : Nat × StM) : ∀ l, ent (addM x l) = insM (x.2.id, x.1) (ent l)
  | [] => rfl
  | y :: r => by
    unfold addM
    simp only [ent, List.map_cons, insM]
    by_cases h : x.2.id < y.2.id
    · rw [if_pos h, if_pos h]; rfl
    · rw [if_neg h, if_neg h]
      have := ent_add x r
      simp only [ent] at this
      rw [List.map_cons, this]
theorem ent_drop (l : List (Nat × StM)) (id : Int) : (ent l).filter (fun e => e.1 != id) = ent (dropM l id) := by
  unfold ent dropM
  rw [List.filter_map]
  rfl
theorem ent_find (l : List (Nat × StM)) (id : Int) : ((ent l).find? (fun e => e.1 == id)).map (fun e => (⟨e.2, 0, none⟩ : Addr)) = (getM l id).map fun e => ⟨e.1, 0, none⟩ := by
  unfold ent getM
  rw [List.find?_map, Option.map_map]
  rfl
theorem ent_len (l : List (Nat × StM)) : (ent l).length = l.length := by simp [ent]
theorem drop_none {l : List (Nat × StM)} {id : Int} (h : getM l id = none) : dropM l id = l := by
  unfold dropM
  rw [List.filter_eq_self]
  intro e he
  have := List.find?_eq_none.1 h e he
  simpa [bne] using this
theorem add_perm (x : Nat × StM) : ∀ l, (addM x l).Perm (x :: l)
  | [] => List.Perm.refl _
  | y :: r => by
    unfold addM
    split
    · exact List.Perm.refl _
    · exact ((add_perm x r).cons y).trans (List.Perm.swap x y r)

structure OkM (cr mo : Int) (l : List (Nat × StM)) : Prop where
  cr1 : 1 ≤ cr
  cr2 : cr ≤ 65536
  mo1 : 1 ≤ mo
  mo2 : mo ≤ 64
  len : (l.length : Int) ≤ mo
  rise : (l.map (·.2.id)).Pairwise (· < ·)
theorem rise_add {x : Nat × StM} : ∀ {l : List (Nat × StM)}, (l.map (·.2.id)).Pairwise (· < ·) → getM l x.2.id = none → ((addM x l).map (·.2.id)).Pairwise (· < ·)
  | [], _, _ => by simp [addM]
  | y :: r, h, hn => by
    unfold getM at hn
    rw [List.find?_cons] at hn
    have hy : (y.2.id == x.2.id) = false := by
      cases hh : (y.2.id == x.2.id)
      · rfl
      · rw [hh] at hn; simp at hn
    rw [hy] at hn
    simp only [List.map_cons, List.pairwise_cons] at h
    unfold addM
    split
    · rename_i hlt
      simp only [List.map_cons, List.pairwise_cons]
      refine ⟨?_, h⟩
      intro z hz
      rcases List.mem_cons.1 hz with rfl | hz
      · exact hlt
      · exact Int.lt_trans hlt (h.1 z hz)
    · rename_i hge
      simp only [List.map_cons, List.pairwise_cons]
      refine ⟨?_, rise_add h.2 hn⟩
      intro z hz
      have hz' := ((add_perm x r).map (·.2.id)).mem_iff.1 hz
      simp only [List.map_cons, List.mem_cons] at hz'
      rcases hz' with rfl | hz'
      · have : y.2.id ≠ x.2.id := by simpa using hy
        omega
      · exact h.1 z hz'
theorem rise_drop {l : List (Nat × StM)} (id : Int) (h : (l.map (·.2.id)).Pairwise (· < ·)) : ((dropM l id).map (·.2.id)).Pairwise (· < ·) := by
  rw [List.pairwise_map] at h ⊢
  exact h.filter _
theorem drop_len (l : List (Nat × StM)) (id : Int) : (dropM l id).length ≤ l.length := List.length_filter_le _ _

def stP (l : List (Nat × StM)) : List Assn := l.map fun e => StA e.1 e.2
def MxA (m : Nat) (cr mo : Int) (l : List (Nat × StM)) : Assn := fun h => ∃ b : Nat, OkM cr mo l ∧
  Star (Blk m (.cells #[.int .i64 cr, .int .i64 mo, .map (some b)] 71 (0, 0)) :: MapP b l.length (mapD (ent l)) :: stP l) h

section
variable {w0 w w' : World} {L : List Assn}
theorem MapP.tight {b n : Nat} {l : List (Int × Nat)} (h : Sat w0 w (MapP b n (mapD l) :: L)) : Sat w0 w (MapP b l.length (mapD l) :: L) :=
  h.imp fun _ ⟨es, clock, hb, F, hs, hD⟩ => ⟨es, clock, hb, F, by
    have h1 := congrArg Maps.size hD
    rw [mapD_size, Maps.size_eq, length_read] at h1
    omega, hD⟩
theorem MxA.opn {m : Nat} {cr mo : Int} {l : List (Nat × StM)} (h : Sat w0 w (MxA m cr mo l :: L)) : ∃ b, OkM cr mo l ∧
    Sat w0 w (Blk m (.cells #[.int .i64 cr, .int .i64 mo, .map (some b)] 71 (0, 0)) :: MapP b l.length (mapD (ent l)) :: (stP l ++ L)) := by
  obtain ⟨b, h1⟩ := Sat.ex h
  obtain ⟨h2, h3⟩ := Sat.pure (p := OkM cr mo l) (A := Star _) h1
  exact ⟨b, h2, Sat.unstar h3⟩
theorem MxA.shut {m b n : Nat} {cr mo : Int} {l : List (Nat × StM)} (hok : OkM cr mo l)
    (h : Sat w0 w (MapP b n (mapD (ent l)) :: Blk m (.cells #[.int .i64 cr, .int .i64 mo, .map (some b)] 71 (0, 0)) :: (stP l ++ L))) : Sat w0 w (MxA m cr mo l :: L) := by
  have h1 := (MapP.tight h).swap
  rw [ent_len] at h1
  exact (Sat.star (L1 := Blk m (.cells #[.int .i64 cr, .int .i64 mo, .map (some b)] 71 (0, 0)) :: MapP b l.length (mapD (ent l)) :: stP l) h1).imp (fun _ hh => ⟨b, hok, hh⟩)
theorem MxA.ok {m : Nat} {cr mo : Int} {l : List (Nat × StM)} (h : Sat w0 w (MxA m cr mo l :: L)) : OkM cr mo l := by
  obtain ⟨_, h1, _⟩ := MxA.opn h
  exact h1
set_option maxRecDepth 100000 in
set_option maxHeartbeats 1000000 in
theorem mux_New (cr mo : Int) (hs : Sat w0 w L) :
    Calls Try.prog 9 #[.int .i64 cr, .int .i64 mo] w fun e w' => ∃ m, e = .returned (.pointer (some ⟨m, 0, none⟩)) ∧ Sat w0 w' (MxA m (max 1 (min cr 65536)) (max 1 (min mo 64)) [] :: L) := by
  have hmk : (Instr.makeMap 69 none).run Try.prog w = .ok (.map (some w.heap.size)) (w.alloc (.map #[] 0)) := by kernel_rfl
  go_enter Try.func9, Try.ntmps9
  go_wp2_with fail
  go_ret
  refine ⟨_, rfl, MxA.shut (l := []) (b := w.heap.size) (n := 0) ⟨by omega, by omega, by omega, by omega, by simp; omega, by simp⟩ ?_⟩
  have h1 := MapP.new hs
  have h2 := (h1.alloc (.cells #[.int .i64 (max 1 (min cr 65536)), .int .i64 (max 1 (min mo 64)), .map (some w.heap.size)] 71 (0, 0))).swap
  rw [World.size_alloc] at h2
  exact h2
theorem mux_Get_nil (id : Int) : Calls Try.prog 15 #[.pointer none, .int .i64 id] w fun e w' => e = .returned (.pointer none) ∧ w = w' := by
  go_enter Try.func15, Try.ntmps15
  go_wp2_with fail
  go_ret
  exact ⟨rfl, rfl⟩
theorem mux_Len_nil : Calls Try.prog 12 #[.pointer none] w fun e w' => e = .returned (.int .i64 0) ∧ w = w' := by
  go_enter Try.func12, Try.ntmps12
  go_wp2_with fail
  go_ret
  exact ⟨rfl, rfl⟩
set_option maxRecDepth 100000 in
set_option maxHeartbeats 1000000 in
theorem mux_Get {m : Nat} {cr mo : Int} {l : List (Nat × StM)} (id : Int) (hid : (Lit.int .i64 id).wf = true) (hs : Sat w0 w (MxA m cr mo l :: L)) :
    Calls Try.prog 15 #[.pointer (some ⟨m, 0, none⟩), .int .i64 id] w fun e w' => e = .returned (.pointer ((getM l id).map fun e => ⟨e.1, 0, none⟩)) ∧ w = w' := by
  obtain ⟨b, _, h1⟩ := MxA.opn hs
  have c2 : w.cell? ⟨m, 2, none⟩ = some (.map (some b)) := h1.cell 2 rfl
  have hl := MapP.look h1.swap id hid
  rw [ent_find] at hl
  go_enter Try.func15, Try.ntmps15
  go_wp2_with fail
  go_ret
  exact ⟨rfl, rfl⟩
set_option maxRecDepth 100000 in
set_option maxHeartbeats 1000000 in
theorem mux_Len {m : Nat} {cr mo : Int} {l : List (Nat × StM)} (hs : Sat w0 w (MxA m cr mo l :: L)) :
    Calls Try.prog 12 #[.pointer (some ⟨m, 0, none⟩)] w fun e w' => e = .returned (.int .i64 l.length) ∧ w = w' := by
  obtain ⟨b, _, h1⟩ := MxA.opn hs
  have c2 : w.cell? ⟨m, 2, none⟩ = some (.map (some b)) := h1.cell 2 rfl
  have ho := MapP.owns h1.swap
  have hz : Maps.size (mapD (ent l)) = l.length := by rw [mapD_size, ent_len]
  go_enter Try.func12, Try.ntmps12
  go_wp2_with (first | (at_len; refine wpList_len_own _ rfl _ _ rfl 3 32 Try.underlying69 ptrR b l.length _ rfl ho ?_; rw [hz]) | fail)
  go_ret
  exact ⟨rfl, rfl⟩
theorem mux_Drop_nil (id : Int) : Calls Try.prog 11 #[.pointer none, .int .i64 id] w fun e w' => e = .returned (.bool false) ∧ w = w' := by
  go_enter Try.func11, Try.ntmps11
  go_wp2_with fail
  refine (mux_Get_nil id).mono ?_
  rintro _ _ ⟨rfl, rfl⟩
  go_wp2_with fail
  go_ret
  exact ⟨rfl, rfl⟩
theorem int_key {id : Int} (hid : (Lit.int .i64 id).wf = true) : keyOf Try.prog 3 (.int .i64 id) = some (.int .i64 id) := by simp [keyOf, Try.underlying3, mapKey, hid]
/-- The streams that are not dropped. -/
theorem stP_drop (M : List Assn) {l : List (Nat × StM)} (id : Int) (h : Sat w0 w (M ++ (stP l ++ L))) : Sat w0 w (M ++ (stP (dropM l id) ++ L)) := by
  have hp : (stP l).Perm (stP (l.filter fun e => !(e.2.id != id)) ++ stP (dropM l id)) := by
    unfold stP dropM
    rw [← List.map_append]
    refine List.Perm.map _ ?_
    have := List.filter_append_perm (fun e : Nat × StM => !(e.2.id != id)) l
    simp only [Bool.not_not] at this
    exact this.symm
  generalize stP (l.filter fun e => !(e.2.id != id)) = D at hp
  have h1 : Sat w0 w (D ++ (M ++ (stP (dropM l id) ++ L))) := by
    refine Sat.perm ?_ h
    refine List.Perm.trans (List.Perm.append_left M (hp.append_right L)) ?_
    rw [List.append_assoc]
    exact List.perm_append_comm_assoc M D _
  clear h hp
  induction D with
  | nil => exact h1
  | cons A D ih => exact ih (Sat.drop h1)
set_option maxRecDepth 100000 in
set_option maxHeartbeats 1000000 in
theorem mux_Drop {m : Nat} {cr mo : Int} {l : List (Nat × StM)} (id : Int) (hid : (Lit.int .i64 id).wf = true) (hs : Sat w0 w (MxA m cr mo l :: L)) :
    Calls Try.prog 11 #[.pointer (some ⟨m, 0, none⟩), .int .i64 id] w fun e w' => e = .returned (.bool (getM l id).isSome) ∧ Sat w0 w' (MxA m cr mo (dropM l id) :: L) := by
  have hg := mux_Get id hid hs
  have HS := hid_ hs
  obtain ⟨b, hok, h1⟩ := MxA.opn hs
  have HOK := hid_ hok
  have c2 : w.cell? ⟨m, 2, none⟩ = some (.map (some b)) := h1.cell 2 rfl
  have ho := MapP.owns h1.swap
  have HK := hid_ (int_key hid)
  clear hok hid hs
  cases hgm : getM l id with
  | none =>
    rw [hgm] at hg
    have HG := hid_ hgm
    clear hgm
    go_enter Try.func11, Try.ntmps11
    go_wp2_with fail
    refine hg.mono ?_
    rintro _ _ ⟨rfl, rfl⟩
    go_wp2_with fail
    go_ret
    exact ⟨rfl, by rw [drop_none HG.out]; exact HS.out⟩
  | some e =>
    rw [hgm] at hg
    clear hgm
    obtain ⟨ea, es⟩ := e
    go_enter Try.func11, Try.ntmps11
    go_wp2_with fail
    refine hg.mono ?_
    rintro _ _ ⟨rfl, rfl⟩
    go_wp2_with (first | (at_delete; refine wpList_delete_own _ rfl _ _ 69 3 rfl 32 (Maps.int_keyed Try.underlying3) Try.underlying69 ptrR b l.length _ rfl ho _ (.int .i64 id) rfl HK.out ?_; intro w1 ho1 ht1) | fail)
    go_ret
    refine ⟨rfl, ?_⟩
    rw [mapD_del, ent_drop] at ho1
    have h2 := MapP.turned h1.swap ho1 ht1
    have h3 := stP_drop [_, _] id h2
    refine MxA.shut ⟨HOK.out.cr1, HOK.out.cr2, HOK.out.mo1, HOK.out.mo2, ?_, rise_drop id HOK.out.rise⟩ h3
    have := drop_len l id
    have := HOK.out.len
    omega
theorem mux_Open_nil (id : Int) : Calls Try.prog 10 #[.pointer none, .int .i64 id] w fun e w' => e = .returned (.bool false) ∧ Below w.heap.size w w' := by
  go_enter Try.func10, Try.ntmps10
  go_wp2_with fail
  go_quiet (fail)
  go_wp2_with fail
  go_ret
  exact ⟨rfl, rfl, rfl, rfl, Nat.le_refl _, fun _ _ => rfl⟩
def openB (mo : Int) (l : List (Nat × StM)) (id : Int) : Bool := decide ((l.length : Int) < mo) && (getM l id).isNone && (decide (1 ≤ id) && decide (id ≤ 65535))
def openM (cr mo : Int) (l : List (Nat × StM)) (id : Int) (g : Nat) : List (Nat × StM) := if openB mo l id then addM (g, StM.new id cr) l else l
set_option maxRecDepth 100000 in
set_option maxHeartbeats 2000000 in
theorem mux_Open {m : Nat} {cr mo : Int} {l : List (Nat × StM)} (id : Int) (hid : (Lit.int .i64 id).wf = true) (hs : Sat w0 w (MxA m cr mo l :: L)) :
    Calls Try.prog 10 #[.pointer (some ⟨m, 0, none⟩), .int .i64 id] w fun e w' => ∃ g, e = .returned (.bool (openB mo l id)) ∧ Sat w0 w' (MxA m cr mo (openM cr mo l id g) :: L) := by
  have HS := hid_ hs
  obtain ⟨b, hok, h1⟩ := MxA.opn hs
  have HOK := hid_ hok
  have HID := hid_ hid
  have h1d := h1.drew
  have c2 : w.cell? ⟨m, 2, none⟩ = some (.map (some b)) := h1.cell 2 rfl
  have c1 : w.cell? ⟨m, 1, none⟩ = some (.int .i64 mo) := h1.cell 1 rfl
  have hl : ∀ k, (Instr.lookup 69 (.map (some b)) (.int .i64 id) false).run Try.prog (w.drewN k) = .ok (.pointer ((getM l id).map fun e => ⟨e.1, 0, none⟩)) (w.drewN k) := fun k => by
    have h := MapP.look (Sat.swap (Sat.drewN h1 k)) id hid
    rw [ent_find] at h
    exact h
  have hll : ∀ k, (Builtin.len_ #[69] 3 #[.map (some b)]).run Try.prog (w.drewN k) = .ok (.int .i64 l.length) (w.drewN k) := fun k => by
    have h := MapP.len (Sat.swap (Sat.drewN h1 k)) 3
    rw [ent_len] at h
    exact h
  clear hid hs hok
  by_cases hlen : (l.length : Int) < mo
  case neg =>
    have q : decide (mo ≤ (l.length : Int)) = true := by simp; omega
    have hB := hid_ (show openB mo l id = false by unfold openB; simp [hlen])
    clear hlen
    go_enter Try.func10, Try.ntmps10
    go_wp2_with fail
    go_quiet (fail)
    go_wp2_with fail
    go_ret
    refine ⟨0, by rw [hB.out]; rfl, ?_⟩
    unfold openM
    rw [hB.out]
    exact Sat.drewN HS.out nq
  have q : decide (mo ≤ (l.length : Int)) = false := by simp; omega
  have HL := hid_ hlen
  clear hlen
  cases hgm : getM l id with
  | some e =>
    obtain ⟨ea, es⟩ := e
    rw [hgm] at hl
    have hB := hid_ (show openB mo l id = false by unfold openB; simp [hgm])
    clear hgm
    go_enter Try.func10, Try.ntmps10
    go_wp2_with fail
    go_quiet (fail)
    go_wp2_with fail
    go_ret
    refine ⟨0, by rw [hB.out]; rfl, ?_⟩
    unfold openM
    rw [hB.out]
    exact Sat.drewN HS.out nq
  | none =>
    rw [hgm] at hl
    have HG := hid_ hgm
    clear hgm
    by_cases hr : 1 ≤ id ∧ id ≤ 65535
    case neg =>
      have hB := hid_ (show openB mo l id = false by unfold openB; simp; intro _ _ h; omega)
      have hN := fun W : World => stream_New_no (w := W) id cr (by omega)
      have c0 : w.cell? ⟨m, 0, none⟩ = some (.int .i64 cr) := h1.cell 0 rfl
      clear hr
      go_enter Try.func10, Try.ntmps10
      go_wp2_with fail
      go_quiet (fail)
      go_wp2_with fail
      refine (hN _).mono ?_
      rintro _ w2 ⟨rfl, rfl⟩
      go_wp2_with fail
      go_ret
      refine ⟨0, by rw [hB.out]; rfl, ?_⟩
      unfold openM
      rw [hB.out]
      exact Sat.drewN HS.out nq
    have HR := hid_ hr
    have hB := hid_ (show openB mo l id = true by have := HL.out; unfold openB; rw [HG.out]; simp; omega)
    have c0 : w.cell? ⟨m, 0, none⟩ = some (.int .i64 cr) := h1.cell 0 rfl
    clear hr
    go_enter Try.func10, Try.ntmps10
    go_wp2_with fail
    go_quiet (fail)
    go_wp2_with fail
    refine (stream_New id cr HR.out.1 HR.out.2 HOK.out.cr1 HOK.out.cr2 (Sat.drewN h1 nq)).mono ?_
    rintro _ w2 ⟨g, rfl, h2⟩
    have h3 : Sat w0 w2 (MapP b l.length (mapD (ent l)) :: Blk m (.cells #[.int .i64 cr, .int .i64 mo, .map (some b)] 71 (0, 0)) :: StA g (StM.new id cr) :: (stP l ++ L)) := Sat.re [2, 1, 0] [_, _, _] h2
    have c2' : w2.cell? ⟨m, 2, none⟩ = some (.map (some b)) := h3.swap.cell 2 rfl
    obtain ⟨w3, hput, h4⟩ := MapP.put h3 (by have := HOK.out.len; have := HOK.out.mo2; simp only [maxLen]; omega) id HID.out g
    clear c0 c1 c2
    go_wp2_with fail
    go_ret
    refine ⟨g, by rw [hB.out]; rfl, ?_⟩
    unfold openM
    rw [if_pos hB.out]
    rw [ent_drop, drop_none HG.out] at h4
    have h5 : Sat w0 w3 (MapP b (l.length + 1) (mapD (ent (addM (g, StM.new id cr) l))) :: Blk m (.cells #[.int .i64 cr, .int .i64 mo, .map (some b)] 71 (0, 0)) :: (stP (addM (g, StM.new id cr) l) ++ L)) := by
      rw [ent_add]
      refine Sat.perm ?_ h4
      refine List.Perm.cons _ (List.Perm.cons _ ?_)
      have hp := ((add_perm (g, StM.new id cr) l).map (fun e : Nat × StM => StA e.1 e.2)).symm.append_right L
      exact hp
    refine MxA.shut ⟨HOK.out.cr1, HOK.out.cr2, HOK.out.mo1, HOK.out.mo2, ?_, rise_add HOK.out.rise HG.out⟩ h5
    have := (add_perm (g, StM.new id cr) l).length_eq
    simp only [List.length_cons] at this
    have := HL.out
    omega
end
end Go.Proofs.Ytkejadhkebjdcaa
