/- Next of a living mux: what its pieces need; the frame. -/
import Derived.Test.YtkejadhkebjdcaaFrc
import Derived.Test.YtkejadhkebjdcaaTrm
import Derived.Test.YtkejadhkebjdcaaMxS
import Derived.Test.YtkejadhkebjdcaaRnd
import Derived.Test.YtkejadhkebjdcaaApa
namespace Go.Proofs.Ytkejadhkebjdcaa
open Go Go.RowKit Go.Maps Go.Sort Go.Shelf
set_option linter.unusedVariables false
set_option linter.unusedSimpArgs false
attribute [local go_sem] Oper.semAt_some

/-- The blocks that a mux, its streams and their frames need: what lies below B, and cells of their types. -/
def pN (B : Nat) : Nat → Obj → Bool := fun b o => decide (b < B) || (match o with | .cells _ t _ => t == 78 || t == 104 || t == 5 || t == 43 || t == 71 | _ => false)
theorem pN_lt {B b : Nat} (h : b < B) (o : Obj) : pN B b o = true := by unfold pN; simp [h]
theorem pN_int {B b : Nat} (h : B ≤ b) (cs : Array Value) : pN B b (.cells cs 3 (0, 0)) = false := by unfold pN; simp [Nat.not_lt.2 h]
theorem pN_no {B b : Nat} {o : Obj} (h : B ≤ b) (ho : o.isCells = false) : pN B b o = false := by
  unfold pN
  cases o <;> simp_all [Nat.not_lt.2 h, Obj.isCells]
theorem tr_u8 {B : Nat} (v : Value) (l : List UInt8) : Tr (pN B) (OwnB 5 v l) := Tr.ownS (fun b cs => by unfold pN; simp) _ _ _ _
theorem tr_sta {B : Nat} (g : Nat) (s : StM) : Tr (pN B) (StA g s) := by
  refine Tr.ex (F := fun (x : Nat × Value) h => s.ok ∧ Star _ h) fun x => Tr.pure (Tr.star fun A hA => ?_)
  simp only [List.mem_cons, List.not_mem_nil, or_false] at hA
  rcases hA with rfl | rfl | rfl
  · exact Tr.blk (by unfold pN; simp)
  · exact Tr.pure (Tr.blk (by unfold pN; simp))
  · exact tr_u8 _ _
theorem tr_fre {B : Nat} (f : FrM) (cs : List Value) : Tr (pN B) (FrE f cs) := by
  refine Tr.ex (F := fun (x : Value × Value) h => cs = frC f x.1 x.2 ∧ Star _ h) fun x => Tr.pure (Tr.star fun A hA => ?_)
  simp only [List.mem_cons, List.not_mem_nil, or_false] at hA
  rcases hA with rfl | rfl
  · exact tr_u8 _ _
  · exact tr_u8 _ _
theorem tr_frames {B : Nat} (v : Value) (l : List FrM) : Tr (pN B) (FramesA v l) := Tr.ownL (fun b cs => by unfold pN; simp) (fun f cs => tr_fre f cs) v l
theorem tr_map {B b n : Nat} (h : b < B) (D : DataW Unit) : Tr (pN B) (MapP b n D) := fun hp ⟨es, clock, hb, hr⟩ => ⟨es, clock, keepP_of hb (pN_lt h _), hr⟩
theorem tr_blk {B b : Nat} (h : b < B) (o : Obj) : Tr (pN B) (Blk b o) := Tr.blk (pN_lt h o)
theorem tr_stp {B : Nat} (l : List (Nat × StM)) : ∀ A ∈ stP l, Tr (pN B) A := by
  intro A hA
  obtain ⟨e, _, rfl⟩ := List.mem_map.1 hA
  exact tr_sta _ _
theorem tr_rest {B n : Nat} {w : World} {h : Hp} (hB : w.heap.size ≤ B) : Tr (pN B) (Rest n w h) := fun r hr b h1 h2 h3 => by
  have h4 := hr b h1 h2 h3
  rw [Array.getElem?_eq_getElem h2] at h4 ⊢
  exact keepP_of h4 (pN_lt (by omega) _)
/-- Streams, the first k of them asked for what is to be sent. -/
def nextM (l : List (Nat × StM)) (k : Nat) : List (Nat × StM) := (l.take k).map (fun e => (e.1, e.2.next)) ++ l.drop k
def nextsL (l : List (Nat × StM)) : List FrM := l.flatMap fun e => e.2.nextL
theorem next_id (s : StM) : s.next.id = s.id := by first | rfl | (unfold StM.next; split <;> rfl)
theorem ent_next (l : List (Nat × StM)) (k : Nat) : ent (nextM l k) = ent l := by
  unfold ent nextM
  rw [List.map_append, List.map_map]
  have : ((fun e : Nat × StM => (e.2.id, e.1)) ∘ fun e : Nat × StM => (e.1, e.2.next)) = fun e : Nat × StM => (e.2.id, e.1) := by
    funext e
    simp [next_id]
  rw [this, ← List.map_append, List.take_append_drop]
theorem ids_next (l : List (Nat × StM)) (k : Nat) : (nextM l k).map (·.2.id) = l.map (·.2.id) := by
  have h := congrArg (List.map Prod.fst) (ent_next l k)
  unfold ent at h
  rw [List.map_map, List.map_map] at h
  exact h
theorem len_next (l : List (Nat × StM)) (k : Nat) : (nextM l k).length = l.length := by
  have h := congrArg List.length (ids_next l k)
  simpa using h
theorem ok_next {cr mo : Int} {l : List (Nat × StM)} (h : OkM cr mo l) (k : Nat) : OkM cr mo (nextM l k) :=
  ⟨h.cr1, h.cr2, h.mo1, h.mo2, by rw [len_next]; exact h.len, by rw [ids_next]; exact h.rise⟩
theorem pN_or {B b : Nat} {o : Obj} (h : pN B b o = true) : o.isCells = true ∨ b < B := by
  unfold pN at h
  rw [Bool.or_eq_true, decide_eq_true_eq] at h
  rcases h with h | h
  · exact .inr h
  · cases o <;> first | exact .inl rfl | simp at h
/-- Blocks of ints from B on stay. -/
def KpI (B : Nat) (X Z : World) : Prop := ∀ (k : Nat) (cs : Array Value), B ≤ k → X.heap[k]? = some (.cells cs 3 (0, 0)) → Z.heap[k]? = some (.cells cs 3 (0, 0))
def SafeI (B : Nat) (X : World) (k : Nat) : Prop := B ≤ k ∧ ∃ cs : Array Value, X.heap[k]? = some (.cells cs 3 (0, 0))
theorem KpI.safe {B : Nat} (W W' : World) (k : Nat) (h : KpI B W W') (hs : SafeI B W k) : W'.heap[k]? = W.heap[k]? ∧ SafeI B W' k := by
  obtain ⟨hB, cs, hc⟩ := hs
  exact ⟨(h k cs hB hc).trans hc.symm, hB, cs, h k cs hB hc⟩
theorem next_cut {l : List (Nat × StM)} {k : Nat} {e : Nat × StM} (he : l[k]? = some e) : nextM l k = (l.take k).map (fun e => (e.1, e.2.next)) ++ e :: l.drop (k + 1) ∧ nextM l (k + 1) = (l.take k).map (fun e => (e.1, e.2.next)) ++ (e.1, e.2.next) :: l.drop (k + 1) := by
  obtain ⟨hk, rfl⟩ := List.getElem?_eq_some_iff.1 he
  unfold nextM
  constructor
  · rw [List.getElem_cons_drop]
  · rw [List.take_add_one, he, Option.toList_some, List.map_append, List.append_assoc]
    rfl
theorem nextL_le {s : StM} (h : s.ok) : s.nextL.length ≤ 67 := by
  unfold StM.nextL
  split
  · simp
  · rw [List.length_append, List.length_map, chunk_le, List.length_take]
    have := h.2.2.2.2
    split <;> simp <;> omega
theorem nextsL_le : ∀ {l : List (Nat × StM)}, (∀ e ∈ l, e.2.ok) → (nextsL l).length ≤ 67 * l.length
  | [], _ => by simp [nextsL]
  | e :: l, h => by
    have h1 := nextsL_le (l := l) (fun x hx => h x (List.mem_cons_of_mem _ hx))
    have h2 := nextL_le (h e (List.mem_cons_self ..))
    unfold nextsL at h1 ⊢
    rw [List.flatMap_cons, List.length_append, List.length_cons]
    omega
theorem nextsL_on {l : List (Nat × StM)} {k : Nat} {e : Nat × StM} (he : l[k]? = some e) : nextsL (l.take (k + 1)) = nextsL (l.take k) ++ e.2.nextL := by
  unfold nextsL
  rw [List.take_add_one, he, Option.toList_some, List.flatMap_append]
  simp
section
variable {w0 w w' : World} {L : List Assn}
theorem oks_of : ∀ {l : List (Nat × StM)} {L : List Assn}, Sat w0 w (stP l ++ L) → ∀ e ∈ l, e.2.ok
  | [], _, _, _, h => by cases h
  | a :: l, L, hs, e, h => by
    rcases List.mem_cons.1 h with rfl | h
    · exact StA.ok hs
    · exact oks_of (l := l) (L := L) (Sat.drop (A := StA a.1 a.2) hs) e h
set_option maxRecDepth 100000 in
set_option maxHeartbeats 4000000 in
theorem next_in (n : Nat) (hn : 10 ≤ n) {m : Nat} {cr mo : Int} {l : List (Nat × StM)} (hs0 : Sat w0 w (MxA m cr mo l :: L)) :
    CallsIn Fence.wide n Try.prog 16 #[.pointer (some ⟨m, 0, none⟩)] w fun e w' => ∃ v, e = .returned v ∧ Sat w0 w' (FramesA v (nextsL l) :: MxA m cr mo (nextM l l.length) :: L) := by
  have h1 : 1 ≤ n := by omega
  obtain ⟨h0, hs, hback⟩ := Sat.lift hs0
  obtain ⟨b, hok, hp⟩ := MxA.opn hs
  have hl64 : l.length ≤ 64 := by have := hok.len; have := hok.mo2; omega
  have hm := hp.lt
  have hcm : w.cell? ⟨m, 2, none⟩ = some (.map (some b)) := hp.cell 2 rfl
  have ho := MapP.owns hp.swap
  have hbl := ho.lt
  refine callsIn_of_wp_marks Try.func16 rfl trivial ?_ rfl
  simp only [Try.ntmps16, List.size_toArray, List.length_cons, List.length_nil, Nat.reduceAdd, Nat.reduceSub, Array.replicate_succ, Array.replicate_zero, List.push_toArray, List.append_toArray, List.nil_append, List.cons_append]
  gi_wp2
  refine ⟨trivial, (mux_Ids_in (n - 1) _ _).mono ?_⟩
  rintro _ w1 ⟨rfl, hw1⟩
  have s2 := ((Sat.refl w).alloc2 (.cells #[.pointer (some ⟨m, 0, none⟩)] 24 (0, 0)) (.cells #[.slice none 0 0] 34 (0, 0))).alloc (.cells #[.pointer (some ⟨m, 0, none⟩)] 24 (0, 0))
  rw [← hw1] at s2
  clear hw1
  simp only [World.size_alloc, Nat.add_assoc, Nat.reduceAdd] at s2 ⊢
  have hBw : Below w.heap.size w w1 := s2.below
  have hbm := s2.blk.1
  have hbo := s2.drop.blk.1
  have hbn := s2.drop.drop.blk.1
  have hlt := s2.lt
  have hp2 : Sat w0 w (stP l ++ [Blk m (.cells #[.int .i64 cr, .int .i64 mo, .map (some b)] 71 (0, 0)), MapP b l.length (mapD (ent l)), Rest w0.heap.size w h0]) := Sat.perm (by
    have := (List.perm_append_comm (l₁ := [Blk m (.cells #[.int .i64 cr, .int .i64 mo, .map (some b)] 71 (0, 0)), MapP b l.length (mapD (ent l))]) (l₂ := stP l)).append_right [Rest w0.heap.size w h0]
    simpa using this) hp
  have hp3 : Sat w0 w [Blk m (.cells #[.int .i64 cr, .int .i64 mo, .map (some b)] 71 (0, 0)), MapP b l.length (mapD (ent l)), Star (stP l), Rest w0.heap.size w h0] :=
    Sat.re [1, 2, 0] [_, _, _] (Sat.star hp2)
  have hS1 : Sat w0 w1 [FramesA (.slice none 0 0) [], Blk (w.heap.size + 1) (.cells #[.slice none 0 0] 34 (0, 0)), Blk w.heap.size (.cells #[.pointer (some ⟨m, 0, none⟩)] 24 (0, 0)), Blk m (.cells #[.int .i64 cr, .int .i64 mo, .map (some b)] 71 (0, 0)), MapP b l.length (mapD (ent l)), Star (stP l), Rest w0.heap.size w h0] := OwnL.nilI (hp3.trans s2.drop)
  have hsz0 := hs.below.size
  clear s2
  gi_wp2
  have hseq := ids_K (n - 1) (by omega) (w.heap.size + 2) m b l.length l hok.rise hl64 (KpI w1.heap.size) (SafeI w1.heap.size) KpI.safe w1
    (fun W1 k cs hb hk hc => ⟨hk, cs, hc⟩) hlt (cell_at hbm 0) (Nat.lt_of_lt_of_le hm hBw.size) ((hBw.cell (p := ⟨m, 2, none⟩) hm).trans hcm) (by
      obtain ⟨es, clock, hbb, Ft, hs, hD⟩ := ho
      exact ⟨es, clock, (hBw.block b hbl).trans hbb, Ft, hs, hD⟩)
  have hoks := oks_of hp2
  have hTr : ∀ (k : Nat) (v : Value), ∀ A ∈ [FramesA v (nextsL (l.take k)), Blk (w.heap.size + 1) (.cells #[v] 34 (0, 0)), Blk w.heap.size (.cells #[.pointer (some ⟨m, 0, none⟩)] 24 (0, 0)), Blk m (.cells #[.int .i64 cr, .int .i64 mo, .map (some b)] 71 (0, 0)), MapP b l.length (mapD (ent l)), Star (stP (nextM l k)), Rest w0.heap.size w h0], Tr (pN w1.heap.size) A := by
    intro k v A hA
    simp only [List.mem_cons, List.not_mem_nil, or_false] at hA
    rcases hA with rfl | rfl | rfl | rfl | rfl | rfl | rfl
    · exact tr_frames _ _
    · exact tr_blk (by omega) _
    · exact tr_blk (by omega) _
    · exact tr_blk (Nat.lt_of_lt_of_le hm hBw.size) _
    · exact tr_map (Nat.lt_of_lt_of_le hbl hBw.size) _
    · exact Tr.star (tr_stp _)
    · exact tr_rest hBw.size
  refine wpIn_seqK h1 (gf := 68) (lb := #[.pointer (some ⟨w.heap.size + 2, 0, none⟩)]) rfl (enters_of Try.func68 (by kernel_rfl) rfl) hseq (Below.refl _ _) (fun h h' k cs hB hc => h' k cs hB (h k cs hB hc)) (fun X Z _ hK k cs _ hc => hK.same k _ hc (.inl rfl)) (fun k args X ⟨x, _, h⟩ => by rw [h]; rfl)
    (fun k X => ∃ v, Sat w0 X [FramesA v (nextsL (l.take k)), Blk (w.heap.size + 1) (.cells #[v] 34 (0, 0)), Blk w.heap.size (.cells #[.pointer (some ⟨m, 0, none⟩)] 24 (0, 0)), Blk m (.cells #[.int .i64 cr, .int .i64 mo, .map (some b)] 71 (0, 0)), MapP b l.length (mapD (ent l)), Star (stP (nextM l k)), Rest w0.heap.size w h0])
    (fun _ _ _ => False)
    ?hI (fun _ _ _ _ h _ => h) ?h0 ?round ?done ?stop
  case hI =>
    rintro k X Z ⟨v, h⟩ hK
    refine ⟨v, Sat.kelP (p := pN w1.heap.size) h (hTr k v) (hK.below (Nat.le_trans hsz0 hBw.size) h.below.size) (fun b o hb hp => hK.same b o hb (pN_or hp))⟩
  case h0 => exact ⟨_, hS1⟩
  case round =>
    rintro lp k args X hk hl hX ⟨v, hS⟩ ⟨x, hx, rfl⟩
    gi_wp2
    refine ⟨KeepsNC.refl _ _, fun _ _ _ h => h, fun X2 hk2 => ?_⟩
    have hS2 := Sat.kelP (p := pN w1.heap.size) hS (hTr k v) (hk2.below (Nat.le_trans hsz0 hBw.size) hS.below.size) (fun b o hb hp => hk2.same b o hb (pN_or hp))
    have hX2 : w1.heap.size ≤ X2.heap.size := Nat.le_trans hX hk2.size
    obtain ⟨e, he⟩ : ∃ e, l[k]? = some e := ⟨_, List.getElem?_eq_getElem hk⟩
    obtain rfl : e.2.id = x := by
      have h2 : (idsOf l)[k]? = some e.2.id := by unfold idsOf; rw [List.getElem?_map, he]; rfl
      rw [hx] at h2
      exact (Option.some.inj h2).symm
    have hQ := Sat.oth hS2 (hTr k v)
    obtain ⟨hn1, hn2⟩ := next_cut he
    have hQ1 : Sat w0 X2 (stP (nextM l k) ++ [Oth (pN w1.heap.size) w0.heap.size X2, FramesA v (nextsL (l.take k)), Blk (w.heap.size + 1) (.cells #[v] 34 (0, 0)), Blk w.heap.size (.cells #[.pointer (some ⟨m, 0, none⟩)] 24 (0, 0)), Blk m (.cells #[.int .i64 cr, .int .i64 mo, .map (some b)] 71 (0, 0)), MapP b l.length (mapD (ent l)), Rest w0.heap.size w h0]) := Sat.unstar (Sat.front [_, _, _, _, _, _] hQ)
    rw [hn1] at hQ1
    have hQ2 : Sat w0 X2 (StA e.1 e.2 :: (stP ((l.take k).map fun e => (e.1, e.2.next)) ++ (stP (l.drop (k + 1)) ++ [Oth (pN w1.heap.size) w0.heap.size X2, FramesA v (nextsL (l.take k)), Blk (w.heap.size + 1) (.cells #[v] 34 (0, 0)), Blk w.heap.size (.cells #[.pointer (some ⟨m, 0, none⟩)] 24 (0, 0)), Blk m (.cells #[.int .i64 cr, .int .i64 mo, .map (some b)] 71 (0, 0)), MapP b l.length (mapD (ent l)), Rest w0.heap.size w h0]))) := by
      refine Sat.front (stP ((l.take k).map fun e => (e.1, e.2.next))) ?_
      have : stP ((l.take k).map (fun e => (e.1, e.2.next)) ++ e :: l.drop (k + 1)) = stP ((l.take k).map fun e => (e.1, e.2.next)) ++ StA e.1 e.2 :: stP (l.drop (k + 1)) := by unfold stP; rw [List.map_append, List.map_cons]
      rw [this, List.append_assoc, List.cons_append] at hQ1
      exact hQ1
    have hmk : ∀ (W : World) (L1 : List Assn) (vb : Value), Sat w0 W (L1 ++ [Blk (w.heap.size + 1) (.cells #[vb] 34 (0, 0)), Blk w.heap.size (.cells #[.pointer (some ⟨m, 0, none⟩)] 24 (0, 0)), Blk m (.cells #[.int .i64 cr, .int .i64 mo, .map (some b)] 71 (0, 0)), MapP b l.length (mapD (ent l)), Rest w0.heap.size w h0]) → W.cell? ⟨w.heap.size, 0, none⟩ = some (.pointer (some ⟨m, 0, none⟩)) ∧ W.cell? ⟨m, 2, none⟩ = some (.map (some b)) ∧ (Instr.lookup 69 (.map (some b)) (.int .i64 e.2.id) false).run Try.prog W = .ok (.pointer (some ⟨e.1, 0, none⟩)) W := by
      intro W L1 vb h
      have f2 := (Sat.front (L1 ++ [_]) (L2 := [_, _, _]) (by rw [List.append_assoc]; exact h)).cell 0 (v := .pointer (some ⟨m, 0, none⟩)) rfl
      have f3 := (Sat.front (L1 ++ [_, _]) (L2 := [_, _]) (by rw [List.append_assoc]; exact h)).cell 2 (v := .map (some b)) rfl
      have f4 := Sat.front (L1 ++ [_, _, _]) (L2 := [_]) (by rw [List.append_assoc]; exact h)
      have f5 := MapP.look f4 e.2.id (by
        have hid := StA.ok hQ2
        have h1 := hid.1
        have h2 := hid.2.1
        unfold Lit.wf
        simp only [IntKind.min, IntKind.max, IntKind.signed, IntKind.bits, Bool.and_eq_true, decide_eq_true_eq]
        constructor <;> simp <;> omega)
      rw [ent_find, getM_at hok.rise he] at f5
      exact ⟨f2, f3, f5⟩
    have hQd := hQ2.drew
    have hHeld := hmk X2.drew (StA e.1 e.2 :: (stP ((l.take k).map fun e => (e.1, e.2.next)) ++ (stP (l.drop (k + 1)) ++ [Oth (pN w1.heap.size) w0.heap.size X2, FramesA v (nextsL (l.take k))]))) v (by simpa only [List.cons_append, List.append_assoc, List.nil_append] using hQd)
    have hbx2 := (Sat.front (StA e.1 e.2 :: (stP ((l.take k).map fun e => (e.1, e.2.next)) ++ (stP (l.drop (k + 1)) ++ [Oth (pN w1.heap.size) w0.heap.size X2, FramesA v (nextsL (l.take k))]))) (A := Blk (w.heap.size + 1) (.cells #[v] 34 (0, 0))) (L2 := [_, _, _, _]) (by simpa only [List.cons_append, List.append_assoc, List.nil_append] using hQd)).cell 0 (v := v) rfl
    have hcall := stream_Next e.1 e.2 hQd
    have hlen : (nextsL (l.take k)).length + e.2.nextL.length ≤ 100000000 := by
      have h1 := nextsL_le (l := l.take k) (fun x hx => hoks x (List.mem_of_mem_take hx))
      have h2 := nextL_le (hoks e (List.mem_of_getElem? he))
      rw [List.length_take] at h1
      omega
    have hend : ∀ (vb : Value) (Z : World), Sat w0 Z (Blk (w.heap.size + 1) (.cells #[vb] 34 (0, 0)) :: FramesA vb (nextsL (l.take k) ++ e.2.nextL) :: StA e.1 e.2.next :: ((stP ((l.take k).map fun e => (e.1, e.2.next)) ++ (stP (l.drop (k + 1)) ++ [Oth (pN w1.heap.size) w0.heap.size X2])) ++ [Blk w.heap.size (.cells #[.pointer (some ⟨m, 0, none⟩)] 24 (0, 0)), Blk m (.cells #[.int .i64 cr, .int .i64 mo, .map (some b)] 71 (0, 0)), MapP b l.length (mapD (ent l)), Rest w0.heap.size w h0])) →
        (Z.cell? ⟨w.heap.size, 0, none⟩ = some (.pointer (some ⟨m, 0, none⟩)) ∧ Z.cell? ⟨m, 2, none⟩ = some (.map (some b)) ∧ (Instr.lookup 69 (.map (some b)) (.int .i64 e.2.id) false).run Try.prog Z = .ok (.pointer (some ⟨e.1, 0, none⟩)) Z) ∧ KeepsNC w1.heap.size X2 Z ∧ KpI w1.heap.size X2 Z ∧ ∃ v, Sat w0 Z [FramesA v (nextsL (l.take (k + 1))), Blk (w.heap.size + 1) (.cells #[v] 34 (0, 0)), Blk w.heap.size (.cells #[.pointer (some ⟨m, 0, none⟩)] 24 (0, 0)), Blk m (.cells #[.int .i64 cr, .int .i64 mo, .map (some b)] 71 (0, 0)), MapP b l.length (mapD (ent l)), Star (stP (nextM l (k + 1))), Rest w0.heap.size w h0] := by
      intro vb Z h6
      have g1 : Sat w0 Z ((StA e.1 e.2.next :: ((stP ((l.take k).map fun e => (e.1, e.2.next)) ++ (stP (l.drop (k + 1)) ++ [Oth (pN w1.heap.size) w0.heap.size X2])) ++ [Blk w.heap.size (.cells #[.pointer (some ⟨m, 0, none⟩)] 24 (0, 0)), Blk m (.cells #[.int .i64 cr, .int .i64 mo, .map (some b)] 71 (0, 0)), MapP b l.length (mapD (ent l)), Rest w0.heap.size w h0])) ++ [Blk (w.heap.size + 1) (.cells #[vb] 34 (0, 0)), FramesA vb (nextsL (l.take k) ++ e.2.nextL)]) := Sat.perm (List.perm_append_comm (l₁ := [_, _])) h6
      have g2 : Sat w0 Z (stP (nextM l (k + 1)) ++ [Oth (pN w1.heap.size) w0.heap.size X2, Blk w.heap.size (.cells #[.pointer (some ⟨m, 0, none⟩)] 24 (0, 0)), Blk m (.cells #[.int .i64 cr, .int .i64 mo, .map (some b)] 71 (0, 0)), MapP b l.length (mapD (ent l)), Rest w0.heap.size w h0, Blk (w.heap.size + 1) (.cells #[vb] 34 (0, 0)), FramesA vb (nextsL (l.take k) ++ e.2.nextL)]) := by
        have h7 := Sat.back (stP ((l.take k).map fun e => (e.1, e.2.next))) (A := StA e.1 e.2.next) (L2 := stP (l.drop (k + 1)) ++ [Oth (pN w1.heap.size) w0.heap.size X2, Blk w.heap.size (.cells #[.pointer (some ⟨m, 0, none⟩)] 24 (0, 0)), Blk m (.cells #[.int .i64 cr, .int .i64 mo, .map (some b)] 71 (0, 0)), MapP b l.length (mapD (ent l)), Rest w0.heap.size w h0, Blk (w.heap.size + 1) (.cells #[vb] 34 (0, 0)), FramesA vb (nextsL (l.take k) ++ e.2.nextL)]) (by simpa only [List.cons_append, List.append_assoc, List.nil_append] using g1)
        have : stP (nextM l (k + 1)) = stP ((l.take k).map fun e => (e.1, e.2.next)) ++ StA e.1 e.2.next :: stP (l.drop (k + 1)) := by rw [hn2]; unfold stP; rw [List.map_append, List.map_cons]
        rw [this, List.append_assoc, List.cons_append]
        exact h7
      have g4 : Sat w0 Z [Oth (pN w1.heap.size) w0.heap.size X2, FramesA vb (nextsL (l.take k) ++ e.2.nextL), Blk (w.heap.size + 1) (.cells #[vb] 34 (0, 0)), Blk w.heap.size (.cells #[.pointer (some ⟨m, 0, none⟩)] 24 (0, 0)), Blk m (.cells #[.int .i64 cr, .int .i64 mo, .map (some b)] 71 (0, 0)), MapP b l.length (mapD (ent l)), Star (stP (nextM l (k + 1))), Rest w0.heap.size w h0] :=
        Sat.re [1, 7, 6, 2, 3, 4, 0, 5] [_, _, _, _, _, _, _, _] (Sat.star g2)
      refine ⟨hmk Z (FramesA vb (nextsL (l.take k) ++ e.2.nextL) :: StA e.1 e.2.next :: (stP ((l.take k).map fun e => (e.1, e.2.next)) ++ (stP (l.drop (k + 1)) ++ [Oth (pN w1.heap.size) w0.heap.size X2]))) vb ?_, fun j o hj ho hc => Sat.othO g4 (Nat.le_trans (Nat.le_trans hsz0 hBw.size) hj) ho (pN_no hj hc), fun j cs hj hc => Sat.othO g4 (Nat.le_trans (Nat.le_trans hsz0 hBw.size) hj) hc (pN_int hj cs), vb, ?_⟩
      · have h7 := Sat.back (FramesA vb (nextsL (l.take k) ++ e.2.nextL) :: StA e.1 e.2.next :: (stP ((l.take k).map fun e => (e.1, e.2.next)) ++ (stP (l.drop (k + 1)) ++ [Oth (pN w1.heap.size) w0.heap.size X2]))) (A := Blk (w.heap.size + 1) (.cells #[vb] 34 (0, 0))) (L2 := [Blk w.heap.size (.cells #[.pointer (some ⟨m, 0, none⟩)] 24 (0, 0)), Blk m (.cells #[.int .i64 cr, .int .i64 mo, .map (some b)] 71 (0, 0)), MapP b l.length (mapD (ent l)), Rest w0.heap.size w h0]) (by simpa only [List.cons_append, List.append_assoc, List.nil_append] using h6)
        simpa only [List.cons_append, List.append_assoc, List.nil_append] using h7
      · rw [nextsL_on he]
        exact g4.drop
    clear hn1 hQ1 hQ
    gi_wp2
    refine wpIn_region_heldR (S := fun W => W.cell? ⟨w.heap.size, 0, none⟩ = some (.pointer (some ⟨m, 0, none⟩)) ∧ W.cell? ⟨m, 2, none⟩ = some (.map (some b)) ∧ (Instr.lookup 69 (.map (some b)) (.int .i64 e.2.id) false).run Try.prog W = .ok (.pointer (some ⟨e.1, 0, none⟩)) W) (by kernel_rfl) (by kernel_rfl) ?hQ ?_
    case hQ => rintro ⟨a, w, h⟩; exact h
    refine wpAnyH_take (i := 1) (oi := ⟨(some 9), _, _, _, _, _⟩) (v := ?va1) rfl (by kernel_rfl) (by kernel_rfl) (by kernel_rfl) (fun _ _ _ h => h) (Or.inl ⟨by rfl, ?ya1⟩) hHeld ?_
    case ya1 => intro W hW; (try dsimp only at hW); go_simp; try with_reducible rfl
    try simp only [Act.put, List.setIfInBounds_toArray, List.set_cons_zero, List.set_cons_succ]
    refine wpAnyH_take (i := 2) (oi := ⟨(some 10), _, _, _, _, _⟩) (v := ?va2) rfl (by kernel_rfl) (by kernel_rfl) (by kernel_rfl) (fun _ _ _ h => h) (Or.inl ⟨by rfl, ?ya2⟩) hHeld ?_
    case ya2 => intro W hW; (try dsimp only at hW); go_simp; try with_reducible rfl
    try simp only [Act.put, List.setIfInBounds_toArray, List.set_cons_zero, List.set_cons_succ]
    refine wpAnyH_take (i := 3) (oi := ⟨(some 11), _, _, _, _, _⟩) (v := ?va3) rfl (by kernel_rfl) (by kernel_rfl) (by kernel_rfl) (fun _ _ _ h => h) (Or.inl ⟨by rfl, ?ya3⟩) hHeld ?_
    case ya3 => intro W hW; (try dsimp only at hW); go_simp; try with_reducible rfl
    try simp only [Act.put, List.setIfInBounds_toArray, List.set_cons_zero, List.set_cons_succ]
    refine wpAnyH_take (i := 4) (oi := ⟨(some 12), _, _, _, _, _⟩) (v := ?va4) rfl (by kernel_rfl) (by kernel_rfl) (by kernel_rfl) (fun _ _ _ h => h) (Or.inl ⟨by rfl, ?ya4⟩) hHeld ?_
    case ya4 => intro W hW; (try dsimp only at hW); go_simp; try with_reducible rfl
    try simp only [Act.put, List.setIfInBounds_toArray, List.set_cons_zero, List.set_cons_succ]
    refine wpAnyH_take (i := 5) (oi := ⟨(some 13), _, _, _, _, _⟩) (v := ?va5) rfl (by kernel_rfl) (by kernel_rfl) (by kernel_rfl) (fun _ _ _ h => h) (Or.inl ⟨by rfl, ?ya5⟩) hHeld ?_
    case ya5 => intro W hW; (try dsimp only at hW); go_simp; try with_reducible rfl
    try simp only [Act.put, List.setIfInBounds_toArray, List.set_cons_zero, List.set_cons_succ]
    refine wpAnyH_take (i := 6) (oi := ⟨(some 14), _, _, _, _, _⟩) (v := ?va6) rfl (by kernel_rfl) (by kernel_rfl) (by kernel_rfl) (fun _ _ _ h => h) (Or.inl ⟨by rfl, ?ya6⟩) hHeld ?_
    case ya6 => intro W hW; (try dsimp only at hW); go_simp; try with_reducible rfl
    try simp only [Act.put, List.setIfInBounds_toArray, List.set_cons_zero, List.set_cons_succ]
    refine wpAnyH_ready (rs := [0, 7]) (by kernel_rfl) (by simp) ?_
    refine AllReadyH.cons (o := ⟨some 8, _, _, _, _, _⟩) rfl (fun K hK => ?_) (AllReadyH.cons (o := ⟨some 15, _, _, _, _, _⟩) rfl (fun K hK => ?_) AllReadyH.nil)
    · go_simp
      refine hK.out _ _ hHeld (fun hHeld => ?_)
      clear hK K
      try simp only [Act.put, List.setIfInBounds_toArray, List.set_cons_zero, List.set_cons_succ]
      refine wpAnyH_ready (rs := [7]) (by kernel_rfl) (by simp) ?_
      refine AllReadyH.cons (o := ⟨some 15, _, _, _, _, _⟩) rfl (fun K hK => ?_) AllReadyH.nil
      go_simp
      go_at_call 22
      refine hcall.mono ?_
      rintro _ w3 ⟨v3, rfl, h3⟩
      refine hK.out _ _ (hmk w3 (FramesA v3 e.2.nextL :: StA e.1 e.2.next :: (stP ((l.take k).map fun e => (e.1, e.2.next)) ++ (stP (l.drop (k + 1)) ++ [Oth (pN w1.heap.size) w0.heap.size X2, FramesA v (nextsL (l.take k))]))) v (by simpa only [List.cons_append, List.append_assoc, List.nil_append] using h3)) (fun hHeld => ?_)
      clear hK K
      try simp only [Act.put, List.setIfInBounds_toArray, List.set_cons_zero, List.set_cons_succ]
      have hA4 : Sat w0 w3 (FramesA v (nextsL (l.take k)) :: FramesA v3 e.2.nextL :: StA e.1 e.2.next :: ((stP ((l.take k).map fun e => (e.1, e.2.next)) ++ (stP (l.drop (k + 1)) ++ [Oth (pN w1.heap.size) w0.heap.size X2])) ++ [Blk (w.heap.size + 1) (.cells #[v] 34 (0, 0)), Blk w.heap.size (.cells #[.pointer (some ⟨m, 0, none⟩)] 24 (0, 0)), Blk m (.cells #[.int .i64 cr, .int .i64 mo, .map (some b)] 71 (0, 0)), MapP b l.length (mapD (ent l)), Rest w0.heap.size w h0])) :=
        Sat.front (FramesA v3 e.2.nextL :: StA e.1 e.2.next :: (stP ((l.take k).map fun e => (e.1, e.2.next)) ++ (stP (l.drop (k + 1)) ++ [Oth (pN w1.heap.size) w0.heap.size X2]))) (L2 := [_, _, _, _, _]) (by simpa only [List.cons_append, List.append_assoc, List.nil_append] using h3)
      refine wpAnyH_ready (rs := [8]) (by kernel_rfl) (by simp) ?_
      refine AllReadyH.cons (o := ⟨some 16, _, _, _, _, _⟩) rfl (fun K hK => ?_) AllReadyH.nil
      refine step_append_fr rfl _ _ rfl rfl hA4 rfl (by omega) ?_
      intro a4 c4 w4 h4
      refine hK.out _ _ (hmk w4 (FramesA (.slice a4 ((nextsL (l.take k)).length + e.2.nextL.length) c4) (nextsL (l.take k) ++ e.2.nextL) :: StA e.1 e.2.next :: (stP ((l.take k).map fun e => (e.1, e.2.next)) ++ (stP (l.drop (k + 1)) ++ [Oth (pN w1.heap.size) w0.heap.size X2]))) v (by simpa only [List.cons_append, List.append_assoc, List.nil_append] using h4)) (fun hHeld => ?_)
      clear hK K
      try simp only [Act.put, List.setIfInBounds_toArray, List.set_cons_zero, List.set_cons_succ]
      refine wpAnyH_ready (rs := [9]) (by kernel_rfl) (by simp) ?_
      refine AllReadyH.cons (o := ⟨none, _, _, _, _, _⟩) rfl (fun K hK => ?_) AllReadyH.nil
      have h5 := Sat.front (FramesA (.slice a4 ((nextsL (l.take k)).length + e.2.nextL.length) c4) (nextsL (l.take k) ++ e.2.nextL) :: StA e.1 e.2.next :: (stP ((l.take k).map fun e => (e.1, e.2.next)) ++ (stP (l.drop (k + 1)) ++ [Oth (pN w1.heap.size) w0.heap.size X2]))) (L2 := [_, _, _, _]) (by simpa only [List.cons_append, List.append_assoc, List.nil_append] using h4)
      have hf5 := h5.frozen 0
      have hcv5 := h5.cell 0 (v := v) rfl
      have h6 := h5.set 0 (.slice a4 ((nextsL (l.take k)).length + e.2.nextL.length) c4)
      go_simp
      refine hK.out _ _ (hend _ _ h6).1 (fun hHeld => ?_)
      clear hK K
      try simp only [Act.put, List.setIfInBounds_toArray, List.set_cons_zero, List.set_cons_succ]
      refine wpAnyH_done (by kernel_rfl) ?_ _
      gi_wp2
      exact (hend _ _ h6).2
    · go_simp
      go_at_call 22
      refine hcall.mono ?_
      rintro _ w3 ⟨v3, rfl, h3⟩
      refine hK.out _ _ (hmk w3 (FramesA v3 e.2.nextL :: StA e.1 e.2.next :: (stP ((l.take k).map fun e => (e.1, e.2.next)) ++ (stP (l.drop (k + 1)) ++ [Oth (pN w1.heap.size) w0.heap.size X2, FramesA v (nextsL (l.take k))]))) v (by simpa only [List.cons_append, List.append_assoc, List.nil_append] using h3)) (fun hHeld => ?_)
      clear hK K
      try simp only [Act.put, List.setIfInBounds_toArray, List.set_cons_zero, List.set_cons_succ]
      have hbx3 := (Sat.front (FramesA v3 e.2.nextL :: StA e.1 e.2.next :: (stP ((l.take k).map fun e => (e.1, e.2.next)) ++ (stP (l.drop (k + 1)) ++ [Oth (pN w1.heap.size) w0.heap.size X2, FramesA v (nextsL (l.take k))]))) (A := Blk (w.heap.size + 1) (.cells #[v] 34 (0, 0))) (L2 := [_, _, _, _]) (by simpa only [List.cons_append, List.append_assoc, List.nil_append] using h3)).cell 0 (v := v) rfl
      refine wpAnyH_ready (rs := [0]) (by kernel_rfl) (by simp) ?_
      refine AllReadyH.cons (o := ⟨some 8, _, _, _, _, _⟩) rfl (fun K hK => ?_) AllReadyH.nil
      go_simp
      refine hK.out _ _ hHeld (fun hHeld => ?_)
      clear hK K
      try simp only [Act.put, List.setIfInBounds_toArray, List.set_cons_zero, List.set_cons_succ]
      have hA4 : Sat w0 w3 (FramesA v (nextsL (l.take k)) :: FramesA v3 e.2.nextL :: StA e.1 e.2.next :: ((stP ((l.take k).map fun e => (e.1, e.2.next)) ++ (stP (l.drop (k + 1)) ++ [Oth (pN w1.heap.size) w0.heap.size X2])) ++ [Blk (w.heap.size + 1) (.cells #[v] 34 (0, 0)), Blk w.heap.size (.cells #[.pointer (some ⟨m, 0, none⟩)] 24 (0, 0)), Blk m (.cells #[.int .i64 cr, .int .i64 mo, .map (some b)] 71 (0, 0)), MapP b l.length (mapD (ent l)), Rest w0.heap.size w h0])) :=
        Sat.front (FramesA v3 e.2.nextL :: StA e.1 e.2.next :: (stP ((l.take k).map fun e => (e.1, e.2.next)) ++ (stP (l.drop (k + 1)) ++ [Oth (pN w1.heap.size) w0.heap.size X2]))) (L2 := [_, _, _, _, _]) (by simpa only [List.cons_append, List.append_assoc, List.nil_append] using h3)
      refine wpAnyH_ready (rs := [8]) (by kernel_rfl) (by simp) ?_
      refine AllReadyH.cons (o := ⟨some 16, _, _, _, _, _⟩) rfl (fun K hK => ?_) AllReadyH.nil
      refine step_append_fr rfl _ _ rfl rfl hA4 rfl (by omega) ?_
      intro a4 c4 w4 h4
      refine hK.out _ _ (hmk w4 (FramesA (.slice a4 ((nextsL (l.take k)).length + e.2.nextL.length) c4) (nextsL (l.take k) ++ e.2.nextL) :: StA e.1 e.2.next :: (stP ((l.take k).map fun e => (e.1, e.2.next)) ++ (stP (l.drop (k + 1)) ++ [Oth (pN w1.heap.size) w0.heap.size X2]))) v (by simpa only [List.cons_append, List.append_assoc, List.nil_append] using h4)) (fun hHeld => ?_)
      clear hK K
      try simp only [Act.put, List.setIfInBounds_toArray, List.set_cons_zero, List.set_cons_succ]
      refine wpAnyH_ready (rs := [9]) (by kernel_rfl) (by simp) ?_
      refine AllReadyH.cons (o := ⟨none, _, _, _, _, _⟩) rfl (fun K hK => ?_) AllReadyH.nil
      have h5 := Sat.front (FramesA (.slice a4 ((nextsL (l.take k)).length + e.2.nextL.length) c4) (nextsL (l.take k) ++ e.2.nextL) :: StA e.1 e.2.next :: (stP ((l.take k).map fun e => (e.1, e.2.next)) ++ (stP (l.drop (k + 1)) ++ [Oth (pN w1.heap.size) w0.heap.size X2]))) (L2 := [_, _, _, _]) (by simpa only [List.cons_append, List.append_assoc, List.nil_append] using h4)
      have hf5 := h5.frozen 0
      have hcv5 := h5.cell 0 (v := v) rfl
      have h6 := h5.set 0 (.slice a4 ((nextsL (l.take k)).length + e.2.nextL.length) c4)
      go_simp
      refine hK.out _ _ (hend _ _ h6).1 (fun hHeld => ?_)
      clear hK K
      try simp only [Act.put, List.setIfInBounds_toArray, List.set_cons_zero, List.set_cons_succ]
      refine wpAnyH_done (by kernel_rfl) ?_ _
      gi_wp2
      exact (hend _ _ h6).2
  case done =>
    rintro D W hD ⟨v, hS⟩ hK
    have hco := (Sat.front [_] hS).cell 0 (v := v) rfl
    have hK9 : Kel w1.heap.size W (W.putObj D (.deferred none)) := Kel.put hK rfl hD
    have hS9 := Sat.kelP (p := pN w1.heap.size) hS (hTr _ v) (hK9.below (Nat.le_trans hsz0 hBw.size) hS.below.size) (fun b o hb hp => hK9.same b o hb (pN_or hp))
    rw [List.take_length] at hS9
    gi_wp2
    refine ⟨by simp, .inl ⟨_, _, rfl, run_takeDeferred hK, ?_⟩⟩
    refine ⟨v, results_tmp (fn := Try.f16) rfl _ _ _, v, rfl, ?_⟩
    have g1 := (Sat.front [_] (Sat.front [_, _] hS9).drop).drop
    have g2 : Sat w0 (W.putObj D (.deferred none)) [Star (stP (nextM l l.length)), MapP b l.length (mapD (ent l)), Blk m (.cells #[.int .i64 cr, .int .i64 mo, .map (some b)] 71 (0, 0)), FramesA v (nextsL l), Rest w0.heap.size w h0] := Sat.re [3, 2, 1, 0] [_, _, _, _] g1
    have g3 : Sat w0 (W.putObj D (.deferred none)) (MapP b l.length (mapD (ent (nextM l l.length))) :: Blk m (.cells #[.int .i64 cr, .int .i64 mo, .map (some b)] 71 (0, 0)) :: (stP (nextM l l.length) ++ [FramesA v (nextsL l), Rest w0.heap.size w h0])) := by
      rw [ent_next]
      refine Sat.perm ?_ (Sat.unstar g2)
      have := (List.perm_append_comm (l₁ := stP (nextM l l.length)) (l₂ := [MapP b l.length (mapD (ent l)), Blk m (.cells #[.int .i64 cr, .int .i64 mo, .map (some b)] 71 (0, 0))])).append_right [FramesA v (nextsL l), Rest w0.heap.size w h0]
      simpa using this
    have g4 := MxA.shut (ok_next hok _) g3
    exact Sat.unstar (L1 := [_, _]) (hback _ _ (Sat.star (L1 := [FramesA v (nextsL l), MxA m cr mo (nextM l l.length)]) (Sat.swap g4)))
  case stop =>
    rintro D c k W hD hS h hK
    exact h.elim
end
end Go.Proofs.Ytkejadhkebjdcaa
