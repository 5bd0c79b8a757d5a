/- Sweep of a living mux, walked. -/
import Derived.Test.YtkejadhkebjdcaaSeqK
import Derived.Test.YtkejadhkebjdcaaMxJ
namespace Go.Proofs.Ytkejadhkebjdcaa
open Go Go.RowKit Go.Maps Go.Sort Go.Shelf
set_option linter.unusedVariables false
set_option linter.unusedSimpArgs false
attribute [local go_sem] Oper.semAt_some

/-- The mux's ids: each of them is told to the body. -/
theorem ids_K (n : Nat) (hn : 8 ≤ n) (Bm m b nn : Nat) (q : List (Nat × StM)) (hq : (q.map (·.2.id)).Pairwise (· < ·)) (hq64 : q.length ≤ 64) (Kp : World → World → Prop) (Safe : World → Nat → Prop)
    (hKS : ∀ W W' k, Kp W W' → Safe W k → W'.heap[k]? = W.heap[k]? ∧ Safe W' k) (w : World)
    (hSafe : ∀ (W1 : World) (k : Nat) (cs : Array Value), Below w.heap.size w W1 → w.heap.size ≤ k → W1.heap[k]? = some (.cells cs 3 (0, 0)) → Safe W1 k)
    (hBm : Bm < w.heap.size) (hm : w.cell? ⟨Bm, 0, none⟩ = some (.pointer (some ⟨m, 0, none⟩))) (hmw : m < w.heap.size) (hmb : w.cell? ⟨m, 2, none⟩ = some (.map (some b))) (hown : w.ownsMap Try.prog 3 ptrR b nn (mapD (ent q))) :
    SeqK n Try.prog 68 #[.pointer (some ⟨Bm, 0, none⟩)] q.length (fun k args X => ∃ x, (idsOf q)[k]? = some x ∧ args = #[.int .i64 x]) Kp w := fun l J Jx W hW hJ hY h0 => by
  refine (ids1_in n hn l Bm m b nn q hq hq64 (fun pre => J pre.length) (fun pre => Jx pre.length) Kp Safe hKS (fun pre x W1 hj hl hx => ?_) (fun pre W1 W2 hj hb => hJ _ W1 W2 hj hb)
    W (fun W1 k cs hB hk hc => hSafe W1 k cs (hW.trans (hB.mono hW.size)) (Nat.le_trans hW.size hk) hc)
    ((hW.cell (p := ⟨Bm, 0, none⟩) hBm).trans hm) ((hW.cell (p := ⟨m, 2, none⟩) hmw).trans hmb) (by
      have hbl := hown.lt
      obtain ⟨es, clock, hb, Ft, hs, hD⟩ := hown
      exact ⟨es, clock, (hW.block b hbl).trans hb, Ft, hs, hD⟩) h0).mono ?_
  · have := hY pre.length #[.int .i64 x] W1 hl hj ⟨x, hx, rfl⟩
    simpa only [List.length_append, List.length_singleton] using this
  · rintro e W' ⟨hv, ⟨ys, rfl, hj⟩ | ⟨pre, ⟨k, hk, rfl⟩, hjx⟩⟩
    · refine ⟨hv, .inl ?_⟩
      simpa [idsOf] using hj
    · refine ⟨hv, .inr ⟨k, hk, ?_⟩⟩
      have e : ((idsOf q).take (k + 1)).length = k + 1 := by simp [idsOf]; omega
      rwa [e] at hjx
theorem kpO_kel {o B : Nat} (ho : o < B) : ∀ X Z, B ≤ X.heap.size → Kel B X Z → KpO o B X Z := by
  intro X Z hs h
  have eo : outBlk o Z = outBlk o X := by
    unfold outBlk
    have hx : X.heap[o]? = some X.heap[o] := Array.getElem?_eq_getElem (by omega)
    rw [World.cell?_of_block (a := ⟨o, 0, none⟩) ((h.same o _ hx (.inr ho)).trans hx.symm)]
  refine ⟨h.size, fun k cs t fr hk hcs _ => ?_, fun k hk => .inl (by rw [eo] at hk; exact hk)⟩
  rw [hcs]
  exact h.same k _ hcs (.inl rfl)
/-- The ids of those that are done; those that are not. -/
def goneL (l : List (Nat × StM)) : List Int := (l.filter (·.2.done)).map (·.2.id)
def sweepM (l : List (Nat × StM)) : List (Nat × StM) := l.filter (fun e => !e.2.done)
theorem goneL_succ {l : List (Nat × StM)} {k : Nat} {e : Nat × StM} (he : l[k]? = some e) : goneL (l.take (k + 1)) = goneL (l.take k) ++ (if e.2.done = true then [e.2.id] else []) := by
  unfold goneL
  rw [List.take_add_one, he, Option.toList_some, List.filter_append, List.map_append]
  congr 1
  cases h : e.2.done <;> simp [h]
theorem drops_eq : ∀ (ids : List Int) (l : List (Nat × StM)), ids.foldl dropM l = l.filter (fun e => !(ids.contains e.2.id))
  | [], l => by
    rw [List.foldl_nil, List.filter_eq_self.2]
    intro e _
    rfl
  | x :: r, l => by
    rw [List.foldl_cons, drops_eq r]
    unfold dropM
    rw [List.filter_filter]
    apply List.filter_congr
    intro e _
    rw [List.contains_cons]
    cases h : (e.2.id == x) <;> simp [h, bne]
theorem drops_sweep {l : List (Nat × StM)} (hr : (l.map (·.2.id)).Pairwise (· < ·)) : (goneL l).foldl dropM l = sweepM l := by
  rw [drops_eq]
  unfold sweepM
  apply List.filter_congr
  intro e he
  congr 1
  rw [Bool.eq_iff_iff, List.contains_iff_mem]
  unfold goneL
  constructor
  · intro h
    obtain ⟨f, hf, hfe⟩ := List.mem_map.1 h
    obtain ⟨hf1, hf2⟩ := List.mem_filter.1 hf
    obtain ⟨i, hi, rfl⟩ := List.getElem_of_mem hf1
    obtain ⟨j, hj, rfl⟩ := List.getElem_of_mem he
    rw [List.pairwise_iff_getElem] at hr
    rcases Nat.lt_trichotomy i j with h | h | h
    · have := hr i j (by simpa using hi) (by simpa using hj) h
      simp only [List.getElem_map] at this
      omega
    · subst h
      exact hf2
    · have := hr j i (by simpa using hj) (by simpa using hi) h
      simp only [List.getElem_map] at this
      omega
  · intro h
    exact List.mem_map.2 ⟨e, List.mem_filter.2 ⟨he, h⟩, rfl⟩
theorem SatX.blkI {lk : Hp} {X : Nat → Prop} {k : Nat} {o : Obj} {L : List Assn} (hk : lk k = some o) (hX : ¬ X k) (h : SatX lk (fun b => X b ∨ b = k) L) : SatX lk X (Blk k o :: L) := by
  refine ⟨fun j => if j = k then some o else none, if_pos rfl, fun j q hj => ?_, h.anti fun j hj => ?_⟩
  · have hj2 : (if j = k then some o else none) = some q := hj
    by_cases e : j = k
    · rw [if_pos e] at hj2
      subst e
      have e2 := Option.some.inj hj2
      exact ⟨by rw [← e2]; exact hk, hX⟩
    · rw [if_neg e] at hj2
      cases hj2
  · rcases hj with hj | hj
    · exact .inl hj
    · right
      have hj : (if j = k then some o else none) ≠ none := hj
      split at hj
      · assumption
      · exact absurd rfl hj
theorem sat_done {w W : World} {D : Nat} {v u1 u2 : Value} {k : Nat} {xs : List Value} (hB : Below w.heap.size w W) (hr : W.ownsRow (w.heap.size + 1) 3 1 v k xs) (b1 : Boxed W (w.heap.size + 1) 22 u1) (b2 : Boxed W w.heap.size 24 u2)
    (hD : w.heap.size ≤ D) (hK : W.heap[D]? = some (.deferred (some []))) :
    Sat w W [Blk D (.deferred (some [])), Blk (w.heap.size + 1) (.cells #[u1] 22 (0, 0)), Blk w.heap.size (.cells #[u2] 24 (0, 0)), OwnS 3 1 v k xs] := by
  have hb1 : W.heap[w.heap.size + 1]? = some (.cells #[u1] 22 (0, 0)) := b1
  have hb2 : W.heap[w.heap.size]? = some (.cells #[u2] 24 (0, 0)) := b2
  have n1 : w.heap.size + 1 ≠ D := by rintro rfl; rw [hb1] at hK; cases hK
  have n2 : w.heap.size ≠ D := by intro e; rw [e] at hb2; rw [hb2] at hK; cases hK
  refine ⟨hB, SatX.blkI hK (fun h => by have h : D < w.heap.size := h; omega) (SatX.blkI hb1 ?_ (SatX.blkI hb2 ?_ ?_))⟩
  · rintro (h | h)
    · have h : w.heap.size + 1 < w.heap.size := h
      omega
    · exact n1 h
  · rintro ((h | h) | h)
    · have h : w.heap.size < w.heap.size := h
      omega
    · exact n2 h
    · omega
  · rcases hr.2 with ⟨rfl, rfl⟩ | ⟨g, cap, cur, rfl, h1, hg, h2, h3, h4, h5⟩
    · exact ⟨fun _ => none, ⟨hr.1, .inl ⟨rfl, rfl⟩⟩, by simp, trivial⟩
    · refine ⟨fun j => if j = g then some (.cells cur 3 (0, 0)) else none, ⟨hr.1, .inr ⟨g, 0, cap, cur, rfl, by simp, h2, h3, by omega, by simpa using h5⟩⟩, fun j o hj => ?_, trivial⟩
      by_cases hjg : j = g
      · subst hjg
        simp at hj
        rw [← hj]
        refine ⟨hg, ?_⟩
        rintro (((h | h) | h) | h)
        · have h : j < w.heap.size := h
          omega
        · subst h; rw [hg] at hK; cases hK
        · subst h; rw [hg] at hb1; injection hb1 with hb1; injection hb1 with _ e _; exact absurd e (by decide)
        · omega
      · simp [hjg] at hj
theorem sat_unput {w0 w : World} {L : List Assn} {D : Nat} {o o' : Obj} (h : Sat w0 w (Blk D o :: L)) : Sat w0 (w.putObj D o') L := by
  refine Sat.drop (A := Emp) (Sat.step h rfl rfl rfl (by simp) fun h1 hA hin => ⟨fun b hb hn => ?_, fun _ => none, trivial, by simp, by simp⟩)
  refine World.putObj_heap_other ?_
  rintro rfl
  have hA : h1 b = some o := hA
  rw [hA] at hn
  cases hn
theorem KpO.refl (o B : Nat) (W : World) : KpO o B W W := ⟨Nat.le_refl _, fun _ _ _ _ _ _ _ => rfl, fun _ h => .inl h⟩
theorem Kel.boxed {B : Nat} {X Z : World} (h : Kel B X Z) {b : Nat} {t : TypeId} {v : Value} (hb : Boxed X b t v) : Boxed Z b t v := h.same b _ hb (.inl rfl)
theorem Kel.row {B : Nat} {X Z : World} (h : Kel B X Z) {n₀ : Nat} {e : TypeId} {sz : Nat} {v : Value} {k : Nat} {xs : List Value} (hr : X.ownsRow n₀ e sz v k xs) : Z.ownsRow n₀ e sz v k xs := by
  refine ⟨hr.1, ?_⟩
  rcases hr.2 with h2 | ⟨g, cap, cur, rfl, h1, hg, h3⟩
  · exact .inl h2
  · exact .inr ⟨g, cap, cur, rfl, h1, h.same g _ hg (.inl rfl), h3⟩
section
variable {w0 w w' : World} {L : List Assn}
theorem stP_at {M : List Assn} {l : List (Nat × StM)} {k : Nat} {e : Nat × StM} (he : l[k]? = some e) (h : Sat w0 w (M ++ (stP l ++ L))) : ∃ R, Sat w0 w (StA e.1 e.2 :: R) := by
  obtain ⟨hk, rfl⟩ := List.getElem?_eq_some_iff.1 he
  have e1 : l = l.take k ++ l[k] :: l.drop (k + 1) := by rw [List.getElem_cons_drop, List.take_append_drop]
  rw [e1] at h
  unfold stP at h
  rw [List.map_append, List.map_cons, List.append_assoc, ← List.append_assoc, List.cons_append] at h
  exact ⟨_, Sat.front _ h⟩
theorem getM_at {l : List (Nat × StM)} (hr : (l.map (·.2.id)).Pairwise (· < ·)) {k : Nat} {e : Nat × StM} (he : l[k]? = some e) : getM l e.2.id = some e := by
  unfold getM
  obtain ⟨hk, rfl⟩ := List.getElem?_eq_some_iff.1 he
  rw [List.find?_eq_some_iff_getElem]
  refine ⟨by simp, k, hk, rfl, fun j hj => ?_⟩
  rw [List.pairwise_iff_getElem] at hr
  have := hr j k (by simp; omega) (by simpa using hk) hj
  simp only [List.getElem_map] at this
  simp
  omega
set_option maxRecDepth 100000 in
set_option maxHeartbeats 4000000 in
theorem sweep_in (n : Nat) (hn : 10 ≤ n) {m : Nat} {cr mo : Int} {l : List (Nat × StM)} (hs : Sat w0 w (MxA m cr mo l :: L)) :
    CallsIn Fence.wide n Try.prog 17 #[.pointer (some ⟨m, 0, none⟩)] w fun e w' => ∃ a c, e = .returned (.slice a (goneL l).length c) ∧ Sat w0 w' (OwnS 3 1 (.slice a (goneL l).length c) (goneL l).length ((goneL l).map encZ) :: MxA m cr mo (sweepM l) :: L) := by
  have h1 : 1 ≤ n := by omega
  obtain ⟨b, hok, hp⟩ := MxA.opn hs
  have hl64 : l.length ≤ 64 := by have := hok.len; have := hok.mo2; omega
  have hm := hp.lt
  have hcm : w.cell? ⟨m, 2, none⟩ = some (.map (some b)) := hp.cell 2 rfl
  have ho := MapP.owns hp.swap
  refine callsIn_of_wp_marks Try.func17 rfl trivial ?_ rfl
  simp only [Try.ntmps17, List.size_toArray, List.length_cons, List.length_nil, Nat.reduceAdd, Nat.reduceSub, Array.replicate_succ, Array.replicate_zero, List.push_toArray, List.append_toArray, List.nil_append, List.cons_append]
  gi_wp2
  refine ⟨trivial, (mux_Ids_in (n - 1) _ _).mono ?_⟩
  rintro _ w1 ⟨rfl, hw1⟩
  have s2 := ((Sat.refl w).alloc2 (.cells #[.pointer (some ⟨m, 0, none⟩)] 24 (0, 0)) (.cells #[.slice none 0 0] 22 (0, 0))).alloc (.cells #[.pointer (some ⟨m, 0, none⟩)] 24 (0, 0))
  rw [← hw1] at s2
  clear hw1
  simp only [World.size_alloc, Nat.add_assoc, Nat.reduceAdd] at s2 ⊢
  have hBw : Below w.heap.size w w1 := s2.below
  have hbm := s2.blk.1
  have hbo := s2.drop.blk.1
  have hbn := s2.drop.drop.blk.1
  have hlt := s2.lt
  clear s2
  gi_wp2
  have hout : outBlk (w.heap.size + 1) w1 = none := by unfold outBlk; rw [cell_at hbo 0]; rfl
  obtain ⟨i0, hi, hz0, hz1, hz2⟩ := info_int
  have hseq := ids_K (n - 1) (by omega) (w.heap.size + 2) m b l.length l hok.rise hl64 (KpO (w.heap.size + 1) w1.heap.size) (SafeO (w.heap.size + 1) w1.heap.size) KpO.safe w1
    (fun W1 k cs hb hk hc => safeO_start (by omega) rfl hout W1 k cs _ _ hb hk hc) hlt (cell_at hbm 0) (Nat.lt_of_lt_of_le hm hBw.size) ((hBw.cell (p := ⟨m, 2, none⟩) hm).trans hcm) (by
      have hbl := ho.lt
      obtain ⟨es, clock, hbb, Ft, hs, hD⟩ := ho
      exact ⟨es, clock, (hBw.block b hbl).trans hbb, Ft, hs, hD⟩)
  refine wpIn_seqK h1 (gf := 68) (lb := #[.pointer (some ⟨w.heap.size + 2, 0, none⟩)]) rfl (enters_of Try.func68 (by kernel_rfl) rfl) hseq (Below.refl _ _) (fun h h' => KpO.trans h h') (kpO_kel (by omega)) (fun k args X ⟨x, _, h⟩ => by rw [h]; rfl)
    (fun k X => (∃ v, (Boxed X (w.heap.size + 1) 22 v ∧ Boxed X w.heap.size 24 (.pointer (some ⟨m, 0, none⟩))) ∧ X.ownsRow (w.heap.size + 1) 3 1 v (goneL (l.take k)).length ((goneL (l.take k)).map encZ)) ∧ Below w.heap.size w X)
    (fun _ _ _ => False)
    (fun k X Z ⟨⟨v, ⟨b1, b2⟩, hr⟩, hB⟩ hK => ⟨⟨v, ⟨hK.boxed b1, hK.boxed b2⟩, hK.row hr⟩, hB.trans (hK.below hBw.size hB.size)⟩) (fun _ _ _ _ h _ => h)
    ⟨⟨.slice none 0 0, ⟨hbo, hbn⟩, World.ownsRow_nil _ _ _ _⟩, hBw⟩ ?round ?done ?stop
  case round =>
    rintro lp k args X hk hl hX ⟨⟨v, ⟨bo, bm⟩, hrow⟩, hB⟩ ⟨x, hx, rfl⟩
    gi_wp2
    refine ⟨KeepsNC.refl _ _, KpO.refl _ _ _, fun X2 hk2 => ?_⟩
    have bo2 := hk2.boxed bo
    have bm2 := hk2.boxed bm
    have hrow2 := hk2.row hrow
    have hB2 : Below w.heap.size w X2 := hB.trans (hk2.below hBw.size hB.size)
    have hX2 : w1.heap.size ≤ X2.heap.size := Nat.le_trans hX hk2.size
    obtain ⟨e, he⟩ : ∃ e, l[k]? = some e := ⟨_, List.getElem?_eq_getElem hk⟩
    obtain rfl : e.2.id = x := by
      have h2 : (idsOf l)[k]? = some e.2.id := by unfold idsOf; rw [List.getElem?_map, he]; rfl
      rw [hx] at h2
      exact (Option.some.inj h2).symm
    have hp2 := hp.under hB2
    obtain ⟨R, hst⟩ := stP_at (M := [_, _]) he hp2
    have hid := StA.ok hst
    have hwf : (Lit.int .i64 e.2.id).wf = true := by
      have h1 := hid.1
      have h2 := hid.2.1
      unfold Lit.wf
      simp only [IntKind.min, IntKind.max, IntKind.signed, IntKind.bits, Bool.and_eq_true, decide_eq_true_eq]
      constructor <;> simp <;> omega
    have hlk := MapP.look hp2.swap e.2.id hwf
    rw [ent_find, getM_at hok.rise he] at hlk
    have c2 : X2.cell? ⟨m, 2, none⟩ = some (.map (some b)) := hp2.cell 2 rfl
    have hco := bo2.cell
    have hcm2 := bm2.cell
    obtain ⟨va, vc, rfl⟩ := row_form hrow2
    have hDn := stream_Done e.1 e.2 hst
    cases hdn : e.2.done
    · rw [hdn] at hDn
      have HD := hid_ hdn
      clear hdn
      gi_wp2
      refine ⟨trivial, fun _ => by omega, (CallsIn.inRound lp (callsIn_wide.2 hDn)).mono ?_⟩
      rintro _ _ ⟨rfl, rfl⟩
      gi_wp2
      refine ⟨KeepsNC.refl _ _, KpO.refl _ _ _, ⟨_, ⟨bo2, bm2⟩, ?_⟩, hB2⟩
      rw [goneL_succ he, HD.out]
      simpa using hrow2
    · rw [hdn] at hDn
      have HD := hid_ hdn
      clear hdn
      obtain ⟨N, hN⟩ : ∃ N, (goneL (l.take k)).length = N := ⟨_, rfl⟩
      have hN64 : N ≤ 64 := by
        have h1 : (goneL (l.take k)).length ≤ (l.take k).length := by unfold goneL; rw [List.length_map]; exact List.length_filter_le _ _
        rw [List.length_take] at h1
        omega
      have hszW : w.heap.size + 1 ≤ X2.heap.size := by omega
      have HN := hid_ hN
      rw [hN] at hrow2 hco
      gi_wp2
      refine ⟨trivial, fun _ => by omega, (CallsIn.inRound lp (callsIn_wide.2 hDn)).mono ?_⟩
      rintro _ _ ⟨rfl, rfl⟩
      rw [hN] at bo2
      gi_wp2_with (gi_at_builtin; refine wpListIn_append_own_at _ rfl _ _ 22 rfl (w.heap.size + 1) 3 i0 (.int .i64 0) 1 8 Try.underlying22 hi hz0 hz1 hz2 rfl (by decide) _ _ _ rfl (hrow2.alloc _) ⟨X2.heap.size, 0, none⟩ 1 1 [.int .i64 e.2.id] rfl rfl (cell_one_new _ _ _) (by simp [Value.oneCell']) (by simp only [maxLen]; omega) (by omega) (by have := hszW; simp; omega) ?_; intro v' w2 hown' hgrow _ hat; obtain ⟨g', cap', rfl⟩ := ownsRow_succ hown'; obtain ⟨hv1, hv2, hr2, hk2', hb2⟩ := bo2.appended (by decide) hrow2 hszW (by omega) hown' hgrow; have hc1 := hv1.cell; have hf1 := hv1.frozen)
      have hKO := KpO.appended (B := w1.heap.size) bo2 (by omega) hv2 hgrow (by rw [World.size_alloc] at hat; exact hat)
      have bn2 : Boxed (w2.setCell ⟨w.heap.size + 1, 0, none⟩ (.slice (some ⟨g', 0, none⟩) (N + 1) cap')) w.heap.size 24 (.pointer (some ⟨m, 0, none⟩)) := ((bm2.alloc _).kept hgrow (fun e => by have := (hrow2.lt _ e.symm).1; omega)).kept (grownBy_setCell' w2 _ _) (by simp)
      have el : (goneL (l.take (k + 1))).length = N + 1 := by rw [goneL_succ he, HD.out, List.length_append, hN]; rfl
      refine ⟨KeepsFrom.nc (hk2'.from _), hKO, ⟨_, ⟨hv2, bn2⟩, ?_⟩, hB2.trans (hb2.mono (by omega))⟩
      rw [el, goneL_succ he, HD.out, if_pos rfl, List.map_append]
      exact hr2
  case done =>
    rintro D W hD ⟨⟨v, ⟨bo, bm⟩, hrow⟩, hB⟩ hK
    rw [List.take_length] at hrow
    have hS := hs.trans (sat_done hB hrow bo bm (Nat.le_trans hBw.size hD) hK)
    obtain ⟨va, vc, rfl⟩ := row_form hrow
    have hco := bo.cell
    obtain ⟨N, hN⟩ : ∃ N, (goneL l).length = N := ⟨_, rfl⟩
    rw [hN] at hco hS
    clear hseq hrow bo bm
    have hids : ∀ x ∈ goneL l, (Lit.int .i64 x).wf = true := by
      intro x hx
      obtain ⟨e, he, rfl⟩ := List.mem_map.1 hx
      obtain ⟨k, hk, rfl⟩ := List.getElem_of_mem (List.mem_filter.1 he).1
      obtain ⟨R, hst⟩ := stP_at (M := [_, _]) (List.getElem?_eq_getElem hk) hp
      have hid := StA.ok hst
      have h1 := hid.1
      have h2 := hid.2.1
      unfold Lit.wf
      simp only [IntKind.min, IntKind.max, IntKind.signed, IntKind.bits, Bool.and_eq_true, decide_eq_true_eq]
      constructor <;> simp <;> omega
    have HIDS := hid_ hids
    have HN := hid_ hN
    have HOK := hid_ hok
    have hN64 : N ≤ 64 := by
      have h1 : (goneL l).length ≤ l.length := by unfold goneL; rw [List.length_map]; exact List.length_filter_le _ _
      omega
    clear hids hN hs hp ho hm hcm hok hout hbm hbo hbn hK hB
    gi_wp2
    gi_loopw [23] (fun v23 wr => ∃ i : Nat, i ≤ N ∧ v23 = .int .i64 i ∧ Sat w0 wr ([Blk D (.deferred (some [])), Blk (w.heap.size + 1) (.cells #[.slice va N vc] 22 (0, 0)), Blk w.heap.size (.cells #[.pointer (some ⟨m, 0, none⟩)] 24 (0, 0)), OwnS 3 1 (.slice va N vc) N ((goneL l).map encZ)] ++ MxA m cr mo (((goneL l).take i).foldl dropM l) :: L))
      (fun v23 _ => N - (intOf v23).toNat)
    case atStart => exact ⟨0, Nat.zero_le _, rfl, hS⟩
    case round =>
      obtain ⟨i, hi2, rfl, hS2⟩ := hrel
      clear hS hco
      have hcb := (Sat.front [_, _] hS2).cell 0 (v := .pointer (some ⟨m, 0, none⟩)) rfl
      have hco := (Sat.front [_] hS2).cell 0 (v := .slice va N vc) rfl
      by_cases hlt2 : i < N
      · obtain ⟨x, hx⟩ : ∃ x, (goneL l)[i]? = some x := ⟨_, List.getElem?_eq_getElem (by rw [HN.out]; exact hlt2)⟩
        obtain ⟨g, off, cap', he, _, _, hc, _⟩ := OwnS.cells (Sat.front [_, _, _] hS2) (by omega)
        injection he with e1 _ e3
        clear e3
        subst e1
        have c0 : wr.cell? ⟨g, off + i, none⟩ = some (.int .i64 x) := hc i _ (by rw [List.getElem?_map, hx]; rfl)
        have hdr := mux_Drop x (HIDS.out x (List.mem_of_getElem? hx)) (Sat.front [_, _, _, _] hS2)
        have z1 : 0 ≤ (i : Int) ∧ (i : Int) < (N : Int) := by omega
        have htk : ((goneL l).take (i + 1)).foldl dropM l = dropM (((goneL l).take i).foldl dropM l) x := by rw [List.take_add_one, hx, Option.toList_some, List.foldl_append]; rfl
        have HTK := hid_ htk
        clear hc hx htk
        gi_wp2
        refine ⟨trivial, (callsIn_wide.2 hdr).mono ?_⟩
        rintro _ w3 ⟨rfl, h3⟩
        gi_wp2
        go_roundw
        case rel =>
          refine ⟨i + 1, by omega, by go_num, ?_⟩
          rw [HTK.out]
          exact Sat.back [_, _, _, _] h3
        case measure => simp [intOf]; omega
      · obtain rfl : i = N := by omega
        have hK2 := hS2.blk.1
        gi_wp2
        refine ⟨by simp, .inl ⟨_, _, rfl, run_takeDeferred hK2, ?_⟩⟩
        have h5 := sat_unput (o' := .deferred none) hS2
        rw [List.take_of_length_le (by rw [HN.out]; exact Nat.le_refl _), drops_sweep HOK.out.rise] at h5
        refine ⟨.slice va i vc, results_tmp (fn := Try.f17) rfl _ _ _, va, vc, by rw [HN.out], ?_⟩
        rw [HN.out]
        exact Sat.drop (Sat.drop h5)
  case stop =>
    rintro D c k W hD hS h hK
    exact h.elim
end
end Go.Proofs.Ytkejadhkebjdcaa
