/- The document's Mux: Drop, Next, Sweep, walked. -/
import Derived.Test.YtkejadhkebjdcaaRma
namespace Go.Proofs.Ytkejadhkebjdcaa
open Go Go.RowKit Go.Maps
set_option linter.unusedVariables false
set_option linter.unusedSimpArgs false

theorem dropM_on {l : List (Nat × StM)} {i : Nat} {e : Nat × StM} (he : l[i]? = some e) (id : Int) : dropM (l.take (i + 1)) id = dropM (l.take i) id ++ (if e.2.id != id then [e] else []) := by
  unfold dropM
  rw [List.take_add_one, he, Option.toList_some, List.filter_append]
  congr 1
  cases h : (e.2.id != id) <;> simp [h]
theorem getM_drop (l : List (Nat × StM)) (id : Int) : decide ((dropM l id).length < l.length) = (getM l id).isSome := by
  unfold dropM getM
  induction l with
  | nil => rfl
  | cons e l ih =>
    rw [List.filter_cons, List.find?_cons]
    have hle := List.length_filter_le (fun e : Nat × StM => e.2.id != id) l
    cases h : (e.2.id == id)
    · rw [if_pos (by simpa using h)]
      rw [← ih]
      simp
    · rw [if_neg (by simpa using h)]
      simp only [List.length_cons, Option.isSome_some, decide_eq_true_eq]
      omega
theorem ptrC_next (l : List (Nat × StM)) (k : Nat) : ptrC (nextM l k) = ptrC l := by
  unfold ptrC nextM
  rw [List.map_append, List.map_map]
  have : ((fun e : Nat × StM => Value.pointer (some ⟨e.1, 0, none⟩)) ∘ fun e : Nat × StM => (e.1, e.2.next)) = fun e : Nat × StM => Value.pointer (some ⟨e.1, 0, none⟩) := rfl
  rw [this, ← List.map_append, List.take_append_drop]
theorem nextM_at {l : List (Nat × StM)} {k : Nat} {e : Nat × StM} (he : l[k]? = some e) : (nextM l k)[k]? = some e := by
  obtain ⟨hk, rfl⟩ := List.getElem?_eq_some_iff.1 he
  unfold nextM
  rw [List.getElem?_append_right (by simp; omega)]
  simp [Nat.min_eq_left (Nat.le_of_lt hk)]
section
variable {w0 w : World} {L : List Assn}
theorem rsP_filter (p : Nat × StM → Bool) : ∀ (l : List (Nat × StM)) (M L : List Assn), Sat w0 w (M ++ (rsP l ++ L)) → Sat w0 w (M ++ (rsP (l.filter p) ++ L))
  | [], _, _, h => h
  | e :: l, M, L, h => by
    rw [List.filter_cons]
    cases hp : p e
    · rw [if_neg (by simp)]
      exact rsP_filter p l M L (Sat.drop (Sat.front M (A := RSt e.1 e.2) (L2 := rsP l ++ L) h))
    · rw [if_pos rfl]
      have h2 := rsP_filter p l (M ++ [RSt e.1 e.2]) L (by rw [List.append_assoc]; exact h)
      rw [List.append_assoc] at h2
      exact h2
theorem rs_oks : ∀ {l : List (Nat × StM)} {L : List Assn}, Sat w0 w (rsP l ++ L) → ∀ e ∈ l, e.2.ok
  | [], _, _, _, h => by cases h
  | a :: l, L, hs, e, h => by
    rcases List.mem_cons.1 h with rfl | h
    · exact RSt.ok hs
    · exact rs_oks (l := l) (L := L) (Sat.drop (A := RSt a.1 a.2) hs) e h
set_option maxRecDepth 100000 in
set_option maxHeartbeats 2000000 in
theorem rm_Drop {g : Nat} {cr mo : Int} {l : List (Nat × StM)} (id : Int) (h64 : l.length ≤ 64) (hs : Sat w0 w (RMx g cr mo l :: L)) :
    Calls Try.prog 29 #[.pointer (some ⟨g, 0, none⟩), .int .i64 id] w fun e w' => e = .returned (.bool (getM l id).isSome) ∧ Sat w0 w' (RMx g cr mo (dropM l id) :: L) := by
  obtain ⟨a, c, hc1, hc2, h1⟩ := RMx.opn hs
  unfold maxLen at hc2
  rw [← getM_drop]
  have c2 : w.cell? ⟨g, 2, none⟩ = some (.slice a l.length c) := h1.cell 2 rfl
  obtain ⟨n, hn⟩ : ∃ n, l.length = n := ⟨_, rfl⟩
  have HN := hid_ hn
  rw [hn] at c2 h1 hc1 h64 ⊢
  have h2 := OwnS.nilI (e := 56) (sz := 1) h1
  obtain ⟨i0, hi0, hz0, hz1, hz2⟩ := pinfo
  have hlen := fun i => hid_ (drop_len (l.take i) id)
  clear h1 hs hn
  go_enter Try.func29, Try.ntmps29
  go_wp2_with fail
  go_loopg [5, 14] n (fun gg v5 v14 wr => ∃ (i k : Nat) (a5 : Option Addr) (c5 : Nat) (q : List (Nat × StM)), i ≤ n ∧ n - i ≤ gg ∧ v14 = .int .i64 i ∧ v5 = .slice a5 k c5 ∧ Hid (dropM (l.take i) id = q) ∧ k ≤ i ∧ Hid (q.length = k) ∧
    Sat w0 wr (OwnS 56 1 (.slice a5 k c5) k (ptrC q) :: Blk g (.cells #[.int .i64 cr, .int .i64 mo, .slice a n c] 86 (0, 0)) :: OwnS 56 1 (.slice a n c) n (ptrC l) :: (rsP l ++ L)))
  case atStart => exact ⟨0, 0, none, 0, [], by omega, by omega, rfl, rfl, hid_ rfl, by omega, hid_ rfl, h2⟩
  case round =>
    obtain ⟨i, k, a5, c5, q, hi, hgg, rfl, rfl, hq, hk, hqk, h3⟩ := hrel
    clear c2 h2
    by_cases hlt : i < n
    · obtain ⟨e, he⟩ : ∃ e, l[i]? = some e := ⟨_, List.getElem?_eq_getElem (by rw [HN.out]; exact hlt)⟩
      obtain ⟨b, o, rfl, c0, d0⟩ := rm_at h3.drop.drop he hlt
      have hon := dropM_on he id
      rw [hq.out] at hon
      have z1 : (i : Int) < (n : Int) := by omega
      clear he
      by_cases hid : e.2.id = id
      · have q1 : (e.2.id != id) = false := by simp [hid]
        rw [q1] at hon
        have hon := hid_ hon
        clear hid
        go_wp2_with fail
        go_roundg (n - (i + 1))
        case measure => omega
        case rel => exact ⟨i + 1, k, a5, c5, q, by omega, by omega, by go_num, rfl, hid_ (by rw [hon.out]; simp), by omega, hqk, h3⟩
      · have q1 : (e.2.id != id) = true := by simp [hid]
        rw [q1] at hon
        have hon := hid_ hon
        have hA := h3.alloc (.cells #[.pointer (some ⟨e.1, 0, none⟩)] 56 (0, 0))
        clear hid
        go_wp2_with (at_builtin; refine wpList_append_v rfl _ _ 84 rfl Try.underlying84 hi0 hz0 hz1 hz2 rfl rfl rfl rfl hA (by omega) ?_; intro a6 c6 w6 h6)
        go_roundg (n - (i + 1))
        case measure => omega
        case rel => exact ⟨i + 1, k + 1, a6, c6, q ++ [e], by omega, by omega, by go_num, rfl, hid_ (by rw [hon.out]; simp), by omega, hid_ (by rw [List.length_append, hqk.out]; rfl), by rw [ptrC_app]; exact h6⟩
    · obtain rfl : i = n := by omega
      have hq2 := hq.out
      rw [List.take_of_length_le (by rw [HN.out]; omega)] at hq2
      have hkk := hqk.out
      subst hq2
      have hkk := hid_ hkk
      have hb := Sat.front [_] h3
      have c2 : wr.cell? ⟨g, 2, none⟩ = some (.slice a i c) := hb.cell 2 rfl
      have f2 := hb.frozen 2
      have h4 := (hb.set 2 (.slice a5 k c5))
      simp only [List.setIfInBounds_toArray, List.set_cons_succ, List.set_cons_zero] at h4
      clear hb h3
      go_wp2_with fail
      go_ret
      refine ⟨by rw [hkk.out]; simp, RMx.shut (v := .slice a5 k c5) ?_⟩
      rw [hkk.out]
      have h5 := Sat.re [0, 1] [_, _] (h4)
      have h6 := rsP_filter (fun e => e.2.id != id) l [_, _] L (Sat.drop (Sat.front [_, _] h4))
      exact h6
set_option maxRecDepth 100000 in
set_option maxHeartbeats 2000000 in
theorem rm_Next {g : Nat} {cr mo : Int} {l : List (Nat × StM)} (h64 : l.length ≤ 64) (hs : Sat w0 w (RMx g cr mo l :: L)) :
    Calls Try.prog 30 #[.pointer (some ⟨g, 0, none⟩)] w fun e w' => ∃ v, e = .returned v ∧ Sat w0 w' (FramesA v (nextsL l) :: RMx g cr mo (nextM l l.length) :: L) := by
  obtain ⟨a, c, hc1, hc2, h1⟩ := RMx.opn hs
  unfold maxLen at hc2
  have c2 : w.cell? ⟨g, 2, none⟩ = some (.slice a l.length c) := h1.cell 2 rfl
  have hoks := hid_ (rs_oks h1.drop.drop)
  obtain ⟨n, hn⟩ : ∃ n, l.length = n := ⟨_, rfl⟩
  have HN := hid_ hn
  rw [hn] at c2 h1 hc1 h64 ⊢
  have h2 : Sat w0 w (FramesA (.slice none 0 0) (nextsL (l.take 0)) :: Blk g (.cells #[.int .i64 cr, .int .i64 mo, .slice a n c] 86 (0, 0)) :: OwnS 56 1 (.slice a n c) n (ptrC l) :: (rsP (nextM l 0) ++ L)) := by
    rw [show nextM l 0 = l by simp [nextM]]
    exact OwnL.nilI h1
  clear h1 hs hn
  go_enter Try.func30, Try.ntmps30
  go_wp2_with fail
  go_loopg [3, 11] n (fun gg v3 v11 wr => ∃ (i k : Nat) (a3 : Option Addr) (c3 : Nat), i ≤ n ∧ n - i ≤ gg ∧ v11 = .int .i64 i ∧ v3 = .slice a3 k c3 ∧
    Sat w0 wr (FramesA (.slice a3 k c3) (nextsL (l.take i)) :: Blk g (.cells #[.int .i64 cr, .int .i64 mo, .slice a n c] 86 (0, 0)) :: OwnS 56 1 (.slice a n c) n (ptrC l) :: (rsP (nextM l i) ++ L)))
  case atStart => exact ⟨0, 0, none, 0, by omega, by omega, rfl, rfl, h2⟩
  case round =>
    obtain ⟨i, k, a3, c3, hi, hgg, rfl, rfl, h3⟩ := hrel
    clear c2 h2
    by_cases hlt : i < n
    · obtain ⟨e, he⟩ : ∃ e, l[i]? = some e := ⟨_, List.getElem?_eq_getElem (by rw [HN.out]; exact hlt)⟩
      have hp := h3.drop.drop
      rw [← ptrC_next l i] at hp
      obtain ⟨b, o, rfl, c0, _⟩ := rm_at hp (nextM_at he) hlt
      clear hp
      obtain ⟨hn1, hn2⟩ := next_cut he
      have e1 : rsP (nextM l i) = rsP ((l.take i).map fun e => (e.1, e.2.next)) ++ RSt e.1 e.2 :: rsP (l.drop (i + 1)) := by rw [hn1]; unfold rsP; rw [List.map_append, List.map_cons]
      have e2 : rsP (nextM l (i + 1)) = rsP ((l.take i).map fun e => (e.1, e.2.next)) ++ RSt e.1 e.2.next :: rsP (l.drop (i + 1)) := by rw [hn2]; unfold rsP; rw [List.map_append, List.map_cons]
      rw [e1] at h3
      have h4 := Sat.front (FramesA (.slice a3 k c3) (nextsL (l.take i)) :: Blk g (.cells #[.int .i64 cr, .int .i64 mo, .slice (some ⟨b, o, none⟩) n c] 86 (0, 0)) :: OwnS 56 1 (.slice (some ⟨b, o, none⟩) n c) n (ptrC l) :: rsP ((l.take i).map fun e => (e.1, e.2.next))) (A := RSt e.1 e.2) (L2 := rsP (l.drop (i + 1)) ++ L) (by simpa only [List.cons_append, List.append_assoc, List.nil_append] using h3)
      simp only [List.cons_append, List.append_assoc, List.nil_append] at h4
      have hlen : (nextsL (l.take i)).length + e.2.nextL.length ≤ 100000000 := by
        have h1 := nextsL_le (l := l.take i) (fun x hx => hoks.out x (List.mem_of_mem_take hx))
        have h2 := nextL_le (hoks.out e (List.mem_of_getElem? he))
        rw [List.length_take] at h1
        omega
      have hon := hid_ (nextsL_on he)
      have E2 := hid_ e2
      have z1 : (i : Int) < (n : Int) := by omega
      clear he hn1 hn2 e1 e2
      go_wp2_with fail
      refine (rst_Next e.1 e.2 h4).mono ?_
      rintro _ w6 ⟨v6, rfl, h6⟩
      have h7 : Sat w0 w6 (FramesA (.slice a3 k c3) (nextsL (l.take i)) :: FramesA v6 e.2.nextL :: RSt e.1 e.2.next :: Blk g (.cells #[.int .i64 cr, .int .i64 mo, .slice (some ⟨b, o, none⟩) n c] 86 (0, 0)) :: OwnS 56 1 (.slice (some ⟨b, o, none⟩) n c) n (ptrC l) :: (rsP ((l.take i).map fun e => (e.1, e.2.next)) ++ (rsP (l.drop (i + 1)) ++ L))) := Sat.re [2, 0, 1] [_, _, _] h6
      clear h6
      go_wp2_with (at_builtin; refine wpList_append_fr rfl _ _ rfl rfl h7 rfl hlen ?_; intro a8 c8 w8 h8)
      go_roundg (n - (i + 1))
      case measure => omega
      case rel =>
        refine ⟨i + 1, _, a8, c8, by omega, by omega, by go_num, rfl, ?_⟩
        rw [hon.out, E2.out]
        have h9 := Sat.back (FramesA (.slice a8 ((nextsL (l.take i)).length + e.2.nextL.length) c8) (nextsL (l.take i) ++ e.2.nextL) :: Blk g (.cells #[.int .i64 cr, .int .i64 mo, .slice (some ⟨b, o, none⟩) n c] 86 (0, 0)) :: OwnS 56 1 (.slice (some ⟨b, o, none⟩) n c) n (ptrC l) :: rsP ((l.take i).map fun e => (e.1, e.2.next))) (A := RSt e.1 e.2.next) (L2 := rsP (l.drop (i + 1)) ++ L) (by simpa only [List.cons_append, List.append_assoc, List.nil_append] using h8.swap)
        simpa only [List.cons_append, List.append_assoc, List.nil_append] using h9
    · obtain rfl : i = n := by omega
      rw [List.take_of_length_le (by rw [HN.out]; omega)] at h3
      go_wp2_with fail
      go_ret
      refine ⟨_, rfl, ?_⟩
      have h4 := Sat.back (Blk g (.cells #[.int .i64 cr, .int .i64 mo, .slice a i c] 86 (0, 0)) :: OwnS 56 1 (.slice a i c) i (ptrC l) :: rsP (nextM l i)) (L2 := L) h3
      refine Sat.swap (RMx.shut (v := .slice a i c) ?_)
      rw [ptrC_next, len_next, HN.out]
      exact h4
theorem drops_on {ids : List Int} {j : Nat} {x : Int} (hj : ids[j]? = some x) (l : List (Nat × StM)) : (ids.take (j + 1)).foldl dropM l = dropM ((ids.take j).foldl dropM l) x := by
  rw [List.take_add_one, hj, Option.toList_some, List.foldl_append]
  rfl
theorem drops_le (ids : List Int) (l : List (Nat × StM)) : (ids.foldl dropM l).length ≤ l.length := by
  rw [drops_eq]
  exact List.length_filter_le _ _
theorem gone_le (l : List (Nat × StM)) : (goneL l).length ≤ l.length := by
  unfold goneL
  rw [List.length_map]
  exact List.length_filter_le _ _
set_option maxRecDepth 100000 in
set_option maxHeartbeats 2000000 in
theorem rm_Sweep {g : Nat} {cr mo : Int} {l : List (Nat × StM)} (h64 : l.length ≤ 64) (hr : (l.map (·.2.id)).Pairwise (· < ·)) (hs : Sat w0 w (RMx g cr mo l :: L)) :
    Calls Try.prog 32 #[.pointer (some ⟨g, 0, none⟩)] w fun e w' => ∃ a c, e = .returned (.slice a (goneL l).length c) ∧ Sat w0 w' (OwnS 3 1 (.slice a (goneL l).length c) (goneL l).length ((goneL l).map encZ) :: RMx g cr mo (sweepM l) :: L) := by
  obtain ⟨a, c, hc1, hc2, h1⟩ := RMx.opn hs
  unfold maxLen at hc2
  have c2 : w.cell? ⟨g, 2, none⟩ = some (.slice a l.length c) := h1.cell 2 rfl
  have HR := hid_ (drops_sweep hr)
  have HG := hid_ (gone_le l)
  obtain ⟨n, hn⟩ : ∃ n, l.length = n := ⟨_, rfl⟩
  have HN := hid_ hn
  rw [hn] at c2 h1 hc1 h64
  have h2 : Sat w0 w (OwnS 3 1 (.slice none 0 0) 0 ((goneL (l.take 0)).map encZ) :: Blk g (.cells #[.int .i64 cr, .int .i64 mo, .slice a n c] 86 (0, 0)) :: OwnS 56 1 (.slice a n c) n (ptrC l) :: (rsP l ++ L)) := OwnS.nilI h1
  obtain ⟨i0, hi0, hz0, hz1, hz2⟩ := iinfo
  clear h1 hs hn hr
  go_enter Try.func32, Try.ntmps32
  go_wp2_with fail
  go_loopg [3, 13] n (fun gg v3 v13 wr => ∃ (i k : Nat) (a3 : Option Addr) (c3 : Nat), i ≤ n ∧ n - i ≤ gg ∧ v13 = .int .i64 i ∧ v3 = .slice a3 k c3 ∧ Hid ((goneL (l.take i)).length = k) ∧ k ≤ i ∧
    Sat w0 wr (OwnS 3 1 (.slice a3 k c3) k ((goneL (l.take i)).map encZ) :: Blk g (.cells #[.int .i64 cr, .int .i64 mo, .slice a n c] 86 (0, 0)) :: OwnS 56 1 (.slice a n c) n (ptrC l) :: (rsP l ++ L)))
  case atStart => exact ⟨0, 0, none, 0, by omega, by omega, rfl, rfl, hid_ rfl, by omega, h2⟩
  case round =>
    obtain ⟨i, k, a3, c3, hi, hgg, rfl, rfl, hgk, hki, h3⟩ := hrel
    clear c2 h2
    by_cases hlt : i < n
    · obtain ⟨e, he⟩ : ∃ e, l[i]? = some e := ⟨_, List.getElem?_eq_getElem (by rw [HN.out]; exact hlt)⟩
      obtain ⟨b, o, rfl, c0, d0⟩ := rm_at h3.drop.drop he hlt
      have e1 : rsP l = rsP (l.take i) ++ RSt e.1 e.2 :: rsP (l.drop (i + 1)) := by
        obtain ⟨hk, rfl⟩ := List.getElem?_eq_some_iff.1 he
        have : l = l.take i ++ l[i] :: l.drop (i + 1) := by rw [List.getElem_cons_drop, List.take_append_drop]
        unfold rsP
        conv => lhs; rw [this]
        rw [List.map_append, List.map_cons]
      have h4 := h3.drop.drop.drop
      rw [e1, List.append_assoc, List.cons_append] at h4
      have HD := rst_Done e.1 e.2 (Sat.front _ h4)
      have hon := goneL_succ he
      have z1 : (i : Int) < (n : Int) := by omega
      clear he e1 h4
      cases hd : e.2.done
      · rw [hd] at HD hon
        have hon := hid_ hon
        clear hd
        go_wp2_with fail
        refine HD.mono ?_
        rintro _ _ ⟨rfl, rfl⟩
        go_wp2_with fail
        go_roundg (n - (i + 1))
        case measure => omega
        case rel => exact ⟨i + 1, k, a3, c3, by omega, by omega, by go_num, rfl, hid_ (by rw [hon.out]; simpa using hgk.out), by omega, by rw [hon.out]; simpa using h3⟩
      · rw [hd] at HD hon
        have hon := hid_ hon
        have hA := h3.alloc (.cells #[.int .i64 e.2.id] 3 (0, 0))
        clear hd
        go_wp2_with fail
        refine HD.mono ?_
        rintro _ _ ⟨rfl, rfl⟩
        go_wp2_with (at_builtin; refine wpList_append_v rfl _ _ 22 rfl Try.underlying22 hi0 hz0 hz1 hz2 rfl rfl rfl rfl hA (by omega) ?_; intro a6 c6 w6 h6)
        go_roundg (n - (i + 1))
        case measure => omega
        case rel => exact ⟨i + 1, k + 1, a6, c6, by omega, by omega, by go_num, rfl, hid_ (by rw [hon.out]; simpa using hgk.out), by omega, by rw [hon.out, List.map_append]; exact h6⟩
    · obtain rfl : i = n := by omega
      rw [List.take_of_length_le (by rw [HN.out]; omega)] at h3 hgk
      have h4 : Sat w0 wr (OwnS 3 1 (.slice a3 k c3) k ((goneL l).map encZ) :: RMx g cr mo (((goneL l).take 0).foldl dropM l) :: L) := by
        have h4 := Sat.back (Blk g (.cells #[.int .i64 cr, .int .i64 mo, .slice a i c] 86 (0, 0)) :: OwnS 56 1 (.slice a i c) i (ptrC l) :: rsP l) (L2 := L) h3
        refine Sat.swap (RMx.shut (v := .slice a i c) ?_)
        rw [List.take_zero, List.foldl_nil, HN.out]
        exact h4
      clear h3 hgg
      go_wp2_with fail
      go_loopg [29] k (fun gg v29 wr => ∃ j : Nat, j ≤ k ∧ k - j ≤ gg ∧ v29 = .int .i64 j ∧ Sat w0 wr (OwnS 3 1 (.slice a3 k c3) k ((goneL l).map encZ) :: RMx g cr mo (((goneL l).take j).foldl dropM l) :: L))
      case atStart => exact ⟨0, by omega, by omega, rfl, h4⟩
      case round =>
        obtain ⟨j, hj, hgg, rfl, h5⟩ := hrel
        clear h4
        by_cases hlt2 : j < k
        · obtain ⟨x, hx⟩ : ∃ x, (goneL l)[j]? = some x := ⟨_, List.getElem?_eq_getElem (by rw [hgk.out]; exact hlt2)⟩
          obtain ⟨b5, o5, k5, e5, _, _, hc5, _⟩ := OwnS.cells h5 (by omega)
          injection e5 with ea el ec
          subst ea ec
          clear el
          have c0 : wr.cell? ⟨b5, o5 + j, none⟩ = some (.int .i64 x) := hc5 j _ (by rw [List.getElem?_map, hx]; rfl)
          have hon := hid_ (drops_on hx l)
          have hle : (((goneL l).take j).foldl dropM l).length ≤ 64 := Nat.le_trans (drops_le _ _) (by rw [HN.out]; omega)
          have z2 : (j : Int) < (k : Int) := by omega
          clear hx hc5 hlt
          go_wp2_with fail
          refine (rm_Drop x hle h5.swap).mono ?_
          rintro _ w6 ⟨rfl, h6⟩
          go_wp2_with fail
          go_roundg (k - (j + 1))
          case measure => omega
          case rel => exact ⟨j + 1, by omega, by omega, by go_num, by rw [hon.out]; exact h6.swap⟩
        · obtain rfl : j = k := by omega
          rw [List.take_of_length_le (by rw [hgk.out]; omega), HR.out] at h5
          go_wp2_with fail
          go_ret
          exact ⟨a3, c3, by rw [hgk.out]; rfl, by rw [hgk.out]; exact h5⟩
end
end Go.Proofs.Ytkejadhkebjdcaa
