/- The document's Mux: Open, walked. -/
import Derived.BigQuiet
import Derived.Deep.RegionLaw
import Derived.Deep.DeepCutAuto
import Derived.Test.YtkejadhkebjdcaaRmb
namespace Go.Proofs.Ytkejadhkebjdcaa
open Go Go.RowKit Go.Maps
set_option linter.unusedVariables false
set_option linter.unusedSimpArgs false

theorem add_cut {x : Nat × StM} : ∀ {l : List (Nat × StM)} {k : Nat}, (∀ e ∈ l.take k, e.2.id < x.2.id) → (∀ e, l[k]? = some e → x.2.id < e.2.id) → addM x l = l.take k ++ x :: l.drop k
  | [], k, _, _ => by simp [addM]
  | y :: r, 0, _, h => by
    have := h y rfl
    simp [addM, this]
  | y :: r, k + 1, h1, h2 => by
    have h3 := h1 y (by simp)
    have h4 := add_cut (x := x) (l := r) (k := k) (fun e he => h1 e (by simp [he])) (fun e he => h2 e (by simpa using he))
    unfold addM
    rw [if_neg (by omega), h4]
    rfl
section
variable {w0 w : World} {L : List Assn}
/-- append of values of one cell, in a region that draws its order. -/
theorem step_append_p {ops : Array Oper} {o : Oper} {a : Act} {K : Act → World → Prop} {Q : Exit → Act → World → Prop} (hgd : o.guard = none) (s x : Operand)
    (ho : o.op = .call { callee := .builtin .append, args := #[s, x], argTypes := #[84, 84] })
    {v vx : Value} {n m q : Nat} {us xs r : List Value} (hv : a.eval s = v) (hs : Sat w0 w (OwnS 56 1 v n us :: L)) (hx : a.eval x = vx) (hsrc : Src Try.prog 1 84 vx m xs w) (hq : n + m = q) (hrr : us ++ xs = r) (hn : q ≤ 1000)
    (h : ∀ a' c' w', Sat w0 w' (OwnS 56 1 (.slice a' q c') q r :: L) → K (a.put o.dst (.slice a' q c')) w') :
    if Region.wanted o (yielded ops a.tmps) = true then o.wp Try.prog a w K Q else K (a.put o.dst undef) w := by
  subst hq hrr
  rw [if_pos (by simp [Region.wanted, hgd])]
  obtain ⟨i0, hi0, hz0, hz1, hz2⟩ := pinfo
  obtain ⟨v', w', hr, h2, _⟩ := run_append_sat (P := Try.prog) (ty := o.type) Try.underlying84 hi0 hz0 hz1 hz2 rfl hs hsrc (by simp only [maxLen]; omega) (by omega)
  unfold Oper.wp execOp
  simp only [ho, resolve, invoke, builtin, Sem.run_bind, Sem.run_pure, Result.andThen_ok, List.map_toArray, List.map_cons, List.map_nil, hv, hx, hr]
  obtain ⟨a', c', rfl, _, _⟩ := OwnS.form h2
  exact h a' c' w' h2
set_option maxRecDepth 100000 in
/-- A row of pointers, cut before and behind its k-th: whatever the addresses are. -/
theorem ptr_cuts {a : Option Addr} {n c k : Nat} {xs : List Value} (hk : k ≤ n) (h1 : ∀ u ∈ xs, u.oneCell' = true) (hr : Sat w0 w (OwnS 56 1 (.slice a n c) n xs :: L)) :
    ∃ V1 V3, (∀ W : World, (Instr.slice 84 (.slice a n c) none (some (.int .i64 (k : Int))) none).run Try.prog W = .ok V1 W) ∧
      (∀ W : World, (Instr.slice 84 (.slice a n c) (some (.int .i64 (k : Int))) none none).run Try.prog W = .ok V3 W) ∧
      (∀ (W : World) (M : List Assn), Sat w0 W (OwnS 56 1 (.slice a n c) n xs :: M) → Src Try.prog 1 84 V1 k (xs.take k) W) ∧
      (∀ (W : World) (M : List Assn), Sat w0 W (OwnS 56 1 (.slice a n c) n xs :: M) → Src Try.prog 1 84 V3 (n - k) (xs.drop k) W) := by
  obtain ⟨_, _, he, hle, hcm⟩ := OwnS.form hr
  injection he with _ _ he
  subst he
  have e : Try.prog.elem 84 = 56 := rfl
  have hs : ∀ W : World, (sizeOf 56).run Try.prog W = .ok 1 W := fun W => by kernel_rfl
  refine ⟨sliced a 0 k c 1, sliced a k n c 1, fun W => ?_, fun W => ?_, fun W M h => ?_, fun W M h => ?_⟩
  · rw [run_slice_h (P := Try.prog) (w := W) (t := 84) (ht := Try.underlying84) (h0 := by omega) (h2 := by omega), e, hs]
    simp only [Result.andThen_ok, Int.toNat_natCast]
  · rw [run_slice_l (P := Try.prog) (w := W) (t := 84) (ht := Try.underlying84) (h0 := by omega) (h1 := by omega), e, hs]
    simp only [Result.andThen_ok, Int.toNat_natCast]
  · have hone : ∀ u ∈ xs.take k, u.oneCell' = true := fun u hu => h1 u (List.mem_of_mem_take hu)
    unfold sliced
    rw [Nat.sub_zero, Nat.sub_zero]
    have : (if c = 0 then a else a.map (·.add (0 * 1))) = a := by
      split
      · rfl
      · cases a with
        | none => rfl
        | some ad => rw [Option.map_some, Nat.zero_mul]; first | rfl | (cases ad; simp [Addr.add]) | (cases ad; rfl)
    rw [this]
    rcases OwnS.cases h with ⟨e1, rfl, rfl, _⟩ | ⟨g, off, cap, cur, e1, _⟩
    · injection e1 with e1 _ e3
      subst e1 e3
      obtain rfl : k = 0 := by omega
      exact Src.ofNil W Try.underlying84 0
    · injection e1 with e1 _ e3
      subst e1 e3
      have h2 := OwnS.head h hk
      rw [Nat.mul_one] at h2
      exact src_own Try.underlying84 h2 hone
  · have hone : ∀ u ∈ xs.drop k, u.oneCell' = true := fun u hu => h1 u (List.mem_of_mem_drop hu)
    have hl := OwnS.len h
    rw [Nat.mul_one] at hl
    unfold sliced
    rcases OwnS.cases h with ⟨e1, rfl, rfl, _⟩ | ⟨g, off, cap, cur, e1, _⟩
    · injection e1 with e1 _ e3
      subst e1 e3
      obtain rfl : k = 0 := by omega
      exact Src.ofNil W Try.underlying84 0
    · injection e1 with e1 _ e3
      subst e1 e3
      by_cases hc : c = k
      · obtain rfl : k = n := by omega
        rw [if_pos hc, Nat.sub_self, show xs.drop k = [] from List.drop_of_length_le (by omega)]
        exact Src.ofSlice W Try.underlying84 _ _ _ _ (by simp) (fun j u hj => by cases hj) (by intro u hu; cases hu)
      · rw [if_neg hc, Option.map_some]
        have h2 := OwnS.cut h hk
        rw [Nat.mul_one] at h2
        have h3 := src_own Try.underlying84 h2 hone
        rw [Nat.mul_one, addr_add]
        exact h3
set_option maxRecDepth 100000 in
set_option maxHeartbeats 8000000 in
theorem rm_Open {g : Nat} {cr mo : Int} {l : List (Nat × StM)} (id : Int) (hok : OkM cr mo l) (hs : Sat w0 w (RMx g cr mo l :: L)) :
    Calls Try.prog 28 #[.pointer (some ⟨g, 0, none⟩), .int .i64 id] w fun e w' => ∃ gs, e = .returned (.bool (openB mo l id)) ∧ Sat w0 w' (RMx g cr mo (openM cr mo l id gs) :: L) := by
  obtain ⟨a0, c0, _, _, h0⟩ := RMx.opn hs
  have k0 : w.cell? ⟨g, 0, none⟩ = some (.int .i64 cr) := h0.cell 0 rfl
  clear h0
  by_cases hid : 1 ≤ id ∧ id ≤ 65535
  · have HNew := hid_ (rst_New id cr hid.1 hid.2 hok.cr1 hok.cr2 hs)
    have hrise := hid_ hok.rise
    have hlen : l.length ≤ 64 := by have := hok.len; have := hok.mo2; omega
    have HID := hid_ hid
    clear hid hs hok
    go_enter Try.func28, Try.ntmps28
    go_wp2_with fail
    refine HNew.out.mono ?_
    rintro _ w1 ⟨gs, rfl, q1⟩
    have q1 := q1.swap
    obtain ⟨a, c, hc1, hc2, h1⟩ := RMx.opn q1
    unfold maxLen at hc2
    have HGet := fun j => rm_Get id (q1.drewN j)
    obtain ⟨n, hn⟩ : ∃ n, l.length = n := ⟨_, rfl⟩
    have HN := hid_ hn
    rw [hn] at h1 hc1 hlen
    have k1 : w1.cell? ⟨g, 1, none⟩ = some (.int .i64 mo) := h1.cell 1 rfl
    have k2 : w1.cell? ⟨g, 2, none⟩ = some (.slice a n c) := h1.cell 2 rfl
    clear HNew k0 hn
    cases hgm : getM l id with
    | some e =>
      have hB : openB mo l id = false := by unfold openB; rw [hgm]; simp
      have hM : openM cr mo l id gs = l := by unfold openM; rw [hB]; rfl
      rw [hgm] at HGet
      have HB := hid_ (And.intro hB hM)
      clear hB hM hgm
      go_wp2_with fail
      go_quiet ((go_at_call 27; exact quiet_same (HGet _)))
      go_wp2_with fail
      go_ret
      refine ⟨gs, by rw [HB.out.1]; rfl, ?_⟩
      rw [HB.out.2]
      exact (q1.drewN _).d2
    | none =>
      rw [hgm] at HGet
      have HGM := hid_ hgm
      clear hgm
      by_cases hfull : (n : Int) < mo
      case neg =>
        have hB : openB mo l id = false := by unfold openB; rw [HN.out]; simp [hfull]
        have hM : openM cr mo l id gs = l := by unfold openM; rw [hB]; rfl
        have z0 : decide (mo ≤ (n : Int)) = true := by simp; omega
        have HB := hid_ (And.intro hB hM)
        clear hB hM hfull
        go_wp2_with fail
        go_quiet ((go_at_call 27; exact quiet_same (HGet _)))
        go_wp2_with fail
        go_ret
        refine ⟨gs, by rw [HB.out.1]; rfl, ?_⟩
        rw [HB.out.2]
        exact (q1.drewN _).d2
      case pos =>
        have hB : openB mo l id = true := by unfold openB; rw [HN.out, HGM.out]; simp [hfull, HID.out.1, HID.out.2]
        have hM : openM cr mo l id gs = addM (gs, StM.new id cr) l := by unfold openM; rw [hB]; rfl
        have z0 : decide (mo ≤ (n : Int)) = false := by simp; omega
        have HB := hid_ (And.intro hB hM)
        clear hB hM hfull
        go_wp2_with fail
        go_quiet ((go_at_call 27; exact quiet_same (HGet _)))
        go_wp2_with fail
        obtain ⟨w2, hw2⟩ : ∃ w2, w1.drewN nq = w2 := ⟨_, rfl⟩
        have h2 := h1.drewN nq
        rw [hw2] at h2 ⊢
        clear hw2 h1 q1 k1 k2 HGet z0
        go_loopg [6] n (fun gg v6 wr => ∃ k : Nat, k ≤ n ∧ n - k ≤ gg ∧ v6 = .int .i64 k ∧ Hid (∀ e ∈ l.take k, e.2.id < id) ∧ Sat w0 wr (Blk g (.cells #[.int .i64 cr, .int .i64 mo, .slice a n c] 86 (0, 0)) :: OwnS 56 1 (.slice a n c) n (ptrC l) :: (rsP l ++ RSt gs (StM.new id cr) :: L)))
        case atStart => exact ⟨0, by omega, by omega, rfl, hid_ (by simp), h2⟩
        case round =>
          obtain ⟨k, hk, hgg, rfl, hlow, h3⟩ := hrel
          clear h2
          have k2 : wr.cell? ⟨g, 2, none⟩ = some (.slice a n c) := h3.cell 2 rfl
          by_cases hgo : ∃ e, l[k]? = some e ∧ e.2.id < id
          · obtain ⟨e, he, hel⟩ := hgo
            have hlt : k < n := by rw [← HN.out]; exact (List.getElem?_eq_some_iff.1 he).1
            obtain ⟨b, o, rfl, c1, d1⟩ := rm_at h3.drop he hlt
            have z1 : (k : Int) < (n : Int) := by omega
            have q2 : decide (e.2.id < id) = true := by simp; omega
            have HE := hid_ (And.intro he hel)
            clear he hel
            go_wp2_with fail
            go_roundg (n - (k + 1))
            case measure => omega
            case rel =>
              refine ⟨k + 1, by omega, by omega, by go_num, hid_ ?_, h3⟩
              intro y hy
              rw [List.take_add_one, HE.out.1] at hy
              simp only [Option.toList, List.mem_append, List.mem_singleton] at hy
              rcases hy with hy | rfl
              · exact hlow.out y hy
              · exact HE.out.2
          · go_upto_region 5 with fail
            go_cut [53] (fun v53 wx => v53 = .bool false ∧ wx = wr)
            case first =>
              by_cases hlt : k < n
              · obtain ⟨e, he⟩ : ∃ e, l[k]? = some e := ⟨_, List.getElem?_eq_getElem (by rw [HN.out]; exact hlt)⟩
                obtain ⟨b, o, rfl, c1, d1⟩ := rm_at h3.drop he hlt
                have z1 : (k : Int) < (n : Int) := by omega
                have q2 : decide (e.2.id < id) = false := by
                  have : ¬ e.2.id < id := fun h => hgo ⟨e, he, h⟩
                  simp; omega
                clear he hgo
                go_wp2_with fail
                go_meet
                exact ⟨rfl, rfl⟩
              · obtain rfl : k = n := by omega
                clear hgo
                go_wp2_with fail
                go_meet
                exact ⟨rfl, rfl⟩
            case rest =>
              obtain ⟨rfl, rfl⟩ := hcut
              have hcut2 := hid_ (add_cut (x := (gs, StM.new id cr)) hlow.out (fun e he => by
                have h1 : ¬ e.2.id < id := fun h => hgo ⟨e, he, h⟩
                have h2 : e.2.id ≠ id := fun h => by
                  have h4 := HGM.out
                  unfold getM at h4
                  rw [List.find?_eq_none] at h4
                  exact h4 e (List.mem_of_getElem? he) (by simp [h])
                show id < e.2.id
                omega))
              clear hgo
              obtain ⟨V1, V3, hV1, hV3, hT, hD⟩ := ptr_cuts (k := k) hk (fun u hu => by
                unfold ptrC at hu
                obtain ⟨e, _, rfl⟩ := List.mem_map.1 hu
                rfl) h3.drop
              go_upto_region 7 with fail
              have hA : Sat w0 wc.drew (OwnS 56 1 (.slice none 0 0) 0 [] :: Blk g (.cells #[.int .i64 cr, .int .i64 mo, .slice a n c] 86 (0, 0)) :: OwnS 56 1 (.slice a n c) n (ptrC l) :: (rsP l ++ RSt gs (StM.new id cr) :: L)) := OwnS.nilI h3.drew
              have hB : Sat w0 (wc.alloc (.cells #[.pointer (some ⟨gs, 0, none⟩)] 56 (0, 0))).drew (OwnS 56 1 (.slice none 0 0) 0 [] :: Blk wc.heap.size (.cells #[.pointer (some ⟨gs, 0, none⟩)] 56 (0, 0)) :: Blk g (.cells #[.int .i64 cr, .int .i64 mo, .slice a n c] 86 (0, 0)) :: OwnS 56 1 (.slice a n c) n (ptrC l) :: (rsP l ++ RSt gs (StM.new id cr) :: L)) := OwnS.nilI (h3.alloc (.cells #[.pointer (some ⟨gs, 0, none⟩)] 56 (0, 0))).drew
              have hTA := hT _ _ (Sat.front [_, _] hA)
              have hTB := hT _ _ (Sat.front [_, _, _] hB)
              have hD2 := fun (W : World) (U U2 : Assn) (h : Sat w0 W (U :: U2 :: Blk g (.cells #[.int .i64 cr, .int .i64 mo, .slice a n c] 86 (0, 0)) :: OwnS 56 1 (.slice a n c) n (ptrC l) :: (rsP l ++ RSt gs (StM.new id cr) :: L))) => hD _ _ (Sat.front [_, _, _] h)
              have b2 : wc.cell? ⟨g, 2, none⟩ = some (.slice a n c) := k2
              have b2y := (Sat.front [_, _] hB).cell 2 (v := .slice a n c) rfl
              have qn : k + 1 + (n - k) = n + 1 := by omega
              have HP := hid_ (show ptrC (l.take k ++ (gs, StM.new id cr) :: l.drop k) = (ptrC l).take k ++ [.pointer (some ⟨gs, 0, none⟩)] ++ (ptrC l).drop k by unfold ptrC; simp)
              clear hT hD k2
              go_region_law (first
                | (refine step_append_p (w0 := w0) (v := .slice none 0 0) (us := []) (xs := (ptrC l).take k) (r := (ptrC l).take k) (n := 0) (m := k) (q := k) rfl _ _ rfl rfl hA rfl hTA (by omega) (by simp) (by omega) ?_; intro a5 c5 w5 h5; have b2' := (Sat.front [_] h5).cell 2 (v := .slice a n c) rfl; have h5z := (h5.alloc (.cells #[.pointer (some ⟨gs, 0, none⟩)] 56 (0, 0))).swap; have b2z := (Sat.front [_, _] h5z).cell 2 (v := .slice a n c) rfl)
                | (refine step_append_p (w0 := w0) (v := .slice none 0 0) (us := []) (xs := (ptrC l).take k) (r := (ptrC l).take k) (n := 0) (m := k) (q := k) rfl _ _ rfl rfl hB rfl hTB (by omega) (by simp) (by omega) ?_; intro a5 c5 w5 h5; have b2' := (Sat.front [_, _] h5).cell 2 (v := .slice a n c) rfl)
                | (refine step_append_p (w0 := w0) (v := .slice a5 k c5) (us := (ptrC l).take k) (xs := [.pointer (some ⟨gs, 0, none⟩)]) (r := (ptrC l).take k ++ [.pointer (some ⟨gs, 0, none⟩)]) (n := k) (m := 1) (q := k + 1) rfl _ _ rfl rfl h5z rfl (src_blk Try.underlying84 (Sat.blk h5z.swap).1 rfl (by intro u hu; simp at hu; subst hu; rfl)) (by omega) rfl (by omega) ?_; intro a6 c6 w6 h6; have b2' := (Sat.front [_, _] h6).cell 2 (v := .slice a n c) rfl)
                | (refine step_append_p (w0 := w0) (v := .slice a5 k c5) (us := (ptrC l).take k) (xs := [.pointer (some ⟨gs, 0, none⟩)]) (r := (ptrC l).take k ++ [.pointer (some ⟨gs, 0, none⟩)]) (n := k) (m := 1) (q := k + 1) rfl _ _ rfl rfl h5 rfl (src_blk Try.underlying84 (Sat.blk h5.swap).1 rfl (by intro u hu; simp at hu; subst hu; rfl)) (by omega) rfl (by omega) ?_; intro a6 c6 w6 h6; have b2' := (Sat.front [_, _] h6).cell 2 (v := .slice a n c) rfl)
                | (refine step_append_p (w0 := w0) (v := .slice a6 (k + 1) c6) (us := (ptrC l).take k ++ [.pointer (some ⟨gs, 0, none⟩)]) (xs := (ptrC l).drop k) (r := (ptrC l).take k ++ [.pointer (some ⟨gs, 0, none⟩)] ++ (ptrC l).drop k) (n := k + 1) (m := n - k) (q := n + 1) rfl _ _ rfl rfl h6 rfl (hD2 _ _ _ h6) (by omega) rfl (by omega) ?_; intro a7 c7 w7 h7; have b2' := (Sat.front [_, _] h7).cell 2 (v := .slice a n c) rfl; have f2' := (Sat.front [_, _] h7).frozen 2; have h8 := (Sat.front [_, _] h7).set 2 (.slice a7 (n + 1) c7)))
              all_goals
                go_wp2_with fail
                go_ret
                refine ⟨gs, by rw [HB.out.1]; rfl, ?_⟩
                rw [HB.out.2, hcut2.out]
                simp only [List.setIfInBounds_toArray, List.set_cons_succ, List.set_cons_zero] at h8
                refine RMx.shut (v := .slice a7 (n + 1) c7) ?_
                rw [HP.out, show (l.take k ++ (gs, StM.new id cr) :: l.drop k).length = n + 1 by rw [List.length_append, List.length_cons, List.length_take, List.length_drop, HN.out]; omega]
                have h9 := Sat.drop (Sat.front [_, _] h8)
                have h10 := Sat.drop (Sat.front [_, _] h9)
                rw [rsP_app, show rsP ((gs, StM.new id cr) :: l.drop k) = RSt gs (StM.new id cr) :: rsP (l.drop k) from rfl]
                have e9 : rsP l = rsP (l.take k) ++ rsP (l.drop k) := by rw [← rsP_app, List.take_append_drop]
                rw [e9] at h10
                have h11 := Sat.front (Blk g (.cells #[.int .i64 cr, .int .i64 mo, .slice a7 (n + 1) c7] 86 (0, 0)) :: OwnS 56 1 (.slice a7 (n + 1) c7) (n + 1) ((ptrC l).take k ++ [.pointer (some ⟨gs, 0, none⟩)] ++ (ptrC l).drop k) :: (rsP (l.take k) ++ rsP (l.drop k))) (A := RSt gs (StM.new id cr)) (L2 := L) (by simpa only [List.cons_append, List.append_assoc, List.nil_append] using h10)
                have h12 := Sat.back (Blk g (.cells #[.int .i64 cr, .int .i64 mo, .slice a7 (n + 1) c7] 86 (0, 0)) :: OwnS 56 1 (.slice a7 (n + 1) c7) (n + 1) ((ptrC l).take k ++ [.pointer (some ⟨gs, 0, none⟩)] ++ (ptrC l).drop k) :: rsP (l.take k)) (A := RSt gs (StM.new id cr)) (L2 := rsP (l.drop k) ++ L) (by simpa only [List.cons_append, List.append_assoc, List.nil_append] using h11)
                simpa only [List.cons_append, List.append_assoc, List.nil_append] using h12
  · have hbad : id < 1 ∨ 65535 < id := by omega
    have HNew := hid_ (rst_New_no (w := w) id cr (by omega))
    have hB : openB mo l id = false := by
      unfold openB
      rcases hbad with h | h
      · rw [show decide (1 ≤ id) = false by simp; omega]; simp
      · rw [show decide (id ≤ 65535) = false by simp; omega]; simp
    have hM : openM cr mo l id 0 = l := by unfold openM; rw [hB]; rfl
    have HB := hid_ (And.intro hB hM)
    clear hB hM hbad hid
    go_enter Try.func28, Try.ntmps28
    go_wp2_with fail
    refine HNew.out.mono ?_
    rintro _ _ ⟨rfl, rfl⟩
    go_wp2_with fail
    go_quiet (fail)
    go_wp2_with fail
    go_ret
    refine ⟨0, by rw [HB.out.1]; rfl, ?_⟩
    rw [HB.out.2]
    exact hs.drewN _
end
end Go.Proofs.Ytkejadhkebjdcaa
