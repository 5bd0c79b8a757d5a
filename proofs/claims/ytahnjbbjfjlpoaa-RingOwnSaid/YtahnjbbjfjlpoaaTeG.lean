/- ring.New, walked. -/
import Derived.BigQuiet
import Derived.Deep.DeepCutAuto
import Derived.Test.YtahnjbbjfjlpoaaTeF
namespace Go.Proofs.Ytahnjbbjfjlpoaa
open Go Go.RowKit Go.Shelf
set_option linter.unusedVariables false
set_option linter.unusedSimpArgs false

/-- Tenants that make a ring. -/
def okT (ts : List TenM) : Prop := ts.length ≤ 16 ∧ (∀ t ∈ ts, t.may = true) ∧ (ts.map (·.id)).Nodup
theorem OwnS.ofRow {w w' : World} {e : TypeId} {sz n : Nat} {v : Value} {xs : List Value} (hb : Below w.heap.size w w') (h : w'.ownsRow w.heap.size e sz v n xs) : Sat w w' [OwnS e sz v n xs] := by
  refine ⟨hb, ?_⟩
  rcases h.2 with ⟨rfl, rfl⟩ | ⟨g, cap, cur, rfl, h1, hg, h2, h3, h4, h5⟩
  · exact ⟨fun _ => none, ⟨h.1, .inl ⟨rfl, rfl⟩⟩, by simp, trivial⟩
  · refine ⟨fun k => if k = g then some (.cells cur e (0, 0)) else none, ⟨h.1, .inr ⟨g, 0, cap, cur, rfl, by simp, h2, h3, by omega, by simpa using h5⟩⟩, fun k o hk => ?_, trivial⟩
    by_cases hkg : k = g
    · subst hkg
      simp at hk
      rw [← hk]
      exact ⟨hg, fun hlt => by have : k < w.heap.size := hlt; omega⟩
    · simp [hkg] at hk
section
variable {w0 w : World} {L : List Assn}
theorem Sat.d3 {A B C : Assn} (h : Sat w0 w (A :: B :: C :: L)) : Sat w0 w (A :: B :: L) := by
  have h1 := (Sat.front [A, B] (h : Sat w0 w ([A, B] ++ C :: L))).drop
  exact h1
theorem own_cell4 {e : TypeId} {n b off cap : Nat} {xs : List Value} (h : Sat w0 w (OwnS e 4 (.slice (some ⟨b, off, none⟩) n cap) n xs :: L)) (hn : 0 < n) {i k : Nat} {u : Value} (hk : xs[i * 4 + k]? = some u) : w.cell? ⟨b, off + i * 4 + k, none⟩ = some u := by
  obtain ⟨b', o', c', he, _, _, hc, _⟩ := OwnS.cells h hn
  injection he with he _ _
  injection he with he
  injection he with e1 e2
  subst e1 e2
  rw [Nat.add_assoc]
  exact hc _ u hk
/-- One tenant more, in a region that draws its order. -/
theorem step_append_te {ops : Array Oper} {o : Oper} {a : Act} {K : Act → World → Prop} {Q : Exit → Act → World → Prop} (hgd : o.guard = none) (s x : Operand)
    (ho : o.op = .call { callee := .builtin .append, args := #[s, x], argTypes := #[22, 22] })
    {v : Value} {l : List TenM} {u : TenV} {g c n : Nat} (hl : l.length = n) (hv : a.eval s = v) (hs : Sat w0 w (OwnL 28 4 TeE v l :: TeO u :: L)) (hx : a.eval x = .slice (some ⟨g, 0, none⟩) 1 c)
    (hb : w.heap[g]? = some (.cells u.c.toArray 28 (0, 0))) (hn : n < 1000)
    (h : ∀ a' c' w', Sat w0 w' (OwnL 28 4 TeE (.slice a' (n + 1) c') (l ++ [u.t]) :: L) → K (a.put o.dst (.slice a' (n + 1) c')) w') :
    if Region.wanted o (yielded ops a.tmps) = true then o.wp Try.prog a w K Q else K (a.put o.dst undef) w := by
  subst hl
  obtain ⟨i0, hi, hz0, hz1, hz2⟩ := info_te
  refine step_append_one hgd s x 22 22 ho Try.underlying22 hi hz0 hz1 hz2 rfl (El := TeE) u.t (cs := u.c) hv (Sat.swap (hs.swap.imp (fun _ hh => ⟨u, ⟨rfl, rfl⟩, hh⟩))) hx ?_ (by simp only [maxLen]; omega) (by omega) h
  exact src_blk Try.underlying22 hb rfl u.c_one
set_option maxRecDepth 100000 in
set_option maxHeartbeats 1000000 in
theorem own_call (v : TenV) (hm : v.t.may = true) (hv : v.rd w) :
    Calls Try.prog 27 #[.agg #[.int .i64 v.t.id, .slice v.kx v.t.key.length v.kc, .int .i64 v.t.streams, .slice v.rx v.t.rules.length v.rc]] w fun e w' => ∃ kx kc rx rc, e = .returned (.agg #[.int .i64 v.t.id, .slice kx v.t.key.length kc, .int .i64 v.t.streams, .slice rx v.t.rules.length rc]) ∧ Sat w w' [TeO ⟨v.t, kx, kc, rx, rc⟩] := by
  obtain ⟨_, _, h1, h2, h3⟩ := TenM.may_at hm
  refine (ring_own v hv (by omega) (by omega) (fun r hr => by have := RuleM.may_len (h3 r hr); omega)).mono ?_
  rintro _ w' ⟨⟨t, kx, kc, rx, rc⟩, rfl, rfl, h⟩
  exact ⟨kx, kc, rx, rc, rfl, h⟩
theorem pw_succ {us : List TenV} {k : Nat} {v : TenV} (hs : us.Pairwise (fun x y => x.t.id ≤ y.t.id)) (hv : us[k]? = some v) (hp : (us.take k).Pairwise (fun x y => x.t.id < y.t.id))
    (h : k = 0 ∨ ∃ j p, k = j + 1 ∧ us[j]? = some p ∧ p.t.id ≠ v.t.id) : (us.take (k + 1)).Pairwise (fun x y => x.t.id < y.t.id) := by
  rw [List.take_add_one, hv, Option.toList_some]
  refine List.pairwise_append.2 ⟨hp, List.pairwise_singleton _ _, fun x hx y hy => ?_⟩
  rw [List.mem_singleton] at hy
  subst hy
  obtain ⟨i, hi, rfl⟩ := List.getElem_of_mem hx
  rw [List.length_take] at hi
  rw [List.getElem_take]
  rcases h with rfl | ⟨j, p, rfl, hj, hne⟩
  · omega
  · obtain ⟨hjl, hj⟩ := List.getElem?_eq_some_iff.1 hj
    obtain ⟨hkl, hk⟩ := List.getElem?_eq_some_iff.1 hv
    rw [List.pairwise_iff_getElem] at hs
    have h1 := hs j (j + 1) hjl hkl (by omega)
    rw [hj, hk] at h1
    by_cases hij : i = j
    · subst hij
      rw [hj]
      omega
    · have h2 := hs i j (by omega) hjl (by omega)
      rw [hj] at h2
      omega
theorem not_ok {us vs : List TenV} (hp : us.Perm vs) {j k : Nat} {p v : TenV} (hj : us[j]? = some p) (hk : us[k]? = some v) (hjk : j < k) (he : p.t.id = v.t.id) : ¬ okT (vs.map (·.t)) := by
  rintro ⟨_, _, hn⟩
  rw [List.map_map] at hn
  have h1 : (us.map (fun v => v.t.id)).Nodup := (hp.map _).nodup_iff.2 hn
  unfold List.Nodup at h1
  rw [List.pairwise_iff_getElem] at h1
  obtain ⟨hjl, hj⟩ := List.getElem?_eq_some_iff.1 hj
  obtain ⟨hkl, hk⟩ := List.getElem?_eq_some_iff.1 hk
  have := h1 j k (by simpa using hjl) (by simpa using hkl) hjk
  simp only [List.getElem_map, hj, hk] at this
  exact this he
/-- What New answers. -/
def NewOk (w : World) (ts : List TenM) (e : Ending) (w' : World) : Prop := Below w.heap.size w w' ∧
  ((¬ okT ts ∧ e = .returned (.tuple #[.pointer none, .int .i64 1])) ∨
   (okT ts ∧ ∃ (r : Nat) (us : List TenM), w.heap.size ≤ r ∧ e = .returned (.tuple #[.pointer (some ⟨r, 0, none⟩), .int .i64 0]) ∧ RdRing w' r us ∧ us.Perm ts ∧ us.Pairwise (fun x y => x.id < y.id)))
set_option maxRecDepth 100000 in
set_option maxHeartbeats 8000000 in
theorem ring_New (la : Option Addr) (cap : Nat) (vs : List TenV) (hr : RowT w la cap vs) (hv : ∀ v ∈ vs, v.rd w) : Calls Try.prog 11 #[.slice la vs.length cap] w (NewOk w (vs.map (·.t))) := by
  have hcap := hr.cap
  have hle := hr.le
  unfold maxLen at hcap
  have hcon := tenants_contains la cap vs hr hv
  obtain ⟨n, hn⟩ : ∃ n, vs.length = n := ⟨_, rfl⟩
  have HN := hid_ hn
  rw [hn] at hle hcon ⊢
  by_cases h16 : 16 < n
  · have E := hid_ (show ¬ okT (vs.map (·.t)) by rintro ⟨h, _⟩; rw [List.length_map] at h; omega)
    have q : decide ((16 : Int) < (n : Int)) = true := by simp; omega
    clear hn hcon
    go_enter Try.func11, Try.ntmps11
    go_wp2_with fail
    go_ret2
    exact ⟨Below.refl _ _, .inl ⟨E.out, rfl⟩⟩
  have q : decide ((16 : Int) < (n : Int)) = false := by simp; omega
  cases hma : mayAll vs
  · rw [hma] at hcon
    have E := hid_ (show ¬ okT (vs.map (·.t)) by
      rintro ⟨_, h, _⟩
      have : mayAll vs = true := List.all_eq_true.2 (fun v hv => h _ (List.mem_map_of_mem hv))
      rw [hma] at this
      cases this)
    clear hn hma
    go_enter Try.func11, Try.ntmps11
    go_wp2_with fail
    refine hcon.mono ?_
    rintro _ w1 ⟨rfl, h1⟩
    go_wp2_with fail
    go_ret2
    exact ⟨h1, .inl ⟨E.out, rfl⟩⟩
  rw [hma] at hcon
  have hall : ∀ v ∈ vs, v.t.may = true := List.all_eq_true.1 hma
  have HALL := hid_ hall
  have H16 := hid_ h16
  clear hn hma hall h16
  go_enter Try.func11, Try.ntmps11
  go_wp2_with fail
  refine hcon.mono ?_
  rintro _ w1 ⟨rfl, hb1⟩
  have s1 := (((Sat.refl w).under hb1).alloc (.cells #[.slice none 0 0] 52 (0, 0)))
  obtain ⟨R, hR⟩ : ∃ R, w1.heap.size = R := ⟨_, rfl⟩
  rw [hR] at s1
  have HR := hid_ hR
  have hwR : w.heap.size ≤ R := by rw [← hR]; exact hb1.size
  have hvals := values_in la n cap (w1.alloc (.cells #[.slice none 0 0] 52 (0, 0)))
  rw [World.size_alloc, hR] at hvals
  clear hcon q
  go_upto_region 4 with fail
  go_wp2_with fail
  refine hvals.mono ?_
  rintro _ w2 ⟨rfl, hw2⟩
  have s2 := s1.alloc (.cells #[.slice la n cap] 22 (0, 0))
  rw [← hw2] at s2
  rw [World.size_alloc, hR] at s2
  have hBv : R + 1 < w2.heap.size := s2.lt
  have hsort := sorted_vals (w0 := w) (w := w2) la cap vs hr (by have := H16.out; have := HN.out; omega) (R + 1) s2.below hBv (by rw [HN.out]; exact s2.cell 0 rfl)
  rw [HN.out] at hsort
  clear hvals hw2 hBv hR
  go_wp2_with fail
  refine hsort.mono ?_
  rintro _ w3 ⟨sa, sc, us, rfl, hb3, hrow, hus, hsd⟩
  have s3 := (s2.drop).trans (OwnS.ofRow hb3 hrow)
  have hul : us.length = n := by rw [hus.length_eq, HN.out]
  have HUL := hid_ hul
  have HUS := hid_ hus
  have HSD := hid_ hsd
  obtain ⟨sa', sc', hes, hsc, hscm⟩ := OwnS.form s3
  injection hes with e1 e2 e3
  clear e1 e2
  subst e3
  unfold maxLen at hscm
  have s4 := Sat.swap s3
  have s5 : Sat w w3 [Blk R (.cells #[.slice none 0 0] 52 (0, 0)), OwnL 28 4 TeE (.slice none 0 0) ((us.take 0).map (·.t)), OwnS 28 4 (.slice sa n sc) n (flatT us)] := Sat.swap (OwnL.nilI s4)
  clear hsort hb3 hrow hus hsd s1 s2 s3 s4 hb1 hul
  go_wp2_with fail
  go_loopg [6, 7, 21] n (fun gg _ _ v21 wr => ∃ (k : Nat) (a : Option Addr) (c : Nat), k ≤ n ∧ n - k ≤ gg ∧ v21 = .int .i64 k ∧ Hid ((us.take k).Pairwise (fun x y => x.t.id < y.t.id)) ∧
    Sat w wr [Blk R (.cells #[.slice a k c] 52 (0, 0)), OwnL 28 4 TeE (.slice a k c) ((us.take k).map (·.t)), OwnS 28 4 (.slice sa n sc) n (flatT us)])
  case atStart => exact ⟨0, none, 0, Nat.zero_le _, by omega, rfl, hid_ List.Pairwise.nil, s5⟩
  case round =>
    obtain ⟨k, a, c, hk, hgg, rfl, hpw, h1⟩ := hrel
    clear s5
    by_cases hlt : k < n
    · obtain ⟨v, hvk⟩ : ∃ v, us[k]? = some v := ⟨_, List.getElem?_eq_getElem (by rw [HUL.out]; exact hlt)⟩
      have hmem : v ∈ vs := HUS.out.mem_iff.1 (List.mem_of_getElem? hvk)
      have hvm := HALL.out v hmem
      have hvr := (hv v hmem).mono h1.below
      have hrow := Sat.front [_, _] h1
      obtain ⟨b, off, cap', he, hbge, hblt, _, _⟩ := OwnS.cells hrow (by omega)
      injection he with e1 e2 e3
      clear e2
      subst e1 e3
      have c0 : wr.cell? ⟨b, off + k * 4, none⟩ = some (.int .i64 v.t.id) := own_cell4 (i := k) (k := 0) hrow (by omega) ((flatT_get hvk (by decide)).trans rfl)
      have c1 : wr.cell? ⟨b, off + k * 4 + 1, none⟩ = some (.slice v.kx v.t.key.length v.kc) := own_cell4 (i := k) (k := 1) hrow (by omega) ((flatT_get hvk (by decide)).trans rfl)
      have c2 : wr.cell? ⟨b, off + k * 4 + 2, none⟩ = some (.int .i64 v.t.streams) := own_cell4 (i := k) (k := 2) hrow (by omega) ((flatT_get hvk (by decide)).trans rfl)
      have c3 : wr.cell? ⟨b, off + k * 4 + 3, none⟩ = some (.slice v.rx v.t.rules.length v.rc) := own_cell4 (i := k) (k := 3) hrow (by omega) ((flatT_get hvk (by decide)).trans rfl)
      have h2 := h1.alloc (.cells #[.int .i64 v.t.id, .slice v.kx v.t.key.length v.kc, .int .i64 v.t.streams, .slice v.rx v.t.rules.length v.rc] 28 (0, 0))
      obtain ⟨bt, hbt⟩ : ∃ bt, wr.heap.size = bt := ⟨_, rfl⟩
      rw [hbt] at h2
      obtain ⟨wa, hwa⟩ : ∃ wa, wr.alloc (.cells #[.int .i64 v.t.id, .slice v.kx v.t.key.length v.kc, .int .i64 v.t.streams, .slice v.rx v.t.rules.length v.rc] 28 (0, 0)) = wa := ⟨_, rfl⟩
      have HWA := hid_ hwa
      rw [hwa] at h2
      have cR := (Sat.swap h2).cell 0 (v := .slice a k c) rfl
      have ct0 := h2.cell 0 (v := .int .i64 v.t.id) rfl
      have z1 : 0 ≤ (k : Int) ∧ (k : Int) < (n : Int) := by omega
      have HVK := hid_ hvk
      clear hvk hrow
      have hkl : ((us.take k).map (·.t)).length = k := by rw [List.length_map, List.length_take, HUL.out]; omega
      rcases Nat.eq_zero_or_pos k with hk0 | hk0
      · have q : decide (0 < k) = false := by simp; omega
        have HK0 := hid_ hk0
        clear hk0
        go_upto_region 8 with fail
        go_quiet (fail)
        go_wp2_with fail
        have hown : ∀ W, Below w.heap.size w W → Calls Try.prog 27 #[.agg #[.int .i64 v.t.id, .slice v.kx v.t.key.length v.kc, .int .i64 v.t.streams, .slice v.rx v.t.rules.length v.rc]] W fun e w' => ∃ kx kc rx rc, e = .returned (.agg #[.int .i64 v.t.id, .slice kx v.t.key.length kc, .int .i64 v.t.streams, .slice rx v.t.rules.length rc]) ∧ Sat W w' [TeO ⟨v.t, kx, kc, rx, rc⟩] := fun W hb => own_call v hvm ((hv v hmem).mono hb)
        have t0 := h2.drewN (nq + 1)
        have d0 := h2.cell 0 (v := .int .i64 v.t.id) rfl
        have d1 := h2.cell 1 (v := .slice v.kx v.t.key.length v.kc) rfl
        have d2 := h2.cell 2 (v := .int .i64 v.t.streams) rfl
        have d3 := h2.cell 3 (v := .slice v.rx v.t.rules.length v.rc) rfl
        have dR := (Sat.swap h2).cell 0 (v := .slice a k c) rfl
        have hk1000 : k < 1000 := by have := H16.out; omega
        clear cR ct0 q z1
        go_region_law (first
          | (refine step_append_te (w0 := w) (v := .slice a k c) (u := ⟨v.t, kx4, kc4, rx4, rc4⟩) (l := (us.take k).map (·.t)) (n := k) rfl _ _ rfl hkl rfl h5r rfl (Sat.blk h5).1 hk1000 ?_; intro a6 c6 w6 h6; have cR6 := (Sat.front [_, _] h6).cell 0 (v := .slice a k c) rfl; have fR6 := (Sat.front [_, _] h6).frozen 0)
          | (go_simp; go_at_call 27; refine (hown _ t0.below).mono ?_; rintro _ w4 ⟨kx4, kc4, rx4, rc4, rfl, hS4⟩; have h4 := t0.trans hS4; have d0' := (Sat.swap h4).cell 0 (v := .int .i64 v.t.id) rfl; have dR' := (Sat.front [_, _] h4).cell 0 (v := .slice a k c) rfl; have h5 := h4.alloc (.cells #[.int .i64 v.t.id, .slice kx4 v.t.key.length kc4, .int .i64 v.t.streams, .slice rx4 v.t.rules.length rc4] 28 (0, 0)); have dR5 := (Sat.front [_, _, _] h5).cell 0 (v := .slice a k c) rfl; have h5r : Sat w (w4.alloc (.cells #[.int .i64 v.t.id, .slice kx4 v.t.key.length kc4, .int .i64 v.t.streams, .slice rx4 v.t.rules.length rc4] 28 (0, 0))) (OwnL 28 4 TeE (.slice a k c) ((us.take k).map (·.t)) :: TeO ⟨v.t, kx4, kc4, rx4, rc4⟩ :: [Blk bt (.cells #[.int .i64 v.t.id, .slice v.kx v.t.key.length v.kc, .int .i64 v.t.streams, .slice v.rx v.t.rules.length v.rc] 28 (0, 0)), Blk R (.cells #[.slice a k c] 52 (0, 0)), OwnS 28 4 (.slice (some ⟨b, off, none⟩) n sc) n (flatT us)]) := Sat.re [3, 0, 1, 2, 4] [_, _, _, _, _] h5.drop))
        all_goals
          go_wp2_with fail
          go_roundg (n - (k + 1))
          case measure => omega
          case rel =>
            have h7 := (Sat.front [_, _] h6).set 0 (.slice a6 (k + 1) c6)
            simp only [List.setIfInBounds_toArray, List.set_cons_zero] at h7
            have e9 : (us.take (k + 1)).map (·.t) = (us.take k).map (·.t) ++ [v.t] := by rw [List.take_add_one, HVK.out]; simp
            refine ⟨k + 1, a6, c6, by omega, by omega, by go_num, hid_ (pw_succ HSD.out HVK.out hpw.out (.inl HK0.out)), ?_⟩
            rw [e9]
            exact Sat.drop (Sat.front [_, _] h7)
      · obtain ⟨j, hj⟩ : ∃ j, k = j + 1 := ⟨k - 1, by omega⟩
        obtain ⟨p, hp⟩ : ∃ p, us[j]? = some p := ⟨_, List.getElem?_eq_getElem (by rw [HUL.out]; omega)⟩
        have hpj : ((us.take k).map (·.t))[j]? = some p.t := by rw [List.getElem?_map, List.getElem?_take, if_pos (by omega), hp]; rfl
        obtain ⟨b2, off2, cap2, cs, L', he2, hb2, hcl, hcell, h6⟩ := OwnL.at (Sat.swap (Sat.drop h2)) hpj
        injection he2 with e1 e2 e3
        clear e2
        subst e1 e3
        obtain ⟨u, hut, rfl, _⟩ := TeE.opn h6
        have cp0 : wa.cell? ⟨b2, off2 + j * 4, none⟩ = some (.int .i64 p.t.id) := by rw [← hut]; exact hcell 0 _ rfl
        have q : decide (0 < k) = true := by simp; omega
        have E1 : IntKind.i64.wrap ((k : Int) - 1) = (j : Int) := by rw [IntWalk.i64_in _ (by omega)]; omega
        have z2 : 0 ≤ (j : Int) ∧ (j : Int) < (k : Int) := by omega
        have HJ := hid_ hj
        have HP := hid_ hp
        clear hk0 hj hp hpj hcell h6
        by_cases hid2 : p.t.id = v.t.id
        · have qi : (p.t.id == v.t.id) = true := by simp [hid2]
          have HI := hid_ hid2
          clear hid2
          go_upto_region 8 with fail
          go_quiet (fail)
          go_wp2_with fail
          go_ret2
          exact ⟨(h2.drewN nq).below, .inl ⟨not_ok HUS.out HP.out HVK.out (by have := HJ.out; omega) HI.out, rfl⟩⟩
        · have qi : (p.t.id == v.t.id) = false := by simp [hid2]
          have HI := hid_ hid2
          clear hid2
          go_upto_region 8 with fail
          go_quiet (fail)
          go_wp2_with fail
          have hown : ∀ W, Below w.heap.size w W → Calls Try.prog 27 #[.agg #[.int .i64 v.t.id, .slice v.kx v.t.key.length v.kc, .int .i64 v.t.streams, .slice v.rx v.t.rules.length v.rc]] W fun e w' => ∃ kx kc rx rc, e = .returned (.agg #[.int .i64 v.t.id, .slice kx v.t.key.length kc, .int .i64 v.t.streams, .slice rx v.t.rules.length rc]) ∧ Sat W w' [TeO ⟨v.t, kx, kc, rx, rc⟩] := fun W hb => own_call v hvm ((hv v hmem).mono hb)
          have t0 := h2.drewN (nq + 1)
          have d0 := h2.cell 0 (v := .int .i64 v.t.id) rfl
          have d1 := h2.cell 1 (v := .slice v.kx v.t.key.length v.kc) rfl
          have d2 := h2.cell 2 (v := .int .i64 v.t.streams) rfl
          have d3 := h2.cell 3 (v := .slice v.rx v.t.rules.length v.rc) rfl
          have dR := (Sat.swap h2).cell 0 (v := .slice (some ⟨b2, off2, none⟩) k c) rfl
          have hk1000 : k < 1000 := by have := H16.out; omega
          clear cR ct0 q z1 E1 z2 qi cp0
          go_region_law (first
            | (refine step_append_te (w0 := w) (v := .slice (some ⟨b2, off2, none⟩) k c) (u := ⟨v.t, kx4, kc4, rx4, rc4⟩) (l := (us.take k).map (·.t)) (n := k) rfl _ _ rfl hkl rfl h5r rfl (Sat.blk h5).1 hk1000 ?_; intro a6 c6 w6 h6; have cR6 := (Sat.front [_, _] h6).cell 0 (v := .slice (some ⟨b2, off2, none⟩) k c) rfl; have fR6 := (Sat.front [_, _] h6).frozen 0)
            | (go_simp; go_at_call 27; refine (hown _ t0.below).mono ?_; rintro _ w4 ⟨kx4, kc4, rx4, rc4, rfl, hS4⟩; have h4 := t0.trans hS4; have d0' := (Sat.swap h4).cell 0 (v := .int .i64 v.t.id) rfl; have dR' := (Sat.front [_, _] h4).cell 0 (v := .slice (some ⟨b2, off2, none⟩) k c) rfl; have h5 := h4.alloc (.cells #[.int .i64 v.t.id, .slice kx4 v.t.key.length kc4, .int .i64 v.t.streams, .slice rx4 v.t.rules.length rc4] 28 (0, 0)); have dR5 := (Sat.front [_, _, _] h5).cell 0 (v := .slice (some ⟨b2, off2, none⟩) k c) rfl; have h5r : Sat w (w4.alloc (.cells #[.int .i64 v.t.id, .slice kx4 v.t.key.length kc4, .int .i64 v.t.streams, .slice rx4 v.t.rules.length rc4] 28 (0, 0))) (OwnL 28 4 TeE (.slice (some ⟨b2, off2, none⟩) k c) ((us.take k).map (·.t)) :: TeO ⟨v.t, kx4, kc4, rx4, rc4⟩ :: [Blk bt (.cells #[.int .i64 v.t.id, .slice v.kx v.t.key.length v.kc, .int .i64 v.t.streams, .slice v.rx v.t.rules.length v.rc] 28 (0, 0)), Blk R (.cells #[.slice (some ⟨b2, off2, none⟩) k c] 52 (0, 0)), OwnS 28 4 (.slice (some ⟨b, off, none⟩) n sc) n (flatT us)]) := Sat.re [3, 0, 1, 2, 4] [_, _, _, _, _] h5.drop))
          all_goals
            go_wp2_with fail
            go_roundg (n - (k + 1))
            case measure => omega
            case rel =>
              have h7 := (Sat.front [_, _] h6).set 0 (.slice a6 (k + 1) c6)
              simp only [List.setIfInBounds_toArray, List.set_cons_zero] at h7
              have e9 : (us.take (k + 1)).map (·.t) = (us.take k).map (·.t) ++ [v.t] := by rw [List.take_add_one, HVK.out]; simp
              refine ⟨k + 1, a6, c6, by omega, by omega, by go_num, hid_ (pw_succ HSD.out HVK.out hpw.out (.inr ⟨j, p, HJ.out, HP.out, HI.out⟩)), ?_⟩
              rw [e9]
              exact Sat.drop (Sat.front [_, _] h7)
    · obtain rfl : k = n := by omega
      go_wp2_with fail
      go_ret2
      have e9 : us.take k = us := List.take_of_length_le (by rw [HUL.out]; exact Nat.le_refl _)
      have hpw2 := hpw.out
      rw [e9] at hpw2
      rw [e9] at h1
      have hlen : (us.map (·.t)).length = k := by rw [List.length_map, HUL.out]
      refine ⟨h1.below, .inr ⟨⟨?_, ?_, ?_⟩, R, us.map (·.t), hwR, rfl, ?_, HUS.out.map _, ?_⟩⟩
      · rw [List.length_map, HN.out]
        have := H16.out
        omega
      · intro t ht
        obtain ⟨v, hv2, rfl⟩ := List.mem_map.1 ht
        exact HALL.out v hv2
      · rw [List.map_map]
        refine (HUS.out.map _).nodup_iff.1 ?_
        unfold List.Nodup
        rw [List.pairwise_map]
        exact hpw2.imp (fun {a b} h => by simp only [Function.comp]; omega)
      · exact RdRing.of (a := a) (cap := c) (by rw [hlen]; exact h1)
      · rw [List.pairwise_map]
        exact hpw2
end
end Go.Proofs.Ytahnjbbjfjlpoaa
