/- Rows of tenants, cut and appended; the law RingOrder, walked. -/
import Derived.Deep.RegionLaw
import Derived.Test.YtahnjbbjfjlpoaaTeK
import Derived.Test.YtahnjbbjfjlpoaaTeM
import Derived.Test.YtahnjbbjfjlpoaaOpT
namespace Go.Proofs.Ytahnjbbjfjlpoaa
open Go Go.RowKit Go.Shelf
set_option linter.unusedVariables false
set_option linter.unusedSimpArgs false

theorem flatT_app (a b : List TenV) : flatT (a ++ b) = flatT a ++ flatT b := by simp [flatT]
theorem flatT_one (a : List TenV) : ∀ u ∈ flatT a, u.oneCell' = true := by
  intro u hu
  obtain ⟨v, _, h⟩ := List.mem_flatMap.1 hu
  exact v.c_one u h
theorem okT_perm {a b : List TenM} (h : a.Perm b) : okT a ↔ okT b := by
  unfold okT
  rw [h.length_eq, (h.map (·.id)).nodup_iff]
  constructor
  · rintro ⟨h1, h2, h3⟩
    exact ⟨h1, fun t ht => h2 t (h.mem_iff.2 ht), h3⟩
  · rintro ⟨h1, h2, h3⟩
    exact ⟨h1, fun t ht => h2 t (h.mem_iff.1 ht), h3⟩
theorem okT_twice {a : List TenM} {t : TenM} (h : t ∈ a) : ¬ okT (a ++ [t]) := by
  rintro ⟨_, _, hn⟩
  rw [List.map_append, List.nodup_append] at hn
  obtain ⟨_, _, hd⟩ := hn
  exact hd _ (List.mem_map_of_mem h) _ (List.mem_singleton.2 rfl) rfl
section
variable {w0 w : World} {L : List Assn}
theorem RowT.src {a : Option Addr} {cap : Nat} {vs : List TenV} (h : RowT w a cap vs) : Src Try.prog 4 22 (.slice a vs.length cap) vs.length (flatT vs) w := by
  cases a with
  | none =>
    have hc := h.nil rfl
    have hl := h.le
    obtain rfl : vs = [] := List.eq_nil_of_length_eq_zero (by omega)
    exact Src.ofNil w Try.underlying22 cap
  | some ad =>
    refine Src.ofSlice w Try.underlying22 ad vs.length cap (flatT vs) (flatT_len vs) (fun j u hj => ?_) (flatT_one vs)
    have hjl := (List.getElem?_eq_some_iff.1 hj).1
    rw [flatT_len] at hjl
    have hd : j / 4 < vs.length := by omega
    obtain ⟨b, off, he, hb, hc⟩ := h.at_ (j / 4) vs[j / 4] (List.getElem?_eq_getElem hd)
    injection he with he
    subst he
    have e1 := flatT_get (vs := vs) (i := j / 4) (j := j % 4) (List.getElem?_eq_getElem hd) (Nat.mod_lt _ (by decide))
    rw [show j / 4 * 4 + j % 4 = j by omega, hj] at e1
    have h3 := hc (j % 4) u e1.symm
    rw [addr_add]
    rw [show off + j / 4 * 4 + j % 4 = off + j by omega] at h3
    exact h3
theorem RowT.cutFrom {b off cap k : Nat} {vs : List TenV} (h : RowT w (some ⟨b, off, none⟩) cap vs) (hk : k ≤ vs.length) : RowT w (some ⟨b, off + k * 4, none⟩) (cap - k) (vs.drop k) := by
  have h1 := h.le
  have h2 := h.cap
  refine ⟨by rw [List.length_drop]; omega, (fun e => nomatch e), by omega, fun i v hi => ?_⟩
  rw [List.getElem?_drop] at hi
  obtain ⟨b', off', he, hb, hc⟩ := h.at_ (k + i) v hi
  injection he with he
  injection he with e1 e2
  subst e1 e2
  exact ⟨b, off + k * 4, rfl, hb, fun j u hj => by have := hc j u hj; rwa [show off + (k + i) * 4 + j = off + k * 4 + i * 4 + j by omega] at this⟩
theorem RowT.cutTo {a : Option Addr} {cap k : Nat} {vs : List TenV} (h : RowT w a cap vs) (hk : k ≤ vs.length) : RowT w a cap (vs.take k) := by
  have h1 := h.le
  refine ⟨by rw [List.length_take]; omega, h.nil, h.cap, fun i v hi => ?_⟩
  rw [List.getElem?_take] at hi
  split at hi
  · exact h.at_ i v hi
  · cases hi
theorem OwnS.rowT {a : Option Addr} {n c : Nat} {us : List TenV} (h : Sat w0 w (OwnS 28 4 (.slice a n c) n (flatT us) :: L)) (hn : us.length = n) : RowT w a c us := by
  rcases OwnS.cases h with ⟨he, h0, h1, _⟩ | ⟨g, off, cap, cur, he, h1, h2, h3, h4, hs⟩
  · injection he with e1 e2 e3
    subst e1 e3
    obtain rfl : us = [] := List.eq_nil_of_length_eq_zero (by omega)
    exact ⟨Nat.le_refl _, fun _ => rfl, Nat.zero_le _, fun i v h => by simp at h⟩
  · injection he with e1 e2 e3
    subst e1 e3
    refine ⟨by omega, (fun e => nomatch e), h2, fun i v hi => ⟨g, off, rfl, hs.lt, fun j u hj => ?_⟩⟩
    have hj4 : j < 4 := (List.getElem?_eq_some_iff.1 hj).1
    exact own_cell4 h (by have := (List.getElem?_eq_some_iff.1 hi).1; omega) ((flatT_get hi hj4).trans hj)
/-- append of a row of tenants, in a region that draws its order. -/
theorem step_append_row {ops : Array Oper} {o : Oper} {a : Act} {K : Act → World → Prop} {Q : Exit → Act → World → Prop} (hgd : o.guard = none) (s x : Operand)
    (ho : o.op = .call { callee := .builtin .append, args := #[s, x], argTypes := #[22, 22] })
    {v vx : Value} {n m q : Nat} {us xs r : List TenV} (hv : a.eval s = v) (hs : Sat w0 w (OwnS 28 4 v n (flatT us) :: L)) (hx : a.eval x = vx) (hsrc : Src Try.prog 4 22 vx m (flatT xs) w) (hq : n + m = q) (hrr : us ++ xs = r) (hn : q ≤ 1000)
    (h : ∀ a' c' w', Sat w0 w' (OwnS 28 4 (.slice a' q c') q (flatT r) :: L) → K (a.put o.dst (.slice a' q c')) w') :
    if Region.wanted o (yielded ops a.tmps) = true then o.wp Try.prog a w K Q else K (a.put o.dst undef) w := by
  subst hq hrr
  rw [if_pos (by simp [Region.wanted, hgd])]
  obtain ⟨i0, hi0, hz0, hz1, hz2⟩ := info_te
  obtain ⟨v', w', hr, h2, _⟩ := run_append_sat (P := Try.prog) (ty := o.type) Try.underlying22 hi0 hz0 hz1 hz2 rfl hs hsrc (by simp only [maxLen]; omega) (by omega)
  unfold Oper.wp execOp
  simp only [ho, resolve, invoke, builtin, Sem.run_bind, Sem.run_pure, Result.andThen_ok, List.map_toArray, List.map_cons, List.map_nil, hv, hx, hr]
  obtain ⟨a', c', rfl, _, _⟩ := OwnS.form h2
  rw [← flatT_app] at h2
  exact h a' c' w' h2
set_option maxRecDepth 100000 in
set_option maxHeartbeats 8000000 in
theorem ring_order_law (v u : Value) (w : World) (hv : IsTens w v) (hu : IsInt w u) : Calls Try.prog 6 #[v, u] w fun e w' => e = .returned (.bool true) ∧ Below w.heap.size w w' := by
  obtain ⟨la, cap, vs, rfl, hr, hvs⟩ := hv
  obtain ⟨tw, rfl, _⟩ := hu
  have hL := ring_Light la cap vs hr hvs
  have hcap := hr.cap
  have hle := hr.le
  unfold maxLen at hcap
  have hAw : ∀ (W : World), Below w.heap.size w W → Calls Try.prog 8 #[] W fun e w' => e = .returned (.bool true) ∧ Below w.heap.size w w' := fun W hb => (ring_awake (L := []) (w0 := w) ⟨hb, trivial⟩).mono (by rintro _ w' ⟨rfl, h⟩; exact ⟨rfl, h.below⟩)
  have hN0 := ring_New la cap vs hr hvs
  obtain ⟨n, hn⟩ : ∃ n, vs.length = n := ⟨_, rfl⟩
  have HN := hid_ hn
  rw [hn] at hL hle ⊢
  by_cases hz : n = 0
  · have q2 : ((n : Int) == 0) = true := by simp [hz]
    clear hn hz hN0
    go_enter Try.func6, Try.ntmps6
    go_wp2_with fail
    refine hL.mono ?_
    rintro _ w1 ⟨k, rfl, hk, hb1⟩
    rcases hk with ⟨rfl, _⟩ | hk
    · go_wp2_with fail
      refine (hAw _ hb1).mono ?_
      rintro _ w2 ⟨rfl, hb2⟩
      go_wp2_with fail
      go_ret
      exact ⟨rfl, hb2⟩
    · have q1 : decide (0 < k) = true := by simp; omega
      go_wp2_with fail
      refine (hAw _ hb1).mono ?_
      rintro _ w2 ⟨rfl, hb2⟩
      go_wp2_with fail
      go_ret
      exact ⟨rfl, hb2⟩
  have q2 : ((n : Int) == 0) = false := by simp; omega
  go_enter Try.func6, Try.ntmps6
  go_wp2_with fail
  refine hL.mono ?_
  rintro _ w1 ⟨k0, rfl, hk0, hb1⟩
  rcases hk0 with ⟨rfl, hn20⟩ | hk0
  case inr =>
    have q1 : decide (0 < k0) = true := by simp; omega
    go_wp2_with fail
    refine (hAw _ hb1).mono ?_
    rintro _ w2 ⟨rfl, hb2⟩
    go_wp2_with fail
    go_ret
    exact ⟨rfl, hb2⟩
  obtain ⟨b, off, rfl, hbl, _⟩ : ∃ b off, la = some ⟨b, off, none⟩ ∧ b < w.heap.size ∧ True := by
    obtain ⟨b, off, h1, h2, _⟩ := hr.at_ 0 vs[0] (List.getElem?_eq_getElem (by omega))
    exact ⟨b, off, h1, h2, trivial⟩
  have E1 : IntKind.u64.wrap (n : Int) = (n : Int) := by rw [IntKind.wrap_u64]; omega
  have hbd := um_bd tw (m := (n : Int)) (by omega) (by omega)
  obtain ⟨k, hk⟩ := Int.eq_ofNat_of_zero_le hbd.1
  rw [hk] at hbd
  have hkn : k < n := by omega
  have z1 : ((n : Int) == 0) = false := q2
  clear hz hL
  have h1 := (Sat.refl w).under hb1
  go_upto_region 5 with fail
  rw [hk]
  clear hk
  go_cut [7] (fun v7 wx => ∃ (a' : Option Addr) (c' : Nat), v7 = .slice a' n c' ∧ Sat w wx [OwnS 28 4 (.slice a' n c') n (flatT (vs.drop k ++ vs.take k))])
  case first =>
    have hA := (h1.alloc (.cells #[] 28 (0, 0))).drew
    have hO : Sat w _ (OwnS 28 4 (.slice (some ⟨w1.heap.size, 0, none⟩) 0 0) 0 (flatT []) :: []) := OwnS.ofBlk hA (Nat.le_refl _) (Nat.zero_le _) (by simp) (by simp [flatT])
    have hS1 := (RowT.cutFrom (hr.mono hA.below) (k := k) (by omega)).src
    rw [List.length_drop, hn] at hS1
    have hS2 := fun (W : World) (hb : Below w.heap.size w W) => (RowT.cutTo (hr.mono hb) (k := k) (by omega)).src
    have e2 : (vs.take k).length = k := by rw [List.length_take]; omega
    rw [e2] at hS2
    have z3 : 0 ≤ (k : Int) ∧ (k : Int) ≤ (n : Int) ∧ (k : Int) ≤ (cap : Int) := by omega
    have z5 : ¬ cap = k := by omega
    go_region_law (first
      | (refine step_append_row (w0 := w) (us := []) (xs := vs.drop k) (r := vs.drop k) (n := 0) (m := n - k) (q := n - k) rfl _ _ rfl rfl hO rfl hS1 (by omega) (by simp) (by omega) ?_; intro a5 c5 w5 h5)
      | (refine step_append_row (w0 := w) (us := vs.drop k) (xs := vs.take k) (r := vs.drop k ++ vs.take k) (n := n - k) (m := k) (q := n) rfl _ _ rfl rfl h5 rfl (hS2 _ h5.below) (by omega) rfl (by omega) ?_; intro a6 c6 w6 h6))
    all_goals
      go_wp2_with fail
      go_meet
      exact ⟨a6, c6, rfl, h6⟩
  obtain ⟨a7, c7, rfl, h7⟩ := hcut
  have hpm : (vs.drop k ++ vs.take k).Perm vs := by
    have h := List.perm_append_comm (l₁ := vs.drop k) (l₂ := vs.take k)
    rwa [List.take_append_drop] at h
  have hml : (vs.drop k ++ vs.take k).length = n := by rw [hpm.length_eq, hn]
  have hr7 := OwnS.rowT h7 hml
  have hv7 : ∀ u ∈ vs.drop k ++ vs.take k, u.rd wc := fun u hu => (hvs u (hpm.mem_iff.1 hu)).mono h7.below
  have hN1 := ring_New (some ⟨b, off, none⟩) cap vs (hr.mono h7.below) (fun u hu => (hvs u hu).mono h7.below)
  have hN2 := fun (W : World) (hb : Below wc.heap.size wc W) => ring_New a7 c7 _ (hr7.mono hb) (fun u hu => (hv7 u hu).mono hb)
  rw [hn] at hN1
  rw [hml] at hN2
  have HML := hid_ hml
  have HPM := hid_ hpm
  have HB7 := hid_ h7.below
  clear hml hpm h7 hr7 hv7 hN0 hbl
  go_wp2_with fail
  refine hN1.mono ?_
  rintro _ w2 ⟨hb2, hres⟩
  have hN2' := hN2 _ hb2
  by_cases hok : okT (vs.map (·.t))
  case neg =>
    have hok2 : ¬ okT ((vs.drop k ++ vs.take k).map (·.t)) := fun h => hok ((okT_perm (HPM.out.map _)).1 h)
    obtain rfl : _ = Ending.returned (.tuple #[.pointer none, .int .i64 1]) := by
      rcases hres with ⟨_, h⟩ | ⟨h, _⟩
      · exact h
      · exact absurd h hok
    clear hres hN2
    go_wp2_with fail
    refine hN2'.mono ?_
    rintro _ w3 ⟨hb3, hres⟩
    obtain rfl : _ = Ending.returned (.tuple #[.pointer none, .int .i64 1]) := by
      rcases hres with ⟨_, h⟩ | ⟨h, _⟩
      · exact h
      · exact absurd h hok2
    have hB3 : Below w.heap.size w w3 := HB7.out.trans ((hb2.trans (hb3.mono hb2.size)).mono HB7.out.size)
    clear hres
    go_wp2_with fail
    refine (hAw _ hB3).mono ?_
    rintro _ w4 ⟨rfl, hb4⟩
    go_wp2_with fail
    go_ret
    exact ⟨rfl, hb4⟩
  obtain ⟨r1, us, hr1, hring1, hus1, hpw1, he1⟩ : ∃ (r : Nat) (us : List TenM), wc.heap.size ≤ r ∧ RdRing w2 r us ∧ us.Perm (vs.map (·.t)) ∧ us.Pairwise (fun x y => x.id < y.id) ∧ _ = Ending.returned (.tuple #[.pointer (some ⟨r, 0, none⟩), .int .i64 0]) := by
    rcases hres with ⟨h, _⟩ | ⟨_, r, us, h1, h2, h3, h4, h5⟩
    · exact absurd hok h
    · exact ⟨r, us, h1, h3, h4, h5, h2⟩
  subst he1
  clear hres hN2
  go_wp2_with fail
  refine hN2'.mono ?_
  rintro _ w3 ⟨hb3, hres⟩
  obtain ⟨r2, us2, hr2, hring2, hus2, hpw2, he2⟩ : ∃ (r : Nat) (us : List TenM), w2.heap.size ≤ r ∧ RdRing w3 r us ∧ us.Perm ((vs.drop k ++ vs.take k).map (·.t)) ∧ us.Pairwise (fun x y => x.id < y.id) ∧ _ = Ending.returned (.tuple #[.pointer (some ⟨r, 0, none⟩), .int .i64 0]) := by
    rcases hres with ⟨h, _⟩ | ⟨_, r, us, h1, h2, h3, h4, h5⟩
    · exact absurd ((okT_perm (HPM.out.map _)).2 hok) h
    · exact ⟨r, us, h1, h3, h4, h5, h2⟩
  subst he2
  clear hres
  obtain rfl : us2 = us := sorted_eq (hus2.trans (HPM.out.map _)) hus1 hpw2 hpw1
  have hB3 : Below w.heap.size w w3 := HB7.out.trans ((hb2.trans (hb3.mono hb2.size)).mono HB7.out.size)
  have hmay : ∀ t ∈ us2, t.may = true := fun t ht => hok.2.1 t (hus1.mem_iff.1 ht)
  have hul : us2.length = n := by rw [hus1.length_eq, List.length_map, hn]
  have hA1 := all_ring (w := w3) r1 us2 hmay (by omega) 100 (by omega) (hring1.mono hb3)
  have hA2 := fun (W : World) (hb : Below w3.heap.size w3 W) => all_ring (w := W) r2 us2 hmay (by omega) 100 (by omega) (hring2.mono hb)
  rw [List.take_of_length_le (by omega)] at hA1
  have HUL := hid_ hul
  have HPW := hid_ hpw1
  have HVK := hid_ hok
  clear hul hmay hus2 hpw2 hus1 hpw1 hring1 hring2 hb2 hb3 hN1 hN2' hok hr1 hr2
  go_wp2_with fail
  refine hA1.mono ?_
  rintro _ w4 ⟨xa, xc, xs, rfl, hb4, hrow4, hm4, hi4⟩
  have hA2' := hA2 _ hb4
  rw [List.take_of_length_le (by have := HUL.out; omega)] at hA2'
  have hxl : xs.length = n := by rw [← HUL.out, ← hm4, List.length_map]
  rw [hxl] at hrow4 ⊢
  have hx4 := OwnS.rowT (OwnS.ofRow hb4 hrow4) hxl
  have HM4 := hid_ hm4
  clear hA1 hA2 hrow4 hm4 hi4
  go_wp2_with fail
  refine hA2'.mono ?_
  rintro _ w5 ⟨ya, yc, ys, rfl, hb5, hrow5, hm5, hi5⟩
  have hyl : ys.length = n := by rw [← HUL.out, ← hm5, List.length_map]
  rw [hyl] at hrow5 ⊢
  have hy5 := OwnS.rowT (OwnS.ofRow hb5 hrow5) hyl
  have hx5 := hx4.mono hb5
  have HM5 := hid_ hm5
  have hB5 : Below w.heap.size w w5 := hB3.trans ((hb4.trans (hb5.mono hb4.size)).mono hB3.size)
  have HXL := hid_ hxl
  have HYL := hid_ hyl
  have n5 : ((n : Int) != (n : Int)) = false := int_ne_self _
  clear hA2' hrow5 hm5 hi5 hx4 hB3 hb4 hb5 hxl hyl hn
  go_wp2_with fail
  go_loopg [14, 89] n (fun gg _ v89 wr => ∃ i : Nat, i ≤ n ∧ n - i ≤ gg ∧ v89 = .int .i64 i ∧ Below w5.heap.size w5 wr)
  case atStart => exact ⟨0, by omega, by omega, rfl, Below.refl _ _⟩
  case round =>
    obtain ⟨i, hi, hgg, rfl, h6⟩ := hrel
    by_cases hlt : i < n
    · obtain ⟨t, ht⟩ : ∃ t, us2[i]? = some t := ⟨_, List.getElem?_eq_getElem (by rw [HUL.out]; exact hlt)⟩
      obtain ⟨x, hx⟩ : ∃ x, xs[i]? = some x := ⟨_, List.getElem?_eq_getElem (by rw [HXL.out]; exact hlt)⟩
      obtain ⟨y, hy⟩ : ∃ y, ys[i]? = some y := ⟨_, List.getElem?_eq_getElem (by rw [HYL.out]; exact hlt)⟩
      have hxt : x.t = t := by
        have h := HM4.out
        have h2 : (xs.map (·.t))[i]? = some x.t := by rw [List.getElem?_map, hx]; rfl
        rw [h, ht] at h2
        exact (Option.some.inj h2).symm
      have hyt : y.t = t := by
        have h := HM5.out
        have h2 : (ys.map (·.t))[i]? = some y.t := by rw [List.getElem?_map, hy]; rfl
        rw [h, ht] at h2
        exact (Option.some.inj h2).symm
      obtain ⟨bx, ox, rfl, hbx, hcx⟩ := (hx5.mono h6).at_ i x hx
      obtain ⟨by', oy, rfl, hby, hcy⟩ := (hy5.mono h6).at_ i y hy
      have c0 : wr.cell? ⟨bx, ox + i * 4, none⟩ = some (.int .i64 t.id) := by rw [← hxt]; exact hcx 0 _ rfl
      have c1 : wr.cell? ⟨by', oy + i * 4, none⟩ = some (.int .i64 t.id) := by rw [← hyt]; exact hcy 0 _ rfl
      have n6 := int_ne_self t.id
      have z6 : 0 ≤ (i : Int) ∧ (i : Int) < (n : Int) := by omega
      have HT := hid_ ht
      clear hx hy hxt hyt hcx hcy ht
      rcases Nat.eq_zero_or_pos i with hi0 | hi0
      · have q9 : decide (0 < i) = false := by simp; omega
        have q9' : decide ((0 : Int) < (i : Int)) = false := by simp; omega
        clear hi0
        go_upto_region 18 with fail
        go_quiet (fail)
        go_wp2_with fail
        go_roundg (n - (i + 1))
        case measure => omega
        case rel => exact ⟨i + 1, by omega, by omega, by go_num, (Sat.drewN (w0 := w5) (L := []) ⟨h6, trivial⟩ _).below⟩
      · obtain ⟨j, hj⟩ : ∃ j, i = j + 1 := ⟨i - 1, by omega⟩
        obtain ⟨p, hp⟩ : ∃ p, us2[j]? = some p := ⟨_, List.getElem?_eq_getElem (by rw [HUL.out]; omega)⟩
        obtain ⟨x, hx⟩ : ∃ x, xs[j]? = some x := ⟨_, List.getElem?_eq_getElem (by rw [HXL.out]; omega)⟩
        have hxt : x.t = p := by
          have h := HM4.out
          have h2 : (xs.map (·.t))[j]? = some x.t := by rw [List.getElem?_map, hx]; rfl
          rw [h, hp] at h2
          exact (Option.some.inj h2).symm
        obtain ⟨bx', ox', hex, _, hcx⟩ := (hx5.mono h6).at_ j x hx
        injection hex with hex
        injection hex with e1 e2 _
        subst e1 e2
        have c2 : wr.cell? ⟨bx, ox + j * 4, none⟩ = some (.int .i64 p.id) := by rw [← hxt]; exact hcx 0 _ rfl
        have hlt3 : p.id < t.id := by
          have h := HPW.out
          rw [List.pairwise_iff_getElem] at h
          obtain ⟨hjl, hj2⟩ := List.getElem?_eq_some_iff.1 hp
          obtain ⟨hil, hi2⟩ := List.getElem?_eq_some_iff.1 HT.out
          have := h j i hjl hil (by omega)
          rwa [hj2, hi2] at this
        have q9 : decide (0 < i) = true := by simp; omega
        have q9' : decide ((0 : Int) < (i : Int)) = true := by simp; omega
        have q8 : decide (t.id ≤ p.id) = false := by simp; omega
        have E2 : IntKind.i64.wrap ((i : Int) - 1) = (j : Int) := by rw [IntWalk.i64_in _ (by omega)]; omega
        have z7 : 0 ≤ (j : Int) ∧ (j : Int) < (n : Int) := by omega
        clear hi0 hj hp hx hxt hcx hlt3
        go_upto_region 18 with fail
        go_quiet (fail)
        go_wp2_with fail
        go_roundg (n - (i + 1))
        case measure => omega
        case rel => exact ⟨i + 1, by omega, by omega, by go_num, (Sat.drewN (w0 := w5) (L := []) ⟨h6, trivial⟩ _).below⟩
    · obtain rfl : i = n := by omega
      have hB6 : Below w.heap.size w wr := hB5.trans (h6.mono hB5.size)
      obtain ⟨v, hvk⟩ : ∃ v, vs[k]? = some v := ⟨_, List.getElem?_eq_getElem (by rw [HN.out]; exact hkn)⟩
      have hcell : ∀ W, Below w.heap.size w W → (W.cell? ⟨b, off + k * 4, none⟩ = some (.int .i64 v.t.id) ∧ W.cell? ⟨b, off + k * 4 + 1, none⟩ = some (.slice v.kx v.t.key.length v.kc) ∧ W.cell? ⟨b, off + k * 4 + 2, none⟩ = some (.int .i64 v.t.streams) ∧ W.cell? ⟨b, off + k * 4 + 3, none⟩ = some (.slice v.rx v.t.rules.length v.rc)) := by
        intro W hb
        obtain ⟨b', o', he, _, hc⟩ := (hr.mono hb).at_ k v hvk
        injection he with he
        injection he with e1 e2 _
        subst e1 e2
        exact ⟨hc 0 _ rfl, hc 1 _ rfl, hc 2 _ rfl, hc 3 _ rfl⟩
      have hSrc : ∀ W, Below w.heap.size w W → Src Try.prog 4 22 (.slice (some ⟨b, off, none⟩) i cap) i (flatT vs) W := fun W hb => by
        have := (hr.mono hb).src
        rwa [HN.out] at this
      have hNew : ∀ (W : World) (a : Option Addr) (c : Nat) (L : List Assn), Sat w W (OwnS 28 4 (.slice a (i + 1) c) (i + 1) (flatT (vs ++ [v])) :: L) → Calls Try.prog 11 #[.slice a (i + 1) c] W fun e w' => e = .returned (.tuple #[.pointer none, .int .i64 1]) ∧ Below w.heap.size w w' := by
        intro W a c L h
        have hl : (vs ++ [v]).length = i + 1 := by rw [List.length_append, HN.out]; rfl
        have h1 := ring_New a c (vs ++ [v]) (OwnS.rowT h hl) (fun u hu => by
          rcases List.mem_append.1 hu with hu | hu
          · exact (hvs u hu).mono h.below
          · rw [List.mem_singleton.1 hu]; exact (hvs v (List.mem_of_getElem? hvk)).mono h.below)
        rw [hl] at h1
        refine h1.mono ?_
        rintro e w' ⟨hb, ⟨_, rfl⟩ | ⟨ho, _⟩⟩
        · exact ⟨rfl, h.below.trans (hb.mono h.below.size)⟩
        · rw [List.map_append] at ho
          exact absurd ho (okT_twice (List.mem_map_of_mem (List.mem_of_getElem? hvk)))
      have hb6 : Sat w wr [] := ⟨hB6, trivial⟩
      have gA := (hb6.alloc (.cells #[] 28 (0, 0))).drew
      have gB := ((hb6.alloc2 (.cells #[] 28 (0, 0)) (.cells #[.int .i64 v.t.id, .slice v.kx v.t.key.length v.kc, .int .i64 v.t.streams, .slice v.rx v.t.rules.length v.rc] 28 (0, 0))).drew).swap
      have gC := (hb6.alloc2 (.cells #[.int .i64 v.t.id, .slice v.kx v.t.key.length v.kc, .int .i64 v.t.streams, .slice v.rx v.t.rules.length v.rc] 28 (0, 0)) (.cells #[] 28 (0, 0))).drew
      have hA : Sat w _ (OwnS 28 4 (.slice (some ⟨wr.heap.size, 0, none⟩) 0 0) 0 (flatT []) :: []) := OwnS.ofBlk gA (Nat.le_refl _) (Nat.zero_le _) (by simp) (by simp [flatT])
      have hB : Sat w _ (OwnS 28 4 (.slice (some ⟨wr.heap.size, 0, none⟩) 0 0) 0 (flatT []) :: [Blk (wr.heap.size + 1) (.cells #[.int .i64 v.t.id, .slice v.kx v.t.key.length v.kc, .int .i64 v.t.streams, .slice v.rx v.t.rules.length v.rc] 28 (0, 0))]) := OwnS.ofBlk gB (Nat.le_refl _) (Nat.zero_le _) (by simp) (by simp [flatT])
      have hC : Sat w _ (OwnS 28 4 (.slice (some ⟨wr.heap.size + 1, 0, none⟩) 0 0) 0 (flatT []) :: [Blk wr.heap.size (.cells #[.int .i64 v.t.id, .slice v.kx v.t.key.length v.kc, .int .i64 v.t.streams, .slice v.rx v.t.rules.length v.rc] 28 (0, 0))]) := OwnS.ofBlk gC (Nat.le_refl _) (Nat.zero_le _) (by simp) (by simp [flatT])
      obtain ⟨d0, d1, d2, d3⟩ := hcell _ hB6
      obtain ⟨f0, f1, f2, f3⟩ := hcell (wr.alloc (.cells #[] 28 (0, 0))) (hB6.alloc hB6.size _)
      have zk : 0 ≤ (k : Int) ∧ (k : Int) < (i : Int) := by omega
      have ef : flatT [v] = v.c := by simp [flatT]
      clear gA gB gC hvk hx5 hy5 h6 n5
      go_upto_region 21 with fail
      go_cut [15, 16] (fun _ v16 wx => v16 = .int .i64 1 ∧ Below w.heap.size w wx)
      case first =>
        go_region_law (first
          | (refine step_append_row (w0 := w) (us := []) (xs := vs) (r := vs) (n := 0) (m := i) (q := i) rfl _ _ rfl rfl hA rfl (hSrc _ (Sat.below hA)) (by omega) (by simp) (by omega) ?_; intro a5 c5 w5 h5; obtain ⟨d0', d1', d2', d3'⟩ := hcell _ h5.below; have h5z := h5.alloc (.cells #[.int .i64 v.t.id, .slice v.kx v.t.key.length v.kc, .int .i64 v.t.streams, .slice v.rx v.t.rules.length v.rc] 28 (0, 0)))
          | (refine step_append_row (w0 := w) (us := []) (xs := vs) (r := vs) (n := 0) (m := i) (q := i) rfl _ _ rfl rfl hB rfl (hSrc _ (Sat.below hB)) (by omega) (by simp) (by omega) ?_; intro a5 c5 w5 h5; obtain ⟨d0', d1', d2', d3'⟩ := hcell _ h5.below; have h5z := h5.alloc (.cells #[.int .i64 v.t.id, .slice v.kx v.t.key.length v.kc, .int .i64 v.t.streams, .slice v.rx v.t.rules.length v.rc] 28 (0, 0)))
          | (refine step_append_row (w0 := w) (us := []) (xs := vs) (r := vs) (n := 0) (m := i) (q := i) rfl _ _ rfl rfl hC rfl (hSrc _ (Sat.below hC)) (by omega) (by simp) (by omega) ?_; intro a5 c5 w5 h5; obtain ⟨d0', d1', d2', d3'⟩ := hcell _ h5.below; have h5z := h5.alloc (.cells #[.int .i64 v.t.id, .slice v.kx v.t.key.length v.kc, .int .i64 v.t.streams, .slice v.rx v.t.rules.length v.rc] 28 (0, 0)))
          | (refine step_append_row (w0 := w) (us := vs) (xs := [v]) (r := vs ++ [v]) (n := i) (m := 1) (q := i + 1) rfl _ _ rfl rfl h5z.swap rfl (by rw [ef]; exact src_blk Try.underlying22 (Sat.blk h5z).1 rfl v.c_one) (by omega) rfl (by omega) ?_; intro a6 c6 w6 h6)
          | (refine step_append_row (w0 := w) (us := vs) (xs := [v]) (r := vs ++ [v]) (n := i) (m := 1) (q := i + 1) rfl _ _ rfl rfl h5 rfl (by rw [ef]; exact src_blk Try.underlying22 (Sat.blk h5.swap).1 rfl v.c_one) (by omega) rfl (by omega) ?_; intro a6 c6 w6 h6)
          | (go_simp; go_at_call 11; refine (hNew _ _ _ _ h6).mono ?_; rintro _ w9 ⟨rfl, hb9⟩))
        all_goals
          go_wp2_with fail
          go_meet
          exact ⟨rfl, hb9⟩
      obtain ⟨rfl, hb9⟩ := hcut
      go_wp2_with fail
      refine (hAw _ hb9).mono ?_
      rintro _ w10 ⟨rfl, hb10⟩
      go_wp2_with fail
      go_ret
      exact ⟨rfl, hb10⟩
end
end Go.Proofs.Ytahnjbbjfjlpoaa
