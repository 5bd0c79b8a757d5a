/- The law RingForms, walked. -/
import Derived.Deep.RegionLaw
import Derived.OrdersHeld
import Derived.Test.YtahnjbbjfjlpoaaTeO
import Derived.Test.YtahnjbbjfjlpoaaTeP
namespace Go.Proofs.Ytahnjbbjfjlpoaa
open Go Go.RowKit Go.Shelf
set_option linter.unusedVariables false
set_option linter.unusedSimpArgs false
section
variable {w0 w : World} {L : List Assn}
theorem same_call {t : TenM} {x y : TenV} (hx : x.t = t) (hy : y.t = t) (hxr : x.rd w) (hyr : y.rd w) :
    Calls Try.prog 15 #[.agg #[.int .i64 t.id, .slice x.kx t.key.length x.kc, .int .i64 t.streams, .slice x.rx t.rules.length x.rc], .agg #[.int .i64 t.id, .slice y.kx t.key.length y.kc, .int .i64 t.streams, .slice y.rx t.rules.length y.rc]] w fun e w' => e = .returned (.bool true) ∧ Below w.heap.size w w' := by
  obtain ⟨tx, kx, kc, rx, rc⟩ := x
  obtain ⟨ty, kx2, kc2, rx2, rc2⟩ := y
  dsimp only at hx hy
  subst hx hy
  exact ref_SameTenant _ kx kx2 rx rx2 kc kc2 rc rc2 hxr hyr
set_option maxRecDepth 100000 in
set_option maxHeartbeats 16000000 in
theorem ring_forms_law (v u f : Value) (w : World) (hv : IsTens w v) (hu : IsInt w u) (hf : IsInt w f) : Calls Try.prog 3 #[v, u, f] w fun e w' => e = .returned (.bool true) ∧ Below w.heap.size w w' := by
  obtain ⟨la, cap, vs, rfl, hr, hvs⟩ := hv
  obtain ⟨id, rfl, _⟩ := hu
  obtain ⟨fw, rfl, _⟩ := hf
  have hL := ring_Light la cap vs hr hvs
  have hcap := hr.cap
  have hle := hr.le
  unfold maxLen at hcap
  have hAw : ∀ (W : World), Below w.heap.size w W → Calls Try.prog 8 #[] W fun e w' => e = .returned (.bool true) ∧ Below w.heap.size w w' := fun W hb => (ring_awake (L := []) (w0 := w) ⟨hb, trivial⟩).mono (by rintro _ w' ⟨rfl, h⟩; exact ⟨rfl, h.below⟩)
  obtain ⟨n, hn⟩ : ∃ n, vs.length = n := ⟨_, rfl⟩
  have HN := hid_ hn
  rw [hn] at hL hle ⊢
  have hbd := um_bd fw (m := 20) (by omega) (by omega)
  obtain ⟨few, hk⟩ := Int.eq_ofNat_of_zero_le hbd.1
  rw [hk] at hbd
  have hfew : few < 20 := by omega
  clear hn hbd
  go_enter Try.func3, Try.ntmps3
  go_wp2_with fail
  refine hL.mono ?_
  rintro _ w1 ⟨k0, rfl, hk0, hb1⟩
  rcases hk0 with ⟨rfl, hn20⟩ | hk0
  case inr =>
    have q1 : decide (0 < k0) = true := by simp; omega
    go_wp2_with fail
    refine (hAw _ hb1).mono ?_
    rintro _ w2 ⟨rfl, hb2⟩
    go_wp2_with fail
    go_ret
    exact ⟨rfl, hb2⟩
  clear hL
  go_wp2_with fail
  go_loopg [8, 23] n (fun gg _ v23 wr => ∃ i : Nat, i ≤ n ∧ n - i ≤ gg ∧ v23 = .int .i64 i ∧ Below w.heap.size w wr)
  case atStart => exact ⟨0, Nat.zero_le _, by omega, rfl, hb1⟩
  case round =>
    obtain ⟨i, hi, hgg, rfl, hb2⟩ := hrel
    by_cases hlt : i < n
    · obtain ⟨v, hvi⟩ : ∃ v, vs[i]? = some v := ⟨_, List.getElem?_eq_getElem (by rw [HN.out]; exact hlt)⟩
      have hmem : v ∈ vs := List.mem_of_getElem? hvi
      obtain ⟨b, off, rfl, hbl, hc⟩ := (hr.mono hb2).at_ i v hvi
      have c0 : wr.cell? ⟨b, off + i * 4, none⟩ = some (.int .i64 v.t.id) := hc 0 _ rfl
      have c1 : wr.cell? ⟨b, off + i * 4 + 1, none⟩ = some (.slice v.kx v.t.key.length v.kc) := hc 1 _ rfl
      have c2 : wr.cell? ⟨b, off + i * 4 + 2, none⟩ = some (.int .i64 v.t.streams) := hc 2 _ rfl
      have c3 : wr.cell? ⟨b, off + i * 4 + 3, none⟩ = some (.slice v.rx v.t.rules.length v.rc) := hc 3 _ rfl
      have h2 := ((show Sat w wr [] from ⟨hb2, trivial⟩).alloc (.cells #[.int .i64 v.t.id, .slice v.kx v.t.key.length v.kc, .int .i64 v.t.streams, .slice v.rx v.t.rules.length v.rc] 28 (0, 0)))
      have z1 : 0 ≤ (i : Int) ∧ (i : Int) < (n : Int) := by omega
      have b0 := h2.cell 0 (v := .int .i64 v.t.id) rfl
      have b1 := h2.cell 1 (v := .slice v.kx v.t.key.length v.kc) rfl
      have b2 := h2.cell 2 (v := .int .i64 v.t.streams) rfl
      have b3 := h2.cell 3 (v := .slice v.rx v.t.rules.length v.rc) rfl
      obtain ⟨m, hm⟩ : ∃ m, v.t.may = m := ⟨_, rfl⟩
      have hM1 := fun (W : World) (hb : Below w.heap.size w W) => ring_MayV (hid_ hm) ((hvs v hmem).mono hb)
      have hM2 := fun (W : World) (hb : Below w.heap.size w W) => ref_MayV (hid_ hm) ((hvs v hmem).mono hb)
      have qm : (m != m) = false := by simp
      clear hvi hc hm
      go_upto_region 6 with fail
      have h3 := h2.drew
      go_region_law (first
        | (go_simp; go_at_call 9; refine (hM1 _ h3.below).mono ?_; rintro _ w3 ⟨rfl, hb3⟩; have h4 := h3.under hb3; have b0' := h4.cell 0 (v := .int .i64 v.t.id) rfl; have b1' := h4.cell 1 (v := .slice v.kx v.t.key.length v.kc) rfl; have b2' := h4.cell 2 (v := .int .i64 v.t.streams) rfl; have b3' := h4.cell 3 (v := .slice v.rx v.t.rules.length v.rc) rfl)
        | (go_simp; go_at_call 10; refine (hM2 _ h4.below).mono ?_; rintro _ w5 ⟨rfl, hb5⟩; have h6 := h4.under hb5))
      all_goals
        go_wp2_with fail
        go_roundg (n - (i + 1))
        case measure => omega
        case rel => exact ⟨i + 1, by omega, by omega, by go_num, h6.below⟩
    obtain rfl : i = n := by omega
    have hN1 := ring_New la cap vs (hr.mono hb2) (fun u hu => (hvs u hu).mono hb2)
    rw [HN.out] at hN1
    have hR1 := fun (W : World) (hb : Below w.heap.size w W) => ref_Ring la cap vs (hr.mono hb) (fun u hu => (hvs u hu).mono hb)
    rw [HN.out] at hR1
    go_wp2_with fail
    refine hN1.mono ?_
    rintro _ w3 ⟨hb3, hres⟩
    have hB3 : Below w.heap.size w w3 := hb2.trans (hb3.mono hb2.size)
    have hR2 := hR1 _ hB3
    by_cases hok : okT (vs.map (·.t))
    case neg =>
      obtain rfl : _ = Ending.returned (.tuple #[.pointer none, .int .i64 1]) := by
        rcases hres with ⟨_, h⟩ | ⟨h, _⟩
        · exact h
        · exact absurd h hok
      have HOK := hid_ hok
      clear hres hR1 hok hN1
      go_wp2_with fail
      refine hR2.mono ?_
      rintro _ w4 ⟨hb4, hres⟩
      obtain rfl : _ = Ending.returned (.tuple #[.slice none 0 0, .int .i64 1]) := by
        rcases hres with ⟨_, h⟩ | ⟨h, _⟩
        · exact h
        · exact absurd h HOK.out
      have hB4 : Below w.heap.size w w4 := hB3.trans (hb4.mono hB3.size)
      have hLen := ring_Len_nil (w := w4)
      clear hres hR2
      go_wp2_with fail
      refine hLen.mono ?_
      rintro _ _ ⟨rfl, rfl⟩
      go_wp2_with fail
      refine (hAw _ hB4).mono ?_
      rintro _ w5 ⟨rfl, hb5⟩
      go_wp2_with fail
      go_ret
      exact ⟨rfl, hb5⟩
    obtain ⟨r1, us, hr1, hring1, hus1, hpw1, he1⟩ : ∃ (r : Nat) (us : List TenM), wr.heap.size ≤ r ∧ RdRing w3 r us ∧ us.Perm (vs.map (·.t)) ∧ us.Pairwise (fun x y => x.id < y.id) ∧ _ = Ending.returned (.tuple #[.pointer (some ⟨r, 0, none⟩), .int .i64 0]) := by
      rcases hres with ⟨h, _⟩ | ⟨_, r, us, h1, h2, h3, h4, h5⟩
      · exact absurd hok h
      · exact ⟨r, us, h1, h3, h4, h5, h2⟩
    subst he1
    clear hres hR1 hN1
    go_wp2_with fail
    refine hR2.mono ?_
    rintro _ w4 ⟨hb4, hres⟩
    obtain ⟨ma, mc, ms, he4, hrow4, hpm4, hpw4⟩ : ∃ (a : Option Addr) (c : Nat) (ms : List TenV), _ = Ending.returned (.tuple #[.slice a vs.length c, .int .i64 0]) ∧ RowT w4 a c ms ∧ ms.Perm vs ∧ ms.Pairwise (fun x y => x.t.id < y.t.id) := by
      rcases hres with ⟨h, _⟩ | ⟨_, h⟩
      · exact absurd hok h
      · exact h
    subst he4
    rw [HN.out]
    have hB4 : Below w.heap.size w w4 := hB3.trans (hb4.mono hB3.size)
    obtain rfl : us = ms.map (·.t) := sorted_eq hus1 (hpm4.map _) hpw1 (List.pairwise_map.2 hpw4)
    have hmsl : ms.length = i := by rw [hpm4.length_eq, HN.out]
    have hring4 := hring1.mono hb4
    have hLen := ring_Len (w := w4) r1 _ hring4
    rw [List.length_map, hmsl] at hLen
    have hmay : ∀ t ∈ ms.map (·.t), t.may = true := fun t ht => hok.2.1 t (hus1.mem_iff.1 ht)
    have hmsv : ∀ x ∈ ms, x.rd w4 := fun x hx => (hvs x (hpm4.mem_iff.1 hx)).mono hB4
    have hul : (ms.map (·.t)).length = i := by rw [List.length_map, hmsl]
    have hA1 := all_ring (w := w4) r1 _ hmay (by omega) 100 (by omega) hring4
    have hA2 := fun (W : World) (hb : Below w4.heap.size w4 W) => all_ring (w := W) r1 _ hmay (by omega) few (by omega) (hring4.mono hb)
    rw [List.take_of_length_le (by omega)] at hA1
    have hHas := fun (W : World) (hb : Below w4.heap.size w4 W) => ref_has r1 ma mc ms id hmay hpw1 (hring4.mono hb) (hrow4.mono hb) (fun x hx => (hmsv x hx).mono hb)
    rw [hmsl] at hHas
    have n5 : ((i : Int) != (i : Int)) = false := int_ne_self _
    have HML := hid_ hmsl
    have HUL := hid_ hul
    clear hres hR2 hmay hul hmsl hok hus1 hpw1 hpm4 hpw4 hring1 hring4 hb2 hb3 hb4 hr1
    go_wp2_with fail
    refine hLen.mono ?_
    rintro _ _ ⟨rfl, rfl⟩
    go_upto_region 16 with fail
    rw [hk]
    clear hLen hk
    go_wp2_with fail
    refine hA1.mono ?_
    rintro _ w5 ⟨xa, xc, xs, rfl, hb5, hrow5, hm5, hi5⟩
    have hA2' := hA2 _ hb5
    have hxl : xs.length = i := by rw [← HUL.out, ← hm5, List.length_map]
    rw [hxl] at hrow5 ⊢
    have hx5 := OwnS.rowT (OwnS.ofRow hb5 hrow5) hxl
    have hxr : ∀ x ∈ xs, x.rd w5 := fun x hx => (hi5 x hx).rd
    have HM5 := hid_ hm5
    clear hA1 hA2 hrow5 hm5 hi5
    go_wp2_with fail
    refine hA2'.mono ?_
    rintro _ w6 ⟨ya, yc, ys, rfl, hb6, hrow6, hm6, hi6⟩
    obtain ⟨nb, hnb⟩ : ∃ nb, ys.length = nb := ⟨_, rfl⟩
    have hnb2 : nb = min few i := by rw [← hnb, ← HUL.out, ← List.length_take, ← hm6, List.length_map]
    rw [hnb] at hrow6 ⊢
    have hy6 := OwnS.rowT (OwnS.ofRow hb6 hrow6) hnb
    have hyr : ∀ y ∈ ys, y.rd w6 := fun y hy => (hi6 y hy).rd
    have hB56 : Below w4.heap.size w4 w6 := hb5.trans (hb6.mono hb5.size)
    have hms6 := hrow4.mono hB56
    have hmr6 : ∀ x ∈ ms, x.rd w6 := fun x hx => (hmsv x hx).mono hB56
    have hx6 := hx5.mono hb6
    have hxr6 : ∀ x ∈ xs, x.rd w6 := fun x hx => (hxr x hx).mono hb6
    have hHas6 := fun (W : World) (hb : Below w6.heap.size w6 W) => hHas W (hB56.trans (hb.mono hB56.size))
    have hB6 : Below w.heap.size w w6 := hB4.trans (hB56.mono hB4.size)
    have HM6 := hid_ hm6
    have HNB := hid_ hnb
    have HXL := hid_ hxl
    have HNB2 := hid_ hnb2
    have qn : ((nb : Int) != min (few : Int) (i : Int)) = false := by
      have : (nb : Int) = min (few : Int) (i : Int) := by omega
      rw [← this]
      exact int_ne_self _
    clear hA2' hrow6 hm6 hi6 hx5 hxr hb5 hb6 hB56 hxl hnb hnb2 hrow4 hmsv hHas hB3 hB4
    go_wp2_with fail
    go_loopg [15, 16, 88] i (fun gg _ _ v88 wr => ∃ j : Nat, j ≤ i ∧ i - j ≤ gg ∧ v88 = .int .i64 j ∧ Below w6.heap.size w6 wr)
    case atStart => exact ⟨0, by omega, by omega, rfl, Below.refl _ _⟩
    case round =>
      obtain ⟨j, hj, hgg, rfl, h7⟩ := hrel
      by_cases hjl : j < i
      · obtain ⟨t, ht⟩ : ∃ t, ms[j]? = some t := ⟨_, List.getElem?_eq_getElem (by rw [HML.out]; exact hjl)⟩
        obtain ⟨x, hx⟩ : ∃ x, xs[j]? = some x := ⟨_, List.getElem?_eq_getElem (by rw [HXL.out]; exact hjl)⟩
        have hxt : x.t = t.t := by
          have h := HM5.out
          have h2 : (xs.map (·.t))[j]? = some x.t := by rw [List.getElem?_map, hx]; rfl
          rw [h, List.getElem?_map, ht] at h2
          exact (Option.some.inj h2).symm
        have hmemt := List.mem_of_getElem? ht
        have hmemx := List.mem_of_getElem? hx
        obtain ⟨bm, om, rfl, _, hcm⟩ := (hms6.mono h7).at_ j t ht
        obtain ⟨bx, ox, rfl, _, _⟩ := (hx6.mono h7).at_ j x hx
        have c0 : wr.cell? ⟨bm, om + j * 4, none⟩ = some (.int .i64 t.t.id) := hcm 0 _ rfl
        have c1 : wr.cell? ⟨bm, om + j * 4 + 1, none⟩ = some (.slice t.kx t.t.key.length t.kc) := hcm 1 _ rfl
        have c2 : wr.cell? ⟨bm, om + j * 4 + 2, none⟩ = some (.int .i64 t.t.streams) := hcm 2 _ rfl
        have c3 : wr.cell? ⟨bm, om + j * 4 + 3, none⟩ = some (.slice t.rx t.t.rules.length t.rc) := hcm 3 _ rfl
        have h8 := ((show Sat w6 wr [] from ⟨h7, trivial⟩).alloc (.cells #[.int .i64 t.t.id, .slice t.kx t.t.key.length t.kc, .int .i64 t.t.streams, .slice t.rx t.t.rules.length t.rc] 28 (0, 0)))
        have hcx : ∀ W, Below w6.heap.size w6 W → (W.cell? ⟨bx, ox + j * 4, none⟩ = some (.int .i64 t.t.id) ∧ W.cell? ⟨bx, ox + j * 4 + 1, none⟩ = some (.slice x.kx t.t.key.length x.kc) ∧ W.cell? ⟨bx, ox + j * 4 + 2, none⟩ = some (.int .i64 t.t.streams) ∧ W.cell? ⟨bx, ox + j * 4 + 3, none⟩ = some (.slice x.rx t.t.rules.length x.rc)) := by
          intro W hb
          obtain ⟨b', o', he, _, hc⟩ := (hx6.mono hb).at_ j x hx
          injection he with he
          injection he with e1 e2 _
          subst e1 e2
          rw [← hxt]
          exact ⟨hc 0 _ rfl, hc 1 _ rfl, hc 2 _ rfl, hc 3 _ rfl⟩
        have hct : ∀ W, Sat w6 W [Blk wr.heap.size (.cells #[.int .i64 t.t.id, .slice t.kx t.t.key.length t.kc, .int .i64 t.t.streams, .slice t.rx t.t.rules.length t.rc] 28 (0, 0))] → (W.cell? ⟨wr.heap.size, 0, none⟩ = some (.int .i64 t.t.id) ∧ W.cell? ⟨wr.heap.size, 1, none⟩ = some (.slice t.kx t.t.key.length t.kc) ∧ W.cell? ⟨wr.heap.size, 2, none⟩ = some (.int .i64 t.t.streams) ∧ W.cell? ⟨wr.heap.size, 3, none⟩ = some (.slice t.rx t.t.rules.length t.rc)) := fun W h => ⟨h.cell 0 rfl, h.cell 1 rfl, h.cell 2 rfl, h.cell 3 rfl⟩
        have hS1 := fun (W : World) (hb : Below w6.heap.size w6 W) => same_call (w := W) hxt rfl ((hxr6 x hmemx).mono hb) ((hmr6 t hmemt).mono hb)
        have z7 : 0 ≤ (j : Int) ∧ (j : Int) < (i : Int) := by omega
        have h9 := h8.drew
        by_cases hjb : j < nb
        · obtain ⟨y, hy⟩ : ∃ y, ys[j]? = some y := ⟨_, List.getElem?_eq_getElem (by rw [HNB.out]; exact hjb)⟩
          have hyt : y.t = t.t := by
            have h := HM6.out
            have h2 : (ys.map (·.t))[j]? = some y.t := by rw [List.getElem?_map, hy]; rfl
            rw [h, List.getElem?_take, if_pos (by have := HNB2.out; omega), List.getElem?_map, ht] at h2
            exact (Option.some.inj h2).symm
          have hmemy := List.mem_of_getElem? hy
          obtain ⟨by', oy, rfl, _, _⟩ := (hy6.mono h7).at_ j y hy
          have hcy : ∀ W, Below w6.heap.size w6 W → (W.cell? ⟨by', oy + j * 4, none⟩ = some (.int .i64 t.t.id) ∧ W.cell? ⟨by', oy + j * 4 + 1, none⟩ = some (.slice y.kx t.t.key.length y.kc) ∧ W.cell? ⟨by', oy + j * 4 + 2, none⟩ = some (.int .i64 t.t.streams) ∧ W.cell? ⟨by', oy + j * 4 + 3, none⟩ = some (.slice y.rx t.t.rules.length y.rc)) := by
            intro W hb
            obtain ⟨b', o', he, _, hc⟩ := (hy6.mono hb).at_ j y hy
            injection he with he
            injection he with e1 e2 _
            subst e1 e2
            rw [← hyt]
            exact ⟨hc 0 _ rfl, hc 1 _ rfl, hc 2 _ rfl, hc 3 _ rfl⟩
          have hS2 := fun (W : World) (hb : Below w6.heap.size w6 W) => same_call (w := W) hyt rfl ((hyr y hmemy).mono hb) ((hmr6 t hmemt).mono hb)
          have qb : decide (j < nb) = true := by simp; omega
          have qb' : decide ((j : Int) < (nb : Int)) = true := by simp; omega
          have z8 : 0 ≤ (j : Int) ∧ (j : Int) < (nb : Int) := by omega
          have mk : ∀ W, Sat w6 W [Blk wr.heap.size (.cells #[.int .i64 t.t.id, .slice t.kx t.t.key.length t.kc, .int .i64 t.t.streams, .slice t.rx t.t.rules.length t.rc] 28 (0, 0))] → (W.cell? ⟨wr.heap.size, 0, none⟩ = some (.int .i64 t.t.id) ∧ W.cell? ⟨wr.heap.size, 1, none⟩ = some (.slice t.kx t.t.key.length t.kc) ∧ W.cell? ⟨wr.heap.size, 2, none⟩ = some (.int .i64 t.t.streams) ∧ W.cell? ⟨wr.heap.size, 3, none⟩ = some (.slice t.rx t.t.rules.length t.rc)) ∧ (W.cell? ⟨bx, ox + j * 4, none⟩ = some (.int .i64 t.t.id) ∧ W.cell? ⟨bx, ox + j * 4 + 1, none⟩ = some (.slice x.kx t.t.key.length x.kc) ∧ W.cell? ⟨bx, ox + j * 4 + 2, none⟩ = some (.int .i64 t.t.streams) ∧ W.cell? ⟨bx, ox + j * 4 + 3, none⟩ = some (.slice x.rx t.t.rules.length x.rc)) ∧ (W.cell? ⟨by', oy + j * 4, none⟩ = some (.int .i64 t.t.id) ∧ W.cell? ⟨by', oy + j * 4 + 1, none⟩ = some (.slice y.kx t.t.key.length y.kc) ∧ W.cell? ⟨by', oy + j * 4 + 2, none⟩ = some (.int .i64 t.t.streams) ∧ W.cell? ⟨by', oy + j * 4 + 3, none⟩ = some (.slice y.rx t.t.rules.length y.rc)) := fun W h => ⟨hct W h, hcx W h.below, hcy W h.below⟩
          clear hx hy ht hxt hyt hcm hcx hct hcy hi hlt
          go_upto_region 22 with fail
          refine wp_region_held_drew (S := fun W => (W.cell? ⟨wr.heap.size, 0, none⟩ = some (.int .i64 t.t.id) ∧ W.cell? ⟨wr.heap.size, 1, none⟩ = some (.slice t.kx t.t.key.length t.kc) ∧ W.cell? ⟨wr.heap.size, 2, none⟩ = some (.int .i64 t.t.streams) ∧ W.cell? ⟨wr.heap.size, 3, none⟩ = some (.slice t.rx t.t.rules.length t.rc)) ∧ (W.cell? ⟨bx, ox + j * 4, none⟩ = some (.int .i64 t.t.id) ∧ W.cell? ⟨bx, ox + j * 4 + 1, none⟩ = some (.slice x.kx t.t.key.length x.kc) ∧ W.cell? ⟨bx, ox + j * 4 + 2, none⟩ = some (.int .i64 t.t.streams) ∧ W.cell? ⟨bx, ox + j * 4 + 3, none⟩ = some (.slice x.rx t.t.rules.length x.rc)) ∧ (W.cell? ⟨by', oy + j * 4, none⟩ = some (.int .i64 t.t.id) ∧ W.cell? ⟨by', oy + j * 4 + 1, none⟩ = some (.slice y.kx t.t.key.length y.kc) ∧ W.cell? ⟨by', oy + j * 4 + 2, none⟩ = some (.int .i64 t.t.streams) ∧ W.cell? ⟨by', oy + j * 4 + 3, none⟩ = some (.slice y.rx t.t.rules.length y.rc))) (by kernel_rfl) (mk _ h9) (fun hHeld => ?_)
          refine wpAnyH_take (i := 0) (oi := ⟨(some 93), _, _, _, _, _⟩) (v := ?va0) rfl (by kernel_rfl) (by kernel_rfl) (by kernel_rfl) (fun _ _ _ h => h) (Or.inl ⟨by rfl, ?ya0⟩) hHeld ?_
          case ya0 => intro W hW; (try dsimp only at hW); go_simp; try with_reducible rfl
          try simp only [Act.put, List.setIfInBounds_toArray, List.set_cons_zero, List.set_cons_succ]
          refine wpAnyH_take (i := 1) (oi := ⟨(some 94), _, _, _, _, _⟩) (v := ?va1) rfl (by kernel_rfl) (by kernel_rfl) (by kernel_rfl) (fun _ _ _ h => h) (Or.inl ⟨by rfl, ?ya1⟩) hHeld ?_
          case ya1 => intro W hW; (try dsimp only at hW); go_simp; try with_reducible rfl
          try simp only [Act.put, List.setIfInBounds_toArray, List.set_cons_zero, List.set_cons_succ]
          refine wpAnyH_take (i := 2) (oi := ⟨(some 95), _, _, _, _, _⟩) (v := ?va2) rfl (by kernel_rfl) (by kernel_rfl) (by kernel_rfl) (fun _ _ _ h => h) (Or.inl ⟨by rfl, ?ya2⟩) hHeld ?_
          case ya2 => intro W hW; (try dsimp only at hW); go_simp; try with_reducible rfl
          try simp only [Act.put, List.setIfInBounds_toArray, List.set_cons_zero, List.set_cons_succ]
          refine wpAnyH_take (i := 3) (oi := ⟨(some 96), _, _, _, _, _⟩) (v := ?va3) rfl (by kernel_rfl) (by kernel_rfl) (by kernel_rfl) (fun _ _ _ h => h) (Or.inl ⟨by rfl, ?ya3⟩) hHeld ?_
          case ya3 => intro W hW; (try dsimp only at hW); go_simp; try with_reducible rfl
          try simp only [Act.put, List.setIfInBounds_toArray, List.set_cons_zero, List.set_cons_succ]
          refine wpAnyH_take (i := 4) (oi := ⟨(some 97), _, _, _, _, _⟩) (v := ?va4) rfl (by kernel_rfl) (by kernel_rfl) (by kernel_rfl) (fun _ _ _ h => h) (Or.inl ⟨by rfl, ?ya4⟩) hHeld ?_
          case ya4 => intro W hW; (try dsimp only at hW); go_simp; try with_reducible rfl
          try simp only [Act.put, List.setIfInBounds_toArray, List.set_cons_zero, List.set_cons_succ]
          refine wpAnyH_ready (rs := [5]) (by kernel_rfl) (by simp) ?_
          refine AllReadyH.cons (o := ⟨some 98, _, _, _, _, _⟩) rfl (fun K hK => ?_) AllReadyH.nil
          go_simp
          go_at_call 15
          refine (hS1 _ h9.below).mono ?_
          rintro _ w9 ⟨rfl, hb9⟩
          have h10 := h9.under hb9
          refine hK.out _ _ (mk _ h10) (fun hHeld => ?_)
          clear hK K
          try simp only [Act.put, List.setIfInBounds_toArray, List.set_cons_zero, List.set_cons_succ]
          refine wpAnyH_take (i := 6) (oi := ⟨(some 99), _, _, _, _, _⟩) (v := ?vb6) rfl (by kernel_rfl) (by kernel_rfl) (by kernel_rfl) (fun _ _ _ h => h) (Or.inl ⟨by rfl, ?yb6⟩) hHeld ?_
          case yb6 => intro W hW; (try dsimp only at hW); go_simp; try with_reducible rfl
          try simp only [Act.put, List.setIfInBounds_toArray, List.set_cons_zero, List.set_cons_succ]
          refine wpAnyH_take (i := 7) (oi := ⟨(some 100), _, _, _, _, _⟩) (v := ?vb7) rfl (by kernel_rfl) (by kernel_rfl) (by kernel_rfl) (fun _ _ _ h => h) (Or.inl ⟨by rfl, ?yb7⟩) hHeld ?_
          case yb7 => intro W hW; (try dsimp only at hW); go_simp; try with_reducible rfl
          try simp only [Act.put, List.setIfInBounds_toArray, List.set_cons_zero, List.set_cons_succ]
          refine wpAnyH_take (i := 8) (oi := ⟨(some 101), _, _, _, _, _⟩) (v := ?vb8) rfl (by kernel_rfl) (by kernel_rfl) (by kernel_rfl) (fun _ _ _ h => h) (Or.inl ⟨by rfl, ?yb8⟩) hHeld ?_
          case yb8 => intro W hW; (try dsimp only at hW); go_simp; try with_reducible rfl
          try simp only [Act.put, List.setIfInBounds_toArray, List.set_cons_zero, List.set_cons_succ]
          refine wpAnyH_take (i := 9) (oi := ⟨(some 102), _, _, _, _, _⟩) (v := ?vb9) rfl (by kernel_rfl) (by kernel_rfl) (by kernel_rfl) (fun _ _ _ h => h) (Or.inl ⟨by rfl, ?yb9⟩) hHeld ?_
          case yb9 => intro W hW; (try dsimp only at hW); go_simp; try with_reducible rfl
          try simp only [Act.put, List.setIfInBounds_toArray, List.set_cons_zero, List.set_cons_succ]
          refine wpAnyH_take (i := 10) (oi := ⟨(some 103), _, _, _, _, _⟩) (v := ?vb10) rfl (by kernel_rfl) (by kernel_rfl) (by kernel_rfl) (fun _ _ _ h => h) (Or.inl ⟨by rfl, ?yb10⟩) hHeld ?_
          case yb10 => intro W hW; (try dsimp only at hW); go_simp; try with_reducible rfl
          try simp only [Act.put, List.setIfInBounds_toArray, List.set_cons_zero, List.set_cons_succ]
          refine wpAnyH_take (i := 11) (oi := ⟨(some 104), _, _, _, _, _⟩) (v := ?vb11) rfl (by kernel_rfl) (by kernel_rfl) (by kernel_rfl) (fun _ _ _ h => h) (Or.inl ⟨by rfl, ?yb11⟩) hHeld ?_
          case yb11 => intro W hW; (try dsimp only at hW); go_simp; try with_reducible rfl
          try simp only [Act.put, List.setIfInBounds_toArray, List.set_cons_zero, List.set_cons_succ]
          refine wpAnyH_take (i := 12) (oi := ⟨(some 105), _, _, _, _, _⟩) (v := ?vb12) rfl (by kernel_rfl) (by kernel_rfl) (by kernel_rfl) (fun _ _ _ h => h) (Or.inl ⟨by rfl, ?yb12⟩) hHeld ?_
          case yb12 => intro W hW; (try dsimp only at hW); go_simp; try with_reducible rfl
          try simp only [Act.put, List.setIfInBounds_toArray, List.set_cons_zero, List.set_cons_succ]
          refine wpAnyH_take (i := 13) (oi := ⟨(some 106), _, _, _, _, _⟩) (v := ?vb13) rfl (by kernel_rfl) (by kernel_rfl) (by kernel_rfl) (fun _ _ _ h => h) (Or.inl ⟨by rfl, ?yb13⟩) hHeld ?_
          case yb13 => intro W hW; (try dsimp only at hW); go_simp; try with_reducible rfl
          try simp only [Act.put, List.setIfInBounds_toArray, List.set_cons_zero, List.set_cons_succ]
          refine wpAnyH_take (i := 14) (oi := ⟨(some 107), _, _, _, _, _⟩) (v := ?vb14) rfl (by kernel_rfl) (by kernel_rfl) (by kernel_rfl) (fun _ _ _ h => h) (Or.inl ⟨by rfl, ?yb14⟩) hHeld ?_
          case yb14 => intro W hW; (try dsimp only at hW); go_simp; try with_reducible rfl
          try simp only [Act.put, List.setIfInBounds_toArray, List.set_cons_zero, List.set_cons_succ]
          refine wpAnyH_take (i := 15) (oi := ⟨(some 108), _, _, _, _, _⟩) (v := ?vb15) rfl (by kernel_rfl) (by kernel_rfl) (by kernel_rfl) (fun _ _ _ h => h) (Or.inl ⟨by rfl, ?yb15⟩) hHeld ?_
          case yb15 => intro W hW; (try dsimp only at hW); go_simp; try with_reducible rfl
          try simp only [Act.put, List.setIfInBounds_toArray, List.set_cons_zero, List.set_cons_succ]
          refine wpAnyH_take (i := 16) (oi := ⟨(some 109), _, _, _, _, _⟩) (v := ?vb16) rfl (by kernel_rfl) (by kernel_rfl) (by kernel_rfl) (fun _ _ _ h => h) (Or.inl ⟨by rfl, ?yb16⟩) hHeld ?_
          case yb16 => intro W hW; (try dsimp only at hW); go_simp; try with_reducible rfl
          try simp only [Act.put, List.setIfInBounds_toArray, List.set_cons_zero, List.set_cons_succ]
          refine wpAnyH_take (i := 17) (oi := ⟨(some 110), _, _, _, _, _⟩) (v := ?vb17) rfl (by kernel_rfl) (by kernel_rfl) (by kernel_rfl) (fun _ _ _ h => h) (Or.inl ⟨by rfl, ?yb17⟩) hHeld ?_
          case yb17 => intro W hW; (try dsimp only at hW); go_simp; try with_reducible rfl
          try simp only [Act.put, List.setIfInBounds_toArray, List.set_cons_zero, List.set_cons_succ]
          refine wpAnyH_ready (rs := [18]) (by kernel_rfl) (by simp) ?_
          refine AllReadyH.cons (o := ⟨some 111, _, _, _, _, _⟩) rfl (fun K hK => ?_) AllReadyH.nil
          go_simp
          go_at_call 15
          refine (hS2 _ h10.below).mono ?_
          rintro _ w11 ⟨rfl, hb11⟩
          have h12 := h10.under hb11
          refine hK.out _ _ (mk _ h12) (fun hHeld => ?_)
          clear hK K
          try simp only [Act.put, List.setIfInBounds_toArray, List.set_cons_zero, List.set_cons_succ]
          refine wpAnyH_take (i := 19) (oi := ⟨(some 112), _, _, _, _, _⟩) (v := ?vc19) rfl (by kernel_rfl) (by kernel_rfl) (by kernel_rfl) (fun _ _ _ h => h) (Or.inl ⟨by rfl, ?yc19⟩) hHeld ?_
          case yc19 => intro W hW; (try dsimp only at hW); go_simp; try with_reducible rfl
          try simp only [Act.put, List.setIfInBounds_toArray, List.set_cons_zero, List.set_cons_succ]
          refine wpAnyH_take (i := 20) (oi := ⟨(some 113), _, _, _, _, _⟩) (v := ?vc20) rfl (by kernel_rfl) (by kernel_rfl) (by kernel_rfl) (fun _ _ _ h => h) (Or.inl ⟨by rfl, ?yc20⟩) hHeld ?_
          case yc20 => intro W hW; (try dsimp only at hW); go_simp; try with_reducible rfl
          try simp only [Act.put, List.setIfInBounds_toArray, List.set_cons_zero, List.set_cons_succ]
          refine wpAnyH_take (i := 21) (oi := ⟨(some 114), _, _, _, _, _⟩) (v := ?vc21) rfl (by kernel_rfl) (by kernel_rfl) (by kernel_rfl) (fun _ _ _ h => h) (Or.inl ⟨by rfl, ?yc21⟩) hHeld ?_
          case yc21 => intro W hW; (try dsimp only at hW); go_simp; try with_reducible rfl
          try simp only [Act.put, List.setIfInBounds_toArray, List.set_cons_zero, List.set_cons_succ]
          refine wpAnyH_done (by kernel_rfl) ?_ _
          go_wp2_with fail
          go_roundg (i - (j + 1))
          case measure => omega
          case rel => exact ⟨j + 1, by omega, by omega, by go_num, h12.below⟩
        · have qb : decide (j < nb) = false := by simp; omega
          have qb' : decide ((j : Int) < (nb : Int)) = false := by simp; omega
          have mk : ∀ W, Sat w6 W [Blk wr.heap.size (.cells #[.int .i64 t.t.id, .slice t.kx t.t.key.length t.kc, .int .i64 t.t.streams, .slice t.rx t.t.rules.length t.rc] 28 (0, 0))] → (W.cell? ⟨wr.heap.size, 0, none⟩ = some (.int .i64 t.t.id) ∧ W.cell? ⟨wr.heap.size, 1, none⟩ = some (.slice t.kx t.t.key.length t.kc) ∧ W.cell? ⟨wr.heap.size, 2, none⟩ = some (.int .i64 t.t.streams) ∧ W.cell? ⟨wr.heap.size, 3, none⟩ = some (.slice t.rx t.t.rules.length t.rc)) ∧ (W.cell? ⟨bx, ox + j * 4, none⟩ = some (.int .i64 t.t.id) ∧ W.cell? ⟨bx, ox + j * 4 + 1, none⟩ = some (.slice x.kx t.t.key.length x.kc) ∧ W.cell? ⟨bx, ox + j * 4 + 2, none⟩ = some (.int .i64 t.t.streams) ∧ W.cell? ⟨bx, ox + j * 4 + 3, none⟩ = some (.slice x.rx t.t.rules.length x.rc)) := fun W h => ⟨hct W h, hcx W h.below⟩
          clear hx ht hxt hcm hcx hct hi hlt
          go_upto_region 22 with fail
          refine wp_region_held_drew (S := fun W => (W.cell? ⟨wr.heap.size, 0, none⟩ = some (.int .i64 t.t.id) ∧ W.cell? ⟨wr.heap.size, 1, none⟩ = some (.slice t.kx t.t.key.length t.kc) ∧ W.cell? ⟨wr.heap.size, 2, none⟩ = some (.int .i64 t.t.streams) ∧ W.cell? ⟨wr.heap.size, 3, none⟩ = some (.slice t.rx t.t.rules.length t.rc)) ∧ (W.cell? ⟨bx, ox + j * 4, none⟩ = some (.int .i64 t.t.id) ∧ W.cell? ⟨bx, ox + j * 4 + 1, none⟩ = some (.slice x.kx t.t.key.length x.kc) ∧ W.cell? ⟨bx, ox + j * 4 + 2, none⟩ = some (.int .i64 t.t.streams) ∧ W.cell? ⟨bx, ox + j * 4 + 3, none⟩ = some (.slice x.rx t.t.rules.length x.rc))) (by kernel_rfl) (mk _ h9) (fun hHeld => ?_)
          refine wpAnyH_take (i := 0) (oi := ⟨(some 93), _, _, _, _, _⟩) (v := ?vd0) rfl (by kernel_rfl) (by kernel_rfl) (by kernel_rfl) (fun _ _ _ h => h) (Or.inl ⟨by rfl, ?yd0⟩) hHeld ?_
          case yd0 => intro W hW; (try dsimp only at hW); go_simp; try with_reducible rfl
          try simp only [Act.put, List.setIfInBounds_toArray, List.set_cons_zero, List.set_cons_succ]
          refine wpAnyH_take (i := 1) (oi := ⟨(some 94), _, _, _, _, _⟩) (v := ?vd1) rfl (by kernel_rfl) (by kernel_rfl) (by kernel_rfl) (fun _ _ _ h => h) (Or.inl ⟨by rfl, ?yd1⟩) hHeld ?_
          case yd1 => intro W hW; (try dsimp only at hW); go_simp; try with_reducible rfl
          try simp only [Act.put, List.setIfInBounds_toArray, List.set_cons_zero, List.set_cons_succ]
          refine wpAnyH_take (i := 2) (oi := ⟨(some 95), _, _, _, _, _⟩) (v := ?vd2) rfl (by kernel_rfl) (by kernel_rfl) (by kernel_rfl) (fun _ _ _ h => h) (Or.inl ⟨by rfl, ?yd2⟩) hHeld ?_
          case yd2 => intro W hW; (try dsimp only at hW); go_simp; try with_reducible rfl
          try simp only [Act.put, List.setIfInBounds_toArray, List.set_cons_zero, List.set_cons_succ]
          refine wpAnyH_take (i := 3) (oi := ⟨(some 96), _, _, _, _, _⟩) (v := ?vd3) rfl (by kernel_rfl) (by kernel_rfl) (by kernel_rfl) (fun _ _ _ h => h) (Or.inl ⟨by rfl, ?yd3⟩) hHeld ?_
          case yd3 => intro W hW; (try dsimp only at hW); go_simp; try with_reducible rfl
          try simp only [Act.put, List.setIfInBounds_toArray, List.set_cons_zero, List.set_cons_succ]
          refine wpAnyH_take (i := 4) (oi := ⟨(some 97), _, _, _, _, _⟩) (v := ?vd4) rfl (by kernel_rfl) (by kernel_rfl) (by kernel_rfl) (fun _ _ _ h => h) (Or.inl ⟨by rfl, ?yd4⟩) hHeld ?_
          case yd4 => intro W hW; (try dsimp only at hW); go_simp; try with_reducible rfl
          try simp only [Act.put, List.setIfInBounds_toArray, List.set_cons_zero, List.set_cons_succ]
          refine wpAnyH_ready (rs := [5]) (by kernel_rfl) (by simp) ?_
          refine AllReadyH.cons (o := ⟨some 98, _, _, _, _, _⟩) rfl (fun K hK => ?_) AllReadyH.nil
          go_simp
          go_at_call 15
          refine (hS1 _ h9.below).mono ?_
          rintro _ w9 ⟨rfl, hb9⟩
          have h10 := h9.under hb9
          refine hK.out _ _ (mk _ h10) (fun hHeld => ?_)
          clear hK K
          try simp only [Act.put, List.setIfInBounds_toArray, List.set_cons_zero, List.set_cons_succ]
          refine wpAnyH_take (i := 6) (oi := ⟨(some 99), _, _, _, _, _⟩) (v := ?ve6) rfl (by kernel_rfl) (by kernel_rfl) (by kernel_rfl) (fun _ _ _ h => h) (Or.inl ⟨by rfl, ?ye6⟩) hHeld ?_
          case ye6 => intro W hW; (try dsimp only at hW); go_simp; try with_reducible rfl
          try simp only [Act.put, List.setIfInBounds_toArray, List.set_cons_zero, List.set_cons_succ]
          refine wpAnyH_take (i := 7) (oi := ⟨(some 100), _, _, _, _, _⟩) (v := ?ve7) rfl (by kernel_rfl) (by kernel_rfl) (by kernel_rfl) (fun _ _ _ h => h) (Or.inl ⟨by rfl, ?ye7⟩) hHeld ?_
          case ye7 => intro W hW; (try dsimp only at hW); go_simp; try with_reducible rfl
          try simp only [Act.put, List.setIfInBounds_toArray, List.set_cons_zero, List.set_cons_succ]
          refine wpAnyH_take (i := 8) (oi := ⟨(some 101), _, _, _, _, _⟩) (v := ?ve8) rfl (by kernel_rfl) (by kernel_rfl) (by kernel_rfl) (fun _ _ _ h => h) (Or.inl ⟨by rfl, ?ye8⟩) hHeld ?_
          case ye8 => intro W hW; (try dsimp only at hW); go_simp; try with_reducible rfl
          try simp only [Act.put, List.setIfInBounds_toArray, List.set_cons_zero, List.set_cons_succ]
          refine wpAnyH_take (i := 9) (oi := ⟨(some 102), _, _, _, _, _⟩) (v := ?ve9) rfl (by kernel_rfl) (by kernel_rfl) (by kernel_rfl) (fun _ _ _ h => h) (Or.inl ⟨by rfl, ?ye9⟩) hHeld ?_
          case ye9 => intro W hW; (try dsimp only at hW); go_simp; try with_reducible rfl
          try simp only [Act.put, List.setIfInBounds_toArray, List.set_cons_zero, List.set_cons_succ]
          refine wpAnyH_take (i := 10) (oi := ⟨(some 103), _, _, _, _, _⟩) (v := ?ve10) rfl (by kernel_rfl) (by kernel_rfl) (by kernel_rfl) (fun _ _ _ h => h) (Or.inl ⟨by rfl, ?ye10⟩) hHeld ?_
          case ye10 => intro W hW; (try dsimp only at hW); go_simp; try with_reducible rfl
          try simp only [Act.put, List.setIfInBounds_toArray, List.set_cons_zero, List.set_cons_succ]
          refine wpAnyH_take (i := 11) (oi := ⟨(some 104), _, _, _, _, _⟩) (v := ?ve11) rfl (by kernel_rfl) (by kernel_rfl) (by kernel_rfl) (fun _ _ _ h => h) (Or.inl ⟨by rfl, ?ye11⟩) hHeld ?_
          case ye11 => intro W hW; (try dsimp only at hW); go_simp; try with_reducible rfl
          try simp only [Act.put, List.setIfInBounds_toArray, List.set_cons_zero, List.set_cons_succ]
          refine wpAnyH_take (i := 12) (oi := ⟨(some 105), _, _, _, _, _⟩) (v := ?ve12) rfl (by kernel_rfl) (by kernel_rfl) (by kernel_rfl) (fun _ _ _ h => h) (Or.inl ⟨by rfl, ?ye12⟩) hHeld ?_
          case ye12 => intro W hW; (try dsimp only at hW); go_simp; try with_reducible rfl
          try simp only [Act.put, List.setIfInBounds_toArray, List.set_cons_zero, List.set_cons_succ]
          refine wpAnyH_take (i := 13) (oi := ⟨(some 106), _, _, _, _, _⟩) (v := undef) rfl (by kernel_rfl) (by kernel_rfl) (by kernel_rfl) (fun _ _ _ h => h) (Or.inr ⟨by rfl, rfl⟩) hHeld ?_
          try simp only [Act.put, List.setIfInBounds_toArray, List.set_cons_zero, List.set_cons_succ]
          refine wpAnyH_take (i := 14) (oi := ⟨(some 107), _, _, _, _, _⟩) (v := undef) rfl (by kernel_rfl) (by kernel_rfl) (by kernel_rfl) (fun _ _ _ h => h) (Or.inr ⟨by rfl, rfl⟩) hHeld ?_
          try simp only [Act.put, List.setIfInBounds_toArray, List.set_cons_zero, List.set_cons_succ]
          refine wpAnyH_take (i := 15) (oi := ⟨(some 108), _, _, _, _, _⟩) (v := undef) rfl (by kernel_rfl) (by kernel_rfl) (by kernel_rfl) (fun _ _ _ h => h) (Or.inr ⟨by rfl, rfl⟩) hHeld ?_
          try simp only [Act.put, List.setIfInBounds_toArray, List.set_cons_zero, List.set_cons_succ]
          refine wpAnyH_take (i := 16) (oi := ⟨(some 109), _, _, _, _, _⟩) (v := undef) rfl (by kernel_rfl) (by kernel_rfl) (by kernel_rfl) (fun _ _ _ h => h) (Or.inr ⟨by rfl, rfl⟩) hHeld ?_
          try simp only [Act.put, List.setIfInBounds_toArray, List.set_cons_zero, List.set_cons_succ]
          refine wpAnyH_take (i := 17) (oi := ⟨(some 110), _, _, _, _, _⟩) (v := undef) rfl (by kernel_rfl) (by kernel_rfl) (by kernel_rfl) (fun _ _ _ h => h) (Or.inr ⟨by rfl, rfl⟩) hHeld ?_
          try simp only [Act.put, List.setIfInBounds_toArray, List.set_cons_zero, List.set_cons_succ]
          refine wpAnyH_take (i := 18) (oi := ⟨(some 111), _, _, _, _, _⟩) (v := undef) rfl (by kernel_rfl) (by kernel_rfl) (by kernel_rfl) (fun _ _ _ h => h) (Or.inr ⟨by rfl, rfl⟩) hHeld ?_
          try simp only [Act.put, List.setIfInBounds_toArray, List.set_cons_zero, List.set_cons_succ]
          refine wpAnyH_take (i := 19) (oi := ⟨(some 112), _, _, _, _, _⟩) (v := undef) rfl (by kernel_rfl) (by kernel_rfl) (by kernel_rfl) (fun _ _ _ h => h) (Or.inr ⟨by rfl, rfl⟩) hHeld ?_
          try simp only [Act.put, List.setIfInBounds_toArray, List.set_cons_zero, List.set_cons_succ]
          refine wpAnyH_take (i := 20) (oi := ⟨(some 113), _, _, _, _, _⟩) (v := ?vf20) rfl (by kernel_rfl) (by kernel_rfl) (by kernel_rfl) (fun _ _ _ h => h) (Or.inl ⟨by rfl, ?yf20⟩) hHeld ?_
          case yf20 => intro W hW; (try dsimp only at hW); go_simp; try with_reducible rfl
          try simp only [Act.put, List.setIfInBounds_toArray, List.set_cons_zero, List.set_cons_succ]
          refine wpAnyH_take (i := 21) (oi := ⟨(some 114), _, _, _, _, _⟩) (v := ?vf21) rfl (by kernel_rfl) (by kernel_rfl) (by kernel_rfl) (fun _ _ _ h => h) (Or.inl ⟨by rfl, ?yf21⟩) hHeld ?_
          case yf21 => intro W hW; (try dsimp only at hW); go_simp; try with_reducible rfl
          try simp only [Act.put, List.setIfInBounds_toArray, List.set_cons_zero, List.set_cons_succ]
          refine wpAnyH_done (by kernel_rfl) ?_ _
          go_wp2_with fail
          go_roundg (i - (j + 1))
          case measure => omega
          case rel => exact ⟨j + 1, by omega, by omega, by go_num, h10.below⟩
      · obtain rfl : j = i := by omega
        have hB7 : Below w.heap.size w wr := hB6.trans (h7.mono hB6.size)
        have hH := hHas6 _ h7
        clear hHas6
        go_wp2_with fail
        refine hH.mono ?_
        rintro _ w8 ⟨rfl, hb8⟩
        go_wp2_with fail
        refine (hAw _ (hB7.trans (hb8.mono hB7.size))).mono ?_
        rintro _ w9 ⟨rfl, hb9⟩
        go_wp2_with fail
        go_ret
        exact ⟨rfl, hb9⟩
end
end Go.Proofs.Ytahnjbbjfjlpoaa
