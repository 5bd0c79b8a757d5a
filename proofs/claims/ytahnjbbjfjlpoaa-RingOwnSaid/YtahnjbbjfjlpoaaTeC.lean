/- Tenants with memory of their own: slices.Clone at rules, ring.own, walked. -/
import Derived.Deep.RegionLaw
import Derived.Deep.RegionHeld3
import Derived.Test.YtahnjbbjfjlpoaaTeB
import Derived.Test.YtahnjbbjfjlpoaaClone
namespace Go.Proofs.Ytahnjbbjfjlpoaa
open Go Go.RowKit Go.Shelf
set_option linter.unusedVariables false
set_option linter.unusedSimpArgs false

/-- A rule's cells, its net's bytes read in w. -/
def RuR (w : World) (r : RuleM) (cs : List Value) : Prop := ∃ x c, cs = ruC r (.slice x r.net.length c) ∧ RdRu w r x c
/-- A rule's cells, its net's bytes owned. -/
def RuO (r : RuleM) (cs : List Value) : Assn := fun h => ∃ x c, (cs = ruC r (.slice x r.net.length c) ∧ r.name.size ≤ maxLen) ∧ OwnB 5 (.slice x r.net.length c) r.net h
theorem choose_list {α : Type} {n : Nat} {P : Nat → α → Prop} : (∀ i, i < n → ∃ x, P i x) → ∃ l : List α, l.length = n ∧ ∀ i x, l[i]? = some x → P i x := by
  induction n with
  | zero => exact fun _ => ⟨[], rfl, fun i x h => by simp at h⟩
  | succ n ih =>
    intro h
    obtain ⟨l, hl, hp⟩ := ih (fun i hi => h i (by omega))
    obtain ⟨x, hx⟩ := h n (by omega)
    refine ⟨l ++ [x], by simp [hl], fun i y hy => ?_⟩
    by_cases hi : i < l.length
    · rw [List.getElem?_append_left hi] at hy
      exact hp i y hy
    · rw [List.getElem?_append_right (by omega)] at hy
      have : i - l.length = 0 := by
        rcases Nat.eq_zero_or_pos (i - l.length) with h0 | h0
        · exact h0
        · rw [List.getElem?_eq_none (by simp; omega)] at hy; cases hy
      rw [this] at hy
      obtain rfl : x = y := by simpa using hy
      rw [show i = n by omega]
      exact hx
theorem RdRus.rows {w : World} {a : Option Addr} {cap : Nat} {rs : List RuleM} (h : RdRus w a cap rs) :
    ∃ css : List (List Value), css.length = rs.length ∧ (∀ (i : Nat) r cs, rs[i]? = some r → css[i]? = some cs → RuR w r cs) ∧ (∀ cs ∈ css, cs.length = 7 ∧ ∀ u ∈ cs, u.oneCell' = true) ∧
      (∀ (i : Nat) cs, css[i]? = some cs → ∃ b off, a = some ⟨b, off, none⟩ ∧ b < w.heap.size ∧ ∀ j u, cs[j]? = some u → w.cell? ⟨b, off + i * 7 + j, none⟩ = some u) := by
  obtain ⟨css, hl, hp⟩ := choose_list (n := rs.length) (P := fun i cs => ∀ r, rs[i]? = some r → RuR w r cs ∧ (cs.length = 7 ∧ ∀ u ∈ cs, u.oneCell' = true) ∧ ∃ b off, a = some ⟨b, off, none⟩ ∧ b < w.heap.size ∧ ∀ j u, cs[j]? = some u → w.cell? ⟨b, off + i * 7 + j, none⟩ = some u) (fun i hi => by
    obtain ⟨b, off, x, c, h1, h2, h3, h4⟩ := h.at_ i rs[i] (List.getElem?_eq_getElem hi)
    refine ⟨ruC rs[i] (.slice x rs[i].net.length c), fun r hr => ?_⟩
    rw [List.getElem?_eq_getElem hi] at hr
    injection hr with hr
    subst hr
    exact ⟨⟨x, c, rfl, h4⟩, ⟨rfl, by intro u hu; simp only [ruC, List.mem_cons, List.not_mem_nil, or_false] at hu; rcases hu with rfl | rfl | rfl | rfl | rfl | rfl | rfl <;> rfl⟩, b, off, h1, h2, h3⟩)
  refine ⟨css, hl, fun i r cs hr hcs => (hp i cs hcs r hr).1, fun cs hcs => ?_, fun i cs hcs => ?_⟩
  · obtain ⟨i, hi, rfl⟩ := List.getElem_of_mem hcs
    exact (hp i _ (List.getElem?_eq_getElem hi) rs[i] (List.getElem?_eq_getElem (by omega))).2.1
  · have hi := (List.getElem?_eq_some_iff.1 hcs).1
    exact (hp i _ hcs rs[i] (List.getElem?_eq_getElem (by omega))).2.2
theorem info_ru : ∃ i, Try.prog.info? 46 = some i ∧ i.zero = some (.agg #[.int .i64 0, .bool false, .slice none 0 0, .int .i64 0, .string ⟨#[]⟩, .int .i64 0, .int .i64 0]) ∧ i.size = 7 ∧ i.bytes = 80 := info_at (by kernel_rfl)
section
variable {w0 w : World} {L : List Assn}
set_option maxHeartbeats 400000 in
theorem clone_rules (la : Option Addr) (cap : Nat) (rs : List RuleM) (hbase : Below w0.heap.size w0 w) (hr : RdRus w0 la cap rs) (hl : rs.length ≤ 1000000) :
    Calls Try.prog 40 #[.slice la rs.length cap] w fun e w' => ∃ (a' : Option Addr) (c' : Nat) (css : List (List Value)), e = .returned (.slice a' rs.length c') ∧ css.length = rs.length ∧ (∀ cs ∈ css, cs.length = 7) ∧ (∀ (i : Nat) r cs, rs[i]? = some r → css[i]? = some cs → RuR w0 r cs) ∧
      Sat w w' [OwnS 46 7 (.slice a' rs.length c') rs.length css.flatten] := by
  obtain ⟨css, hcl, hru, h7, hcell⟩ := hr.rows
  have h77 : ∀ cs ∈ css, cs.length = 7 := fun cs h => (h7 cs h).1
  have hfl := flatten_len h77
  have h0 : Sat w w ([] : List Assn) := Sat.refl w
  cases la with
  | none =>
    have hc := hr.nil rfl
    have hle := hr.le
    have hz : rs = [] := List.eq_nil_of_length_eq_zero (by omega)
    subst hz
    subst hc
    obtain rfl : css = [] := List.eq_nil_of_length_eq_zero (by simpa using hcl)
    go_enter Try.func40, Try.ntmps40
    go_wp2
    go_ret
    exact ⟨none, 0, [], rfl, rfl, h77, by simp, OwnS.nilI h0⟩
  | some ad =>
    obtain ⟨i0, hi, hz0, hz1, hz2⟩ := info_ru
    obtain ⟨n, hn⟩ : ∃ n, rs.length = n := ⟨_, rfl⟩
    rw [hn] at hl hcl ⊢
    have HN := hid_ hn
    have HR := hid_ hru
    have H7 := hid_ h77
    have HC := hid_ hcl
    have hsrc : Src Try.prog 7 26 (.slice (some ad) n cap) n css.flatten (w.alloc (.cells #[] 46 (0, 0))) := by
      refine Src.ofSlice _ Try.underlying26 ad n cap css.flatten (by rw [hfl, hcl]) (fun j u hj => ?_) (fun u hu => ?_)
      · have hjl := (List.getElem?_eq_some_iff.1 hj).1
        rw [hfl] at hjl
        have hd : j / 7 < css.length := by omega
        obtain ⟨b, off, he, hb, hc⟩ := hcell (j / 7) css[j / 7] (List.getElem?_eq_getElem hd)
        injection he with he
        subst he
        have hj2 : css.flatten[j / 7 * 7 + j % 7]? = css[j / 7][j % 7]? := flatten_get h77 (List.getElem?_eq_getElem hd) (Nat.mod_lt _ (by decide))
        rw [show j / 7 * 7 + j % 7 = j by omega, hj] at hj2
        have h3 := hc (j % 7) u hj2.symm
        rw [addr_add]
        rw [show off + j / 7 * 7 + j % 7 = off + j by omega] at h3
        exact ((hbase.alloc hbase.size _).cell (p := ⟨b, off + j, none⟩) hb).trans h3
      · obtain ⟨cs, hcs, hu2⟩ := List.mem_flatten.1 hu
        exact (h7 cs hcs).2 u hu2
    clear hcell h7 hru hcl hn hr h77 hfl hbase
    go_enter Try.func40, Try.ntmps40
    go_wp2_with (at_builtin; refine wpList_append_sat (w0 := w) (L := []) (e := 46) (sz := 7) (n := 0) (xs := []) rfl _ _ 26 26 rfl Try.underlying26 hi hz0 hz1 hz2 rfl rfl ?c1 rfl hsrc ?c3 ?c4 ?c5)
    case c1 => exact OwnS.ofBlk (h0.alloc _) (Nat.le_refl _) (Nat.zero_le _) (by simp) (by simp)
    case c3 => simp only [maxLen]; omega
    case c4 => omega
    intro a' c' w1 h4 _
    go_wp2
    go_ret
    exact ⟨a', c', css, rfl, HC.out, H7.out, HR.out, h4⟩
theorem flat_put {done rest : List (List Value)} {c0 : List Value} {u : Value} {k : Nat} (h : ∀ cs ∈ done, cs.length = 7) (hc : c0.length = 7) (hk : k < 7) :
    ((done ++ c0 :: rest).flatten).take (done.length * 7 + k) ++ [u] ++ ((done ++ c0 :: rest).flatten).drop (done.length * 7 + k + 1) = (done ++ c0.set k u :: rest).flatten := by
  have hl := flatten_len h
  simp only [List.flatten_append, List.flatten_cons]
  rw [List.take_append, List.drop_append, hl, List.take_of_length_le (by omega), List.drop_of_length_le (l := done.flatten) (by omega), List.nil_append, show done.length * 7 + k - done.length * 7 = k by omega, show done.length * 7 + k + 1 - done.length * 7 = k + 1 by omega]
  rw [List.take_append_of_le_length (by omega), List.drop_append_of_le_length (by omega)]
  rw [List.set_eq_take_append_cons_drop, if_pos (by omega)]
  simp
theorem own_cell {e : TypeId} {sz n b off cap i : Nat} {xs : List Value} {u : Value} {L : List Assn} {w0 w : World} (h : Sat w0 w (OwnS e sz (.slice (some ⟨b, off, none⟩) n cap) n xs :: L)) {k : Nat} (hk : xs[i * 7 + k]? = some u) : w.cell? ⟨b, off + i * 7 + k, none⟩ = some u := by
  have hl := OwnS.len h
  have hlt := (List.getElem?_eq_some_iff.1 hk).1
  have hn : 0 < n := by
    rcases Nat.eq_zero_or_pos n with rfl | h0
    · rw [Nat.zero_mul] at hl; omega
    · exact h0
  obtain ⟨b', o', c', he, _, _, hc, _⟩ := OwnS.cells h hn
  injection he with he _ _
  injection he with he
  injection he with e1 e2
  subst e1 e2
  rw [Nat.add_assoc]
  exact hc _ u hk
theorem own_frozen {e : TypeId} {sz n b off cap i : Nat} {xs : List Value} {u : Value} {L : List Assn} {w0 w : World} (h : Sat w0 w (OwnS e sz (.slice (some ⟨b, off, none⟩) n cap) n xs :: L)) {k : Nat} (hk : xs[i * 7 + k]? = some u) : w.frozen? ⟨b, off + i * 7 + k, none⟩ = false := by
  have hl := OwnS.len h
  have hlt := (List.getElem?_eq_some_iff.1 hk).1
  have hn : 0 < n := by
    rcases Nat.eq_zero_or_pos n with rfl | h0
    · rw [Nat.zero_mul] at hl; omega
    · exact h0
  obtain ⟨b', o', c', he, _, _, _, hf⟩ := OwnS.cells h hn
  injection he with he _ _
  injection he with he
  injection he with e1 e2
  subst e1 e2
  exact hf _
/-- What a tenant owns. -/
def TeO (v : TenV) : Assn := Star [OwnB 5 (.slice v.kx v.t.key.length v.kc) v.t.key, OwnL 46 7 RuO (.slice v.rx v.t.rules.length v.rc) v.t.rules]
set_option maxRecDepth 100000 in
set_option maxHeartbeats 4000000 in
theorem ring_own (v : TenV) (hv : v.rd w) (hkl : v.t.key.length ≤ 1000000) (hrl : v.t.rules.length ≤ 1000000) (hnl : ∀ r ∈ v.t.rules, r.net.length ≤ 1000000) :
    Calls Try.prog 27 #[.agg v.c.toArray] w fun e w' => ∃ u : TenV, e = .returned (.agg u.c.toArray) ∧ u.t = v.t ∧ Sat w w' [TeO u] := by
  obtain ⟨⟨id, key, st, rs⟩, kx, kc, rx, rc⟩ := v
  obtain ⟨hk, hr⟩ := hv
  unfold TenV.c
  dsimp only at hk hr hkl hrl hnl ⊢
  have hs := (Sat.refl w).alloc2 (.cells #[.int .i64 id, .slice kx key.length kc, .int .i64 st, .slice rx rs.length rc] 28 (0, 0)) (.cells #[.int .i64 0, .slice none 0 0, .int .i64 0, .slice none 0 0] 28 (0, 0))
  obtain ⟨g, hg⟩ : ∃ g, w.heap.size = g := ⟨_, rfl⟩
  rw [hg] at hs
  have h0 := hs.drew
  have hK : ∀ W, Below w.heap.size w W → Calls Try.prog 39 #[.slice kx key.length kc] W fun e w' => ∃ a' c', e = .returned (.slice a' key.length c') ∧ Sat W w' [OwnB 5 (.slice a' key.length c') key] := fun W hW => clone_any _ key (hk.mono hW) hkl
  have hR : ∀ W, Below w.heap.size w W → Calls Try.prog 40 #[.slice rx rs.length rc] W fun e w' => ∃ (a' : Option Addr) (c' : Nat) (css : List (List Value)), e = .returned (.slice a' rs.length c') ∧ css.length = rs.length ∧ (∀ cs ∈ css, cs.length = 7) ∧ (∀ (i : Nat) r cs, rs[i]? = some r → css[i]? = some cs → RuR w r cs) ∧
      Sat W w' [OwnS 46 7 (.slice a' rs.length c') rs.length css.flatten] := fun W hW => clone_rules rx rc rs hW hr hrl
  have c1 := h0.drop.cell 1 (v := .slice kx key.length kc) rfl
  have c3 := h0.drop.cell 3 (v := .slice rx rs.length rc) rfl
  have f1 := h0.drop.frozen 1
  have f3 := h0.drop.frozen 3
  go_enter Try.func27, Try.ntmps27
  go_upto_region 1 with fail
  go_cut [] (fun wx => ∃ (a2 : Option Addr) (k2 : Nat) (a3 : Option Addr) (k3 : Nat) (css : List (List Value)), css.length = rs.length ∧ (∀ cs ∈ css, cs.length = 7) ∧ (∀ (i : Nat) r cs, rs[i]? = some r → css[i]? = some cs → RuR w r cs) ∧
    Sat w wx [OwnS 46 7 (.slice a3 rs.length k3) rs.length css.flatten, Blk g (.cells #[.int .i64 id, .slice a2 key.length k2, .int .i64 st, .slice a3 rs.length k3] 28 (0, 0)), OwnB 5 (.slice a2 key.length k2) key, Blk (g + 1) (.cells #[.int .i64 0, .slice none 0 0, .int .i64 0, .slice none 0 0] 28 (0, 0))])
  case first =>
    go_region_law (first
      | (go_simp; go_at_call 39; refine (hK _ h0.below).mono ?_; rintro _ w2 ⟨a2, k2, rfl, hc2⟩; have h2 := h0.trans hc2; have c1' := (Sat.front [_, _] h2).cell 1 (v := .slice kx key.length kc) rfl; have c3' := (Sat.front [_, _] h2).cell 3 (v := .slice rx rs.length rc) rfl; have f1' := (Sat.front [_, _] h2).frozen 1; have f3' := (Sat.front [_, _] h2).frozen 3)
      | (go_simp; go_at_call 40; refine (hR _ h2.below).mono ?_; rintro _ w3 ⟨a3, k3, css, rfl, hcl, hc7, hcr, hc3⟩; have h3 := h2.trans hc3; have c1q := (Sat.front [_, _, _] h3).cell 1 (v := .slice kx key.length kc) rfl; have c3q := (Sat.front [_, _, _] h3).cell 3 (v := .slice rx rs.length rc) rfl; have f1q := (Sat.front [_, _, _] h3).frozen 1; have f3q := (Sat.front [_, _, _] h3).frozen 3))
    all_goals
      have h4 := ((Sat.front [_, _, _] h3).set 1 (.slice a2 key.length k2)).set 3 (.slice a3 rs.length k3)
      simp only [List.setIfInBounds_toArray, List.set_cons_succ, List.set_cons_zero] at h4
      go_wp2_with fail
      go_meet
      exact ⟨a2, k2, a3, k3, css, hcl, hc7, hcr, Sat.re [1, 0, 2, 3] [_, _, _, _] h4⟩
  obtain ⟨a2, k2, a3, k3, css, hcl, hc7, hcr, h1⟩ := hcut
  clear hs h0 c1 c3 f1 f3 hK hR hg
  obtain ⟨n, hn⟩ : ∃ n, rs.length = n := ⟨_, rfl⟩
  have HN := hid_ hn
  have HCL := hid_ hcl
  have HC7 := hid_ hc7
  have HCR := hid_ hcr
  obtain ⟨a3', k3', he3, hk3, hk3m⟩ := OwnS.form h1
  injection he3 with e1 e2 e3
  clear e1 e2
  subst e3
  unfold maxLen at hk3m
  rw [hn] at h1 hk3 ⊢
  clear hn hcl hc7 hcr
  have c3 := (Sat.front [_] h1).cell 3 (v := .slice a3 n k3) rfl
  go_wp2_with fail
  go_loopg [3, 15] n (fun gg _ v15 wr => ∃ (i : Nat) (done : List (List Value)), i ≤ n ∧ n - i ≤ gg ∧ v15 = .int .i64 i ∧ done.length = i ∧ (∀ cs ∈ done, cs.length = 7) ∧
    Sat w wr (OwnS 46 7 (.slice a3 n k3) n (done ++ css.drop i).flatten :: (List.zipWith RuO (rs.take i) done ++ [Blk g (.cells #[.int .i64 id, .slice a2 key.length k2, .int .i64 st, .slice a3 n k3] 28 (0, 0)), OwnB 5 (.slice a2 key.length k2) key, Blk (g + 1) (.cells #[.int .i64 0, .slice none 0 0, .int .i64 0, .slice none 0 0] 28 (0, 0))])))
  case atStart => exact ⟨0, [], by omega, by omega, rfl, rfl, by simp, by simpa using h1⟩
  case round =>
    obtain ⟨i, done, hi, hgg, rfl, hdl, hd7, h2⟩ := hrel
    clear h1 c3
    by_cases hlt : i < n
    · obtain ⟨r, hri⟩ : ∃ r, rs[i]? = some r := ⟨_, List.getElem?_eq_getElem (by rw [HN.out]; exact hlt)⟩
      have hci : css[i]? = some (css[i]'(by rw [HCL.out, HN.out]; exact hlt)) := List.getElem?_eq_getElem _
      obtain ⟨x, c, hcs, hru⟩ := HCR.out i r _ hri hci
      rw [hcs] at hci
      have hdrop : css.drop i = ruC r (.slice x r.net.length c) :: css.drop (i + 1) := by
        rw [List.drop_eq_getElem_cons (by rw [HCL.out, HN.out]; exact hlt), hcs]
      rw [hdrop] at h2
      obtain ⟨b, off, cap', he, hbge, hblt, hcell, hfr⟩ := OwnS.cells h2 (by omega)
      injection he with e1 e2 e3
      clear e2
      subst e1
      subst e3
      have hnet := hnl r (List.mem_of_getElem? hri)
      have hC : ∀ W, Below w.heap.size w W → Calls Try.prog 39 #[.slice x r.net.length c] W fun e w' => ∃ a' c', e = .returned (.slice a' r.net.length c') ∧ Sat W w' [OwnB 5 (.slice a' r.net.length c') r.net] := fun W hW => clone_any _ r.net (hru.net.mono hW) hnet
      have h2d := h2.drew
      have hbx := Sat.front (_ :: List.zipWith RuO (rs.take i) done) (h2d : Sat w wr.drew ((_ :: List.zipWith RuO (rs.take i) done) ++ Blk g _ :: _))
      have cb3 := hbx.cell 3 (v := .slice (some ⟨b, off, none⟩) n k3) rfl
      have hget : (done ++ ruC r (.slice x r.net.length c) :: css.drop (i + 1)).flatten[i * 7 + 2]? = some (.slice x r.net.length c) := by
        have h7 : ∀ cs ∈ done ++ ruC r (.slice x r.net.length c) :: css.drop (i + 1), cs.length = 7 := by
          intro cs h
          rcases List.mem_append.1 h with h | h
          · exact hd7 cs h
          · rcases List.mem_cons.1 h with rfl | h
            · rfl
            · exact HC7.out cs (List.mem_of_mem_drop h)
        exact flatten_get (i := i) (j := 2) (cs := ruC r (.slice x r.net.length c)) h7 (by rw [List.getElem?_append_right (by omega), hdl]; simp) (by decide)
      have cr2 : wr.drew.cell? ⟨b, off + i * 7 + 2, none⟩ = some (.slice x r.net.length c) := by
        have := hcell (i * 7 + 2) _ hget
        rw [← Nat.add_assoc] at this
        exact this
      have z1 : 0 ≤ (i : Int) ∧ (i : Int) < (n : Int) := by omega
      have HCS := hid_ hcs
      have HDR := hid_ hdrop
      have HRI := hid_ hri
      have HG := hid_ hget
      have hname := hru.name
      clear hci hcs hdrop hri hcell hget hbx hru
      go_upto_region 5 with fail
      go_region_law (first
        | (go_simp; go_at_call 39; refine (hC _ h2d.below).mono ?_; rintro _ w4 ⟨a4, k4, rfl, hc4⟩; have h4 := h2d.trans hc4; have hbx := Sat.front (_ :: _ :: List.zipWith RuO (rs.take i) done) (h4 : Sat w w4 ((_ :: _ :: List.zipWith RuO (rs.take i) done) ++ Blk g _ :: _)); have cb3' := hbx.cell 3 (v := .slice (some ⟨b, off, none⟩) n k3) rfl; have cr2' : w4.cell? ⟨b, off + i * 7 + 2, none⟩ = some (.slice x r.net.length c) := own_cell (Sat.swap h4) HG.out; have fr2' : w4.frozen? ⟨b, off + i * 7 + 2, none⟩ = false := own_frozen (Sat.swap h4) HG.out))
      all_goals
        have h5 := OwnS.put (o := i * 7 + 2) (vs := [.slice a4 r.net.length k4]) (Sat.swap h4) (by have := OwnS.len (Sat.swap h4); simp only [List.length_singleton]; omega)
        rw [← hdl, List.length_singleton, flat_put hd7 rfl (by decide), hdl] at h5
        rw [← Nat.add_assoc] at h5
        have h7 := h5.swap.imp (B := RuO r (ruC r (.slice a4 r.net.length k4))) (fun _ hh => ⟨a4, k4, ⟨rfl, hname⟩, hh⟩)
        have h8 := Sat.back (_ :: List.zipWith RuO (rs.take i) done) h7
        go_wp2_with fail
        go_roundg (n - (i + 1))
        case measure => omega
        case rel =>
          refine ⟨i + 1, done ++ [ruC r (.slice a4 r.net.length k4)], by omega, by omega, by go_num, by simp [hdl], ?_, ?_⟩
          · intro cs h
            rcases List.mem_append.1 h with h | h
            · exact hd7 cs h
            · rw [List.mem_singleton.1 h]; rfl
          · rw [List.take_add_one, HRI.out, Option.toList_some, List.zipWith_append (by rw [List.length_take, HN.out]; omega)]
            have e1 : done ++ [ruC r (.slice a4 r.net.length k4)] ++ css.drop (i + 1) = done ++ (ruC r (.slice x r.net.length c)).set 2 (.slice a4 r.net.length k4) :: css.drop (i + 1) := by rw [List.append_assoc]; rfl
            rw [e1]
            have h9 : Sat w (w4.setCell ⟨b, off + i * 7 + 2, none⟩ (.slice a4 r.net.length k4)) ((_ :: List.zipWith RuO (rs.take i) done) ++ _) := h8
            simpa only [List.cons_append, List.append_assoc, List.zipWith_cons_cons, List.zipWith_nil_left, List.nil_append] using h9
    · obtain rfl : i = n := by omega
      have hbx := Sat.front (_ :: List.zipWith RuO (rs.take i) done) (h2 : Sat w wr ((_ :: List.zipWith RuO (rs.take i) done) ++ Blk g _ :: _))
      have d0 := hbx.cell 0 (v := .int .i64 id) rfl
      have d1 := hbx.cell 1 (v := .slice a2 key.length k2) rfl
      have d2 := hbx.cell 2 (v := .int .i64 st) rfl
      have d3 := hbx.cell 3 (v := .slice a3 i k3) rfl
      have hby := Sat.front (_ :: (List.zipWith RuO (rs.take i) done ++ [_, _])) (by simpa using h2 : Sat w wr ((_ :: (List.zipWith RuO (rs.take i) done ++ [Blk g (.cells #[.int .i64 id, .slice a2 key.length k2, .int .i64 st, .slice a3 i k3] 28 (0, 0)), OwnB 5 (.slice a2 key.length k2) key])) ++ Blk (g + 1) (.cells #[.int .i64 0, .slice none 0 0, .int .i64 0, .slice none 0 0] 28 (0, 0)) :: []))
      have e0 := hby.cell 0 (v := .int .i64 0) rfl
      have e1 := hby.cell 1 (v := .slice none 0 0) rfl
      have e2 := hby.cell 2 (v := .int .i64 0) rfl
      have e3 := hby.cell 3 (v := .slice none 0 0) rfl
      have f0 := hby.frozen 0
      have f1 := hby.frozen 1
      have f2 := hby.frozen 2
      have f3 := hby.frozen 3
      clear hbx
      go_wp2_with fail
      have h7 := (((hby.set 0 (.int .i64 id)).set 1 (.slice a2 key.length k2)).set 2 (.int .i64 st)).set 3 (.slice a3 i k3)
      simp only [List.setIfInBounds_toArray, List.set_cons_succ, List.set_cons_zero] at h7
      have r0 := h7.cell 0 (v := .int .i64 id) rfl
      have r1 := h7.cell 1 (v := .slice a2 key.length k2) rfl
      have r2 := h7.cell 2 (v := .int .i64 st) rfl
      have r3 := h7.cell 3 (v := .slice a3 i k3) rfl
      refine bodyPost_ret (v := .agg #[.int .i64 id, .slice a2 key.length k2, .int .i64 st, .slice a3 i k3]) (by simp [results, Try.results27, go_sem, r0, r1, r2, r3]) rfl ?_
      refine ⟨⟨⟨id, key, st, rs⟩, a2, k2, a3, k3⟩, by show _ = Ending.returned (.agg #[_, _, _, .slice a3 rs.length k3]); rw [HN.out], rfl, ?_⟩
      have h8 := h7.drop
      rw [List.append_nil] at h8
      have h9 := (Sat.front (_ :: List.zipWith RuO (rs.take i) done) (h8 : Sat w _ ((_ :: List.zipWith RuO (rs.take i) done) ++ Blk g _ :: _))).drop
      rw [← HN.out, ← HCL.out] at h9
      simp only [List.drop_length, List.flatten_nil, List.append_nil] at h9
      rw [HCL.out, List.take_length] at h9
      rw [← HN.out]
      exact Sat.star (L1 := [_, _]) (L2 := []) (OwnL.shut (css := done) (by rw [hdl, HN.out]) hd7 h9).swap
end
end Go.Proofs.Ytahnjbbjfjlpoaa
