/- Tenants that may be; a ring in memory: ring.New$1, ContainsFunc, walked; what a ring reads as. -/
import Derived.Deep.DeepCutAuto
import Derived.Test.YtahnjbbjfjlpoaaTeE
namespace Go.Proofs.Ytahnjbbjfjlpoaa
open Go Go.RowKit Go.Shelf
set_option linter.unusedVariables false
set_option linter.unusedSimpArgs false

theorem TenM.may_at {t : TenM} (h : t.may = true) : 0 ≤ t.id ∧ t.id ≤ 65535 ∧ t.key.length = 32 ∧ t.rules.length ≤ 32 ∧ ∀ r ∈ t.rules, r.may = true := by
  unfold TenM.may at h
  simp only [Bool.and_eq_true, decide_eq_true_eq, beq_iff_eq, List.all_eq_true] at h
  obtain ⟨⟨⟨⟨⟨⟨h1, h2⟩, h3⟩, _⟩, _⟩, h6⟩, h7⟩ := h
  exact ⟨h1, h2, h3, h6, h7⟩
theorem RuleM.may_len {r : RuleM} (h : r.may = true) : r.net.length ≤ 16 := by
  unfold RuleM.may RuleM.kindB at h
  simp only [Bool.and_eq_true, decide_eq_true_eq] at h
  obtain ⟨_, h⟩ := h
  by_cases k0 : r.kind = 0
  · rw [if_pos k0] at h
    simp only [Bool.and_eq_true, beq_iff_eq] at h
    omega
  · by_cases k1 : r.kind = 1
    · rw [if_neg k0, if_pos k1] at h
      simp only [Bool.and_eq_true, decide_eq_true_eq, Bool.or_eq_true, beq_iff_eq] at h
      obtain ⟨⟨⟨⟨h1, _⟩, _⟩, _⟩, _⟩ := h
      omega
    · by_cases k2 : r.kind = 2
      · rw [if_neg k0, if_neg k1, if_pos k2] at h
        simp only [Bool.and_eq_true, beq_iff_eq] at h
        omega
      · rw [if_neg k0, if_neg k1, if_neg k2] at h
        cases h
section
variable {w0 w : World} {L : List Assn}
theorem ring_MayV {v : TenV} {b : Bool} (hm : Hid (v.t.may = b)) (hv : v.rd w) : Calls Try.prog 9 #[.agg #[.int .i64 v.t.id, .slice v.kx v.t.key.length v.kc, .int .i64 v.t.streams, .slice v.rx v.t.rules.length v.rc]] w fun e w' => e = .returned (.bool b) ∧ Below w.heap.size w w' := by
  rw [← hm.out]
  exact ring_May v hv
set_option maxRecDepth 100000 in
set_option maxHeartbeats 1000000 in
theorem ring_New1 {v : TenV} {b : Bool} (hm : Hid (v.t.may = b)) (hv : v.rd w) : Calls Try.prog 23 #[.agg #[.int .i64 v.t.id, .slice v.kx v.t.key.length v.kc, .int .i64 v.t.streams, .slice v.rx v.t.rules.length v.rc]] w fun e w' => e = .returned (.bool (!b)) ∧ Below w.heap.size w w' := by
  have hB := ((Sat.refl w).alloc (.cells #[.int .i64 v.t.id, .slice v.kx v.t.key.length v.kc, .int .i64 v.t.streams, .slice v.rx v.t.rules.length v.rc] 28 (0, 0)))
  have h1 := ring_MayV hm (hv.mono hB.below)
  clear hm
  go_enter Try.func23, Try.ntmps23
  go_wp2_with fail
  refine h1.mono ?_
  rintro _ w1 ⟨rfl, h2⟩
  go_wp2_with fail
  go_ret
  exact ⟨rfl, (hB.under h2).below⟩
def mayAll (vs : List TenV) : Bool := vs.all fun v => v.t.may
set_option maxRecDepth 100000 in
set_option maxHeartbeats 1000000 in
theorem tenants_index (la : Option Addr) (cap : Nat) (vs : List TenV) (hr : RowT w la cap vs) (hv : ∀ v ∈ vs, v.rd w) :
    Calls Try.prog 34 #[.slice la vs.length cap, .func (.func 23) #[] #[]] w fun e w' =>
      ((∃ i : Nat, e = .returned (.int .i64 i) ∧ mayAll vs = false) ∨ (e = .returned (.int .i64 (-1)) ∧ mayAll vs = true)) ∧ Below w.heap.size w w' := by
  have hcap := hr.cap
  have hle := hr.le
  unfold maxLen at hcap
  obtain ⟨n, hn⟩ : ∃ n, vs.length = n := ⟨_, rfl⟩
  have HN := hid_ hn
  rw [hn] at hle ⊢
  clear hn
  have eg : ∀ args w, (callFunc 23 args).run Try.prog w = .ok (.enter 23 args) w := enters_of Try.func23 (by kernel_rfl) rfl
  go_enter Try.func34, Try.ntmps34
  go_wp2_with fail
  go_loopg [5, 8] n (fun gg _ v8 wr => ∃ i : Nat, i ≤ n ∧ n - i ≤ gg ∧ v8 = .int .i64 i ∧ Hid (∀ v ∈ vs.take i, v.t.may = true) ∧ Below w.heap.size w wr)
  case atStart => exact ⟨0, by omega, by omega, rfl, hid_ (by simp), Below.refl _ _⟩
  case round =>
    obtain ⟨i, hi, hgg, rfl, hno, h1⟩ := hrel
    by_cases hlt : i < n
    · obtain ⟨v, hri⟩ : ∃ v, vs[i]? = some v := ⟨_, List.getElem?_eq_getElem (by rw [HN.out]; exact hlt)⟩
      obtain ⟨b, off, rfl, hb, hc⟩ := (hr.mono h1).at_ i v hri
      have r0 : wr.cell? ⟨b, off + i * 4, none⟩ = some (.int .i64 v.t.id) := hc 0 _ rfl
      have r1 : wr.cell? ⟨b, off + i * 4 + 1, none⟩ = some (.slice v.kx v.t.key.length v.kc) := hc 1 _ rfl
      have r2 : wr.cell? ⟨b, off + i * 4 + 2, none⟩ = some (.int .i64 v.t.streams) := hc 2 _ rfl
      have r3 : wr.cell? ⟨b, off + i * 4 + 3, none⟩ = some (.slice v.rx v.t.rules.length v.rc) := hc 3 _ rfl
      have hvr := (hv v (List.mem_of_getElem? hri)).mono h1
      have hcall := fun b (hm : Hid (v.t.may = b)) => ring_New1 hm hvr
      have HRI := hid_ hri
      clear hc hri
      have z1 : 0 ≤ (i : Int) ∧ (i : Int) < (n : Int) := by omega
      cases hm : v.t.may
      · have hcall := hcall _ (hid_ hm)
        have HF := hid_ (show mayAll vs = false from List.all_eq_false.2 ⟨v, List.mem_of_getElem? HRI.out, by rw [hm]; simp⟩)
        clear hm
        go_wp2_with (go_at_fn 23; refine hcall.mono ?_; rintro _ w2 ⟨rfl, hb2⟩)
        go_ret
        exact ⟨.inl ⟨i, rfl, HF.out⟩, h1.trans (hb2.mono h1.size)⟩
      · have hcall := hcall _ (hid_ hm)
        have HM := hid_ hm
        clear hm
        go_wp2_with (go_at_fn 23; refine hcall.mono ?_; rintro _ w2 ⟨rfl, hb2⟩)
        go_roundg (n - (i + 1))
        case measure => omega
        case rel =>
          refine ⟨i + 1, by omega, by omega, by go_num, hid_ ?_, h1.trans (hb2.mono h1.size)⟩
          intro y hy
          rw [List.take_add_one, HRI.out] at hy
          simp only [Option.toList, List.mem_append, List.mem_singleton] at hy
          rcases hy with hy | rfl
          · exact hno.out y hy
          · exact HM.out
    · obtain rfl : i = n := by omega
      have HF := hid_ (show mayAll vs = true from List.all_eq_true.2 (by rw [← HN.out, List.take_length] at hno; exact hno.out))
      go_wp2_with fail
      go_ret
      exact ⟨.inr ⟨rfl, HF.out⟩, h1⟩
set_option maxRecDepth 100000 in
set_option maxHeartbeats 1000000 in
theorem tenants_contains (la : Option Addr) (cap : Nat) (vs : List TenV) (hr : RowT w la cap vs) (hv : ∀ v ∈ vs, v.rd w) :
    Calls Try.prog 22 #[.slice la vs.length cap, .func (.func 23) #[] #[]] w fun e w' => e = .returned (.bool (!(mayAll vs))) ∧ Below w.heap.size w w' := by
  have hcall := tenants_index la cap vs hr hv
  have hcap := hr.cap
  have hle := hr.le
  unfold maxLen at hcap
  have hll : (vs.length : Int) ≤ 9223372036854775807 := by omega
  go_enter Try.func22, Try.ntmps22
  go_wp2_with fail
  refine hcall.mono ?_
  rintro _ w2 ⟨⟨i, rfl, e⟩ | ⟨rfl, e⟩, h2⟩
  · have hil : (0 : Int) ≤ (i : Int) := by omega
    have E := hid_ e
    clear e
    go_wp2_with fail
    go_ret
    rw [E.out]
    exact ⟨rfl, h2⟩
  · have E := hid_ e
    clear e
    go_wp2_with fail
    go_ret
    rw [E.out]
    exact ⟨rfl, h2⟩

/-! ### A ring in memory -/
theorem TeO.rd {u : TenV} (h : Sat w0 w (TeO u :: L)) : u.rd w := by
  have h2 := h.unstar
  have hk := OwnB.rd h2
  have h3 := h2.drop
  refine ⟨hk, ?_⟩
  obtain ⟨a, c, he, h4, h5⟩ := OwnL.form h3
  injection he with e1 e2 e3
  clear e1 e2
  subst e3
  obtain ⟨css, hc1, hc2, hc3⟩ := OwnL.opn h3
  refine ⟨h4, fun hn => ?_, h5, fun i r hi => ?_⟩
  · rcases OwnS.cases hc3 with ⟨he2, _⟩ | ⟨g, off, cap, cur, he2, _⟩
    · injection he2
    · injection he2 with e1
      rw [hn] at e1
      cases e1
  · obtain ⟨b, off, cap, cs, L', he2, hb, hcl, hcell, h6⟩ := OwnL.at h3 hi
    injection he2 with e1
    obtain ⟨x, h7⟩ := Sat.ex (F := fun x h => ∃ c, (cs = ruC r (.slice x r.net.length c) ∧ r.name.size ≤ maxLen) ∧ OwnB 5 (.slice x r.net.length c) r.net h) h6
    obtain ⟨c', h8⟩ := Sat.ex (F := fun c h => (cs = ruC r (.slice x r.net.length c) ∧ r.name.size ≤ maxLen) ∧ OwnB 5 (.slice x r.net.length c) r.net h) h7
    obtain ⟨⟨rfl, hnm⟩, h9⟩ := Sat.pure (p := cs = ruC r (.slice x r.net.length c') ∧ r.name.size ≤ maxLen) (A := OwnB 5 (.slice x r.net.length c') r.net) h8
    have hlt : b < w.heap.size := by
      obtain ⟨b', o', c2, he3, _, hb3, _⟩ := OwnS.cells hc3 (by have := (List.getElem?_eq_some_iff.1 hi).1; omega)
      injection he3 with he3
      rw [e1] at he3
      injection he3 with he3
      injection he3 with he3
      omega
    exact ⟨b, off, x, c', e1, hlt, hcell, OwnB.rd h9, hnm⟩
/-- A tenant's cells, all that it has owned. -/
def TeE (t : TenM) (cs : List Value) : Assn := fun h => ∃ u : TenV, (u.t = t ∧ cs = u.c) ∧ TeO u h
theorem TeE.opn {t : TenM} {cs : List Value} (h : Sat w0 w (TeE t cs :: L)) : ∃ u : TenV, u.t = t ∧ cs = u.c ∧ Sat w0 w (TeO u :: L) := by
  obtain ⟨u, h2⟩ := Sat.ex (F := fun u h => (u.t = t ∧ cs = u.c) ∧ TeO u h) h
  obtain ⟨⟨h3, h4⟩, h5⟩ := Sat.pure (p := u.t = t ∧ cs = u.c) (A := TeO u) h2
  exact ⟨u, h3, h4, h5⟩
/-- What a ring reads as: the tenants, in its order. -/
def RdRing (w : World) (r : Nat) (ts : List TenM) : Prop := r < w.heap.size ∧ ∃ (a : Option Addr) (cap : Nat) (vs : List TenV), w.cell? ⟨r, 0, none⟩ = some (.slice a vs.length cap) ∧ RowT w a cap vs ∧ (∀ v ∈ vs, v.rd w) ∧ vs.map (·.t) = ts
theorem RdRing.mono {w' : World} {r : Nat} {ts : List TenM} (h : RdRing w r ts) (hb : Below w.heap.size w w') : RdRing w' r ts := by
  obtain ⟨h0, a, cap, vs, h1, h2, h3, h4⟩ := h
  exact ⟨Nat.lt_of_lt_of_le h0 hb.size, a, cap, vs, (hb.cell (p := ⟨r, 0, none⟩) h0).trans h1, h2.mono hb, fun v hv => (h3 v hv).mono hb, h4⟩
theorem RdRing.of {r : Nat} {a : Option Addr} {cap : Nat} {ts : List TenM} (h : Sat w0 w (Blk r (.cells #[.slice a ts.length cap] 52 (0, 0)) :: OwnL 28 4 TeE (.slice a ts.length cap) ts :: L)) : RdRing w r ts := by
  refine ⟨h.lt, a, cap, ?_⟩
  have h2 := h.drop
  obtain ⟨a', c', he, h4, h5⟩ := OwnL.form h2
  injection he with e1 e2 e3
  clear e1 e2
  subst e3
  have hat : ∀ i, i < ts.length → ∃ v : TenV, ∀ t, ts[i]? = some t → v.t = t ∧ v.rd w ∧ ∃ b off, a = some ⟨b, off, none⟩ ∧ b < w.heap.size ∧ ∀ j u, v.c[j]? = some u → w.cell? ⟨b, off + i * 4 + j, none⟩ = some u := by
    intro i hi
    obtain ⟨b, off, cap, cs, L', he2, hb, hcl, hcell, h6⟩ := OwnL.at h2 (List.getElem?_eq_getElem hi)
    injection he2 with e1
    obtain ⟨u, hut, rfl, h7⟩ := TeE.opn h6
    obtain ⟨css, hc1, hc2, hc3⟩ := OwnL.opn h2
    have hlt : b < w.heap.size := by
      obtain ⟨b', o', c2, he3, _, hb3, _⟩ := OwnS.cells hc3 (by omega)
      injection he3 with he3
      rw [e1] at he3
      injection he3 with he3
      injection he3 with he3
      omega
    refine ⟨u, fun t ht => ?_⟩
    rw [List.getElem?_eq_getElem hi] at ht
    injection ht with ht
    exact ⟨hut.trans ht, TeO.rd h7, b, off, e1, hlt, hcell⟩
  obtain ⟨vs, hvl, hvp⟩ := choose_list hat
  have hat2 : ∀ i v, vs[i]? = some v → ∃ t, ts[i]? = some t ∧ v.t = t ∧ v.rd w ∧ ∃ b off, a = some ⟨b, off, none⟩ ∧ b < w.heap.size ∧ ∀ j u, v.c[j]? = some u → w.cell? ⟨b, off + i * 4 + j, none⟩ = some u := by
    intro i v hi
    have hil := (List.getElem?_eq_some_iff.1 hi).1
    exact ⟨_, List.getElem?_eq_getElem (by omega), hvp i v hi _ (List.getElem?_eq_getElem (by omega))⟩
  refine ⟨vs, by rw [hvl]; exact h.cell 0 rfl, ⟨by rw [hvl]; exact h4, fun hn => ?_, h5, fun i v hi => ?_⟩, fun v hv => ?_, ?_⟩
  · obtain ⟨css, hc1, hc2, hc3⟩ := OwnL.opn h2
    rcases OwnS.cases hc3 with ⟨he2, _⟩ | ⟨g, off, cap, cur, he2, _⟩
    · injection he2
    · injection he2 with e1
      rw [hn] at e1
      cases e1
  · obtain ⟨_, _, _, _, h9⟩ := hat2 i v hi
    exact h9
  · obtain ⟨i, hi, rfl⟩ := List.getElem_of_mem hv
    obtain ⟨_, _, _, h9, _⟩ := hat2 i _ (List.getElem?_eq_getElem hi)
    exact h9
  · apply List.ext_getElem?
    intro i
    rw [List.getElem?_map]
    by_cases hi : i < vs.length
    · obtain ⟨t, ht, h9, _⟩ := hat2 i _ (List.getElem?_eq_getElem hi)
      rw [List.getElem?_eq_getElem hi, ht, Option.map_some, h9]
    · rw [List.getElem?_eq_none (by omega), List.getElem?_eq_none (by omega)]
      rfl
end
end Go.Proofs.Ytahnjbbjfjlpoaa
