/- Going over a ring: All, Len, Get, the law's own helper 'all'; walked. -/
import Derived.Test.YtahnjbbjfjlpoaaTeG
namespace Go.Proofs.Ytahnjbbjfjlpoaa
open Go Go.RowKit Go.Shelf Go.Maps
set_option linter.unusedVariables false
set_option linter.unusedSimpArgs false
attribute [local go_sem] Oper.semAt_some

/-- Bytes in a block of bytes of their own, at N or behind it. -/
def InB (N : Nat) (W : World) (v : Value) (l : List UInt8) : Prop :=
  ∃ a cap, v = .slice a l.length cap ∧ l.length ≤ cap ∧ cap ≤ maxLen ∧ (a = none → cap = 0) ∧
    (0 < l.length → ∃ (b o : Nat) (cs : Array Value), a = some ⟨b, o, none⟩ ∧ N ≤ b ∧ W.heap[b]? = some (.cells cs 5 (0, 0)) ∧ ∀ i, i < l.length → cs[o + i]? = some (.int .u8 (l.getD i 0).toNat))
structure InR (N : Nat) (W : World) (a : Option Addr) (cap : Nat) (rs : List RuleM) : Prop where
  le : rs.length ≤ cap
  nil : a = none → cap = 0
  cap : cap ≤ maxLen
  at_ : ∀ (i : Nat) r, rs[i]? = some r → ∃ (b o : Nat) (cs : Array Value) (x : Option Addr) (c : Nat), a = some ⟨b, o, none⟩ ∧ N ≤ b ∧ W.heap[b]? = some (.cells cs 46 (0, 0)) ∧ (∀ j u, (ruC r (.slice x r.net.length c))[j]? = some u → cs[o + i * 7 + j]? = some u) ∧ InB N W (.slice x r.net.length c) r.net ∧ r.name.size ≤ maxLen
structure TenV.inn (N : Nat) (W : World) (v : TenV) : Prop where
  key : InB N W (.slice v.kx v.t.key.length v.kc) v.t.key
  rules : InR N W v.rx v.rc v.t.rules
/-- Blocks of bytes, of rules lie as they lay. -/
def KelT (X Z : World) : Prop := ∀ (k : Nat) (cs : Array Value) (t : TypeId), X.heap[k]? = some (.cells cs t (0, 0)) → (t = 5 ∨ t = 46) → Z.heap[k]? = some (.cells cs t (0, 0))
theorem InB.kel {N : Nat} {X Z : World} {v : Value} {l : List UInt8} (h : InB N X v l) (hk : KelT X Z) : InB N Z v l := by
  obtain ⟨a, cap, rfl, h1, h2, h3, h4⟩ := h
  refine ⟨a, cap, rfl, h1, h2, h3, fun h0 => ?_⟩
  obtain ⟨b, o, cs, h5, h6, h7, h8⟩ := h4 h0
  exact ⟨b, o, cs, h5, h6, hk _ _ _ h7 (.inl rfl), h8⟩
theorem InR.kel {N : Nat} {X Z : World} {a : Option Addr} {cap : Nat} {rs : List RuleM} (h : InR N X a cap rs) (hk : KelT X Z) : InR N Z a cap rs :=
  ⟨h.le, h.nil, h.cap, fun i r hi => by
    obtain ⟨b, o, cs, x, c, h1, h2, h3, h4, h5, h6⟩ := h.at_ i r hi
    exact ⟨b, o, cs, x, c, h1, h2, hk _ _ _ h3 (.inr rfl), h4, h5.kel hk, h6⟩⟩
theorem TenV.inn.kel {N : Nat} {X Z : World} {v : TenV} (h : v.inn N X) (hk : KelT X Z) : v.inn N Z := ⟨h.key.kel hk, h.rules.kel hk⟩
theorem KelT.ofKel {B : Nat} {X Z : World} (h : Kel B X Z) : KelT X Z := fun k cs t hk _ => h.same k _ hk (.inl rfl)
theorem KelT.ofBelow {X Z : World} (h : Below X.heap.size X Z) : KelT X Z := KelT.ofKel (Kel.ofBelow (B := 0) h)
theorem KelT.trans {X Y Z : World} (h : KelT X Y) (h' : KelT Y Z) : KelT X Z := fun k cs t hk ht => h' k cs t (h k cs t hk ht) ht
theorem InB.anti {N N' : Nat} {X : World} {v : Value} {l : List UInt8} (h : InB N X v l) (hn : N' ≤ N) : InB N' X v l := by
  obtain ⟨a, cap, rfl, h1, h2, h3, h4⟩ := h
  refine ⟨a, cap, rfl, h1, h2, h3, fun h0 => ?_⟩
  obtain ⟨b, o, cs, h5, h6, h7, h8⟩ := h4 h0
  exact ⟨b, o, cs, h5, Nat.le_trans hn h6, h7, h8⟩
theorem TenV.inn.anti {N N' : Nat} {X : World} {v : TenV} (h : v.inn N X) (hn : N' ≤ N) : v.inn N' X :=
  ⟨h.key.anti hn, ⟨h.rules.le, h.rules.nil, h.rules.cap, fun i r hi => by
    obtain ⟨b, o, cs, x, c, h1, h2, h3, h4, h5, h6⟩ := h.rules.at_ i r hi
    exact ⟨b, o, cs, x, c, h1, Nat.le_trans hn h2, h3, h4, h5.anti hn, h6⟩⟩⟩
theorem InB.rd {N : Nat} {W : World} {v : Value} {l : List UInt8} (h : InB N W v l) : RdB W v l := by
  obtain ⟨a, cap, rfl, h1, h2, h3, h4⟩ := h
  refine ⟨a, cap, rfl, h1, h2, h3, fun h0 => ?_⟩
  obtain ⟨b, o, cs, h5, h6, h7, h8⟩ := h4 h0
  exact ⟨b, o, h5, (Array.getElem?_eq_some_iff.1 h7).1, fun i hi => (cell_at h7 _).trans (h8 i hi)⟩
theorem TenV.inn.rd {N : Nat} {W : World} {v : TenV} (h : v.inn N W) : v.rd W :=
  ⟨h.key.rd, ⟨h.rules.le, h.rules.nil, h.rules.cap, fun i r hi => by
    obtain ⟨b, o, cs, x, c, h1, h2, h3, h4, h5, h6⟩ := h.rules.at_ i r hi
    exact ⟨b, o, x, c, h1, (Array.getElem?_eq_some_iff.1 h3).1, fun j u hj => (cell_at h3 _).trans (h4 j u hj), h5.rd, h6⟩⟩⟩
section
variable {w0 w : World} {L : List Assn}
theorem OwnB.inn {v : Value} {l : List UInt8} (h : Sat w0 w (OwnB 5 v l :: L)) : InB w0.heap.size w v l := by
  rcases OwnS.cases h with ⟨rfl, h0, h1, _⟩ | ⟨g, off, cap, cur, rfl, h1, h2, h3, h4, hs⟩
  · refine ⟨none, 0, by rw [h0], by omega, Nat.zero_le _, fun _ => rfl, fun h => by omega⟩
  · refine ⟨_, cap, rfl, h1, h2, (fun e => nomatch e), fun h0 => ⟨g, off, cur, rfl, hs.blk.2, hs.blk.1, fun i hi => ?_⟩⟩
    have hj := bytesC_get (a := l) hi
    rw [← h4, List.getElem?_take] at hj
    split at hj
    · rw [List.getElem?_drop] at hj
      simpa using hj
    · cases hj
theorem TeO.inn {u : TenV} (h : Sat w0 w (TeO u :: L)) : u.inn w0.heap.size w := by
  have h2 := h.unstar
  have hk := OwnB.inn h2
  have h3 := h2.drop
  refine ⟨hk, ?_⟩
  obtain ⟨a, c, he, h4, h5⟩ := OwnL.form h3
  injection he with e1 e2 e3
  clear e1 e2
  subst e3
  obtain ⟨css, hc1, hc2, hc3⟩ := OwnL.opn h3
  refine ⟨h4, fun hn => ?_, h5, fun i r hi => ?_⟩
  · rcases OwnS.cases hc3 with ⟨he2, _⟩ | ⟨g, off, cap, cur, he2, _⟩
    · injection he2
    · injection he2 with e1
      rw [hn] at e1
      cases e1
  · obtain ⟨b, off, cap, cs, L', he2, hb, hcl, hcell, h6⟩ := OwnL.at h3 hi
    injection he2 with e1
    obtain ⟨x, h7⟩ := Sat.ex (F := fun x h => ∃ c, (cs = ruC r (.slice x r.net.length c) ∧ r.name.size ≤ maxLen) ∧ OwnB 5 (.slice x r.net.length c) r.net h) h6
    obtain ⟨c', h8⟩ := Sat.ex (F := fun c h => (cs = ruC r (.slice x r.net.length c) ∧ r.name.size ≤ maxLen) ∧ OwnB 5 (.slice x r.net.length c) r.net h) h7
    obtain ⟨⟨rfl, hnm⟩, h9⟩ := Sat.pure (p := cs = ruC r (.slice x r.net.length c') ∧ r.name.size ≤ maxLen) (A := OwnB 5 (.slice x r.net.length c') r.net) h8
    rcases OwnS.cases hc3 with ⟨he2, h0, _⟩ | ⟨g, off', cap', cur, he2, _, _, _, _, hs⟩
    · rw [e1] at he2
      injection he2 with he2
      cases he2
    · injection he2 with e2 _ _
      rw [e1] at e2
      injection e2 with e2
      injection e2 with e2 e3
      subst e2 e3
      refine ⟨b, off, cur, x, c', e1, hb, hs.blk.1, fun j u hj => ?_, OwnB.inn h9, hnm⟩
      have := hcell j u hj
      rwa [cell_at hs.blk.1] at this
/-- What All hands over at its k-th call of yield: the k-th tenant, in memory of its own. -/
def YTen (m : Nat) (ts : List TenM) (k : Nat) (args : Array Value) (X : World) : Prop := ∃ (t : TenM) (kx : Option Addr) (kc : Nat) (rx : Option Addr) (rc : Nat), ts[k]? = some t ∧ args = #[.agg (TenV.c ⟨t, kx, kc, rx, rc⟩).toArray] ∧ TenV.inn m X ⟨t, kx, kc, rx, rc⟩
set_option maxRecDepth 100000 in
set_option maxHeartbeats 1000000 in
theorem ring_All (n : Nat) (p : Option Addr) (w : World) :
    CallsIn Fence.wide n Try.prog 28 #[.pointer p] w fun e w' => e = .returned (.func (.func 41) #[] #[.pointer (some ⟨w.heap.size, 0, none⟩)]) ∧ w' = w.alloc (.cells #[.pointer p] 30) := by
  refine callsIn_of_wp Try.func28 rfl trivial ?_ rfl
  simp only [Try.ntmps28, List.size_toArray, List.length_cons, List.length_nil, Nat.reduceAdd, Nat.reduceSub, Array.replicate_succ, Array.replicate_zero, List.push_toArray, List.append_toArray, List.nil_append, List.cons_append]
  gi_wp2
  go_ret
  exact ⟨rfl, rfl⟩
set_option maxRecDepth 100000 in
set_option maxHeartbeats 1000000 in
theorem all1_nil (n : Nat) (Br m : Nat) (w : World) (hBr : Br < w.heap.size) (hc : w.cell? ⟨Br, 0, none⟩ = some (.pointer none)) :
    SeqY n Try.prog 41 #[.pointer (some ⟨Br, 0, none⟩)] 0 (YTen m []) m w := by
  intro l J Jx W hW hJ hY h0
  have hc1 := (hW.cell (p := ⟨Br, 0, none⟩) hBr).trans hc
  refine callsIn_of_wp Try.func41 rfl trivial ?_ rfl
  simp only [Try.ntmps41, List.size_toArray, List.length_cons, List.length_nil, Nat.reduceAdd, Nat.reduceSub, Array.replicate_succ, Array.replicate_zero, List.push_toArray, List.append_toArray, List.nil_append, List.cons_append]
  gi_wp2
  refine bodyPost_ret (results_none rfl _ _ _) rfl ?_
  exact ⟨⟨_, rfl⟩, .inl h0⟩
set_option maxRecDepth 100000 in
set_option maxHeartbeats 2000000 in
theorem all1_seq (n : Nat) (hn : 1 ≤ n) (R : Nat) (ts : List TenM) (hts : ∀ t ∈ ts, t.may = true) (hr : RdRing w0 R ts) (Br m : Nat) (w : World) (hm0 : w0.heap.size ≤ m) (hbw : Below w0.heap.size w0 w) (hmw : m ≤ w.heap.size) (hBr : Br < w.heap.size) (hc : w.cell? ⟨Br, 0, none⟩ = some (.pointer (some ⟨R, 0, none⟩))) :
    SeqY n Try.prog 41 #[.pointer (some ⟨Br, 0, none⟩)] ts.length (YTen m ts) m w := by
  intro l J Jx W hW hJ hY h0
  obtain ⟨hR0, la, cap, vs, hcv, hrow, hvs, hmap⟩ := hr
  obtain ⟨N, hN⟩ : ∃ N, vs.length = N := ⟨_, rfl⟩
  have HN := hid_ hN
  have htl : ts.length = N := by rw [← hmap, List.length_map, hN]
  have hmax : N ≤ 9223372036854775807 := by have := hrow.le; have := hrow.cap; unfold maxLen at this; omega
  have hc1 := (hW.cell (p := ⟨Br, 0, none⟩) hBr).trans hc
  have hmW : m ≤ W.heap.size := Nat.le_trans hmw hW.size
  have hb0 : Below w0.heap.size w0 W := hbw.trans (hW.mono hbw.size)
  have hcR : W.cell? ⟨R, 0, none⟩ = some (.slice la N cap) := by rw [← hN]; exact (hb0.cell (p := ⟨R, 0, none⟩) hR0).trans hcv
  rw [htl] at hY ⊢
  have HM := hid_ hmap
  clear hN hcv hc htl hmap
  refine callsIn_of_wp Try.func41 rfl trivial ?_ rfl
  simp only [Try.ntmps41, List.size_toArray, List.length_cons, List.length_nil, Nat.reduceAdd, Nat.reduceSub, Array.replicate_succ, Array.replicate_zero, List.push_toArray, List.append_toArray, List.nil_append, List.cons_append]
  gi_wp2
  gi_loopw [4, 12] (fun _ i wr => ∃ k : Nat, k ≤ N ∧ i = .int .i64 k ∧ J k wr ∧ Below m W wr)
    (fun _ i _ => N - (intOf i).toNat)
  case atStart => exact ⟨0, Nat.zero_le _, rfl, h0, Below.refl _ _⟩
  case round =>
    obtain ⟨k, hk, rfl, hJk, hbk⟩ := hrel
    have hb0k : Below w0.heap.size w0 wr := hb0.trans (hbk.mono hm0)
    by_cases hlt : k < N
    · obtain ⟨v, hv⟩ : ∃ v, vs[k]? = some v := ⟨_, List.getElem?_eq_getElem (by rw [HN.out]; exact hlt)⟩
      obtain ⟨b, off, rfl, hb, hcc⟩ := (hrow.mono hb0k).at_ k v hv
      have c0 : wr.cell? ⟨b, off + k * 4, none⟩ = some (.int .i64 v.t.id) := hcc 0 _ rfl
      have c1 : wr.cell? ⟨b, off + k * 4 + 1, none⟩ = some (.slice v.kx v.t.key.length v.kc) := hcc 1 _ rfl
      have c2 : wr.cell? ⟨b, off + k * 4 + 2, none⟩ = some (.int .i64 v.t.streams) := hcc 2 _ rfl
      have c3 : wr.cell? ⟨b, off + k * 4 + 3, none⟩ = some (.slice v.rx v.t.rules.length v.rc) := hcc 3 _ rfl
      have hba : Below wr.heap.size wr (wr.alloc (.cells #[.int .i64 v.t.id, .slice v.kx v.t.key.length v.kc, .int .i64 v.t.streams, .slice v.rx v.t.rules.length v.rc] 28 (0, 0))) := (Below.refl _ _).alloc (Nat.le_refl _) _
      have hvt : ts[k]? = some v.t := by rw [← HM.out, List.getElem?_map, hv]; rfl
      have hown := own_call v (hts _ (List.mem_of_getElem? hvt)) (((hvs v (List.mem_of_getElem? hv)).mono hb0k).mono hba)
      have HVT := hid_ hvt
      clear hcc hv hvt
      have z1 : (k : Int) < (N : Int) := by omega
      gi_wp2
      refine ⟨trivial, (callsIn_wide.2 hown).mono ?_⟩
      rintro _ w3 ⟨kx, kc, rx, rc, rfl, hS3⟩
      have hbm3 : Below wr.heap.size wr w3 := hba.trans (hS3.below.mono (by simp))
      have hinn := (TeO.inn hS3).anti (N' := m) (by have := hbk.size; simp; omega)
      obtain ⟨fn, tmps, assign, body, hy, hR⟩ := hY k #[.agg (TenV.c ⟨v.t, kx, kc, rx, rc⟩).toArray] _ hlt (hJ _ _ _ hJk hbm3) ⟨v.t, kx, kc, rx, rc, HVT.out, rfl, hinn⟩
      unfold TenV.c at hy
      gi_wp2
      refine hR.mono ?_
      rintro e W4 (⟨rfl, hJ4, hk4⟩ | ⟨rfl, hJx4⟩)
      · gi_wp2
        go_roundw
        case rel => exact ⟨k + 1, by omega, by go_num, hJ4, hbk.trans ((hbm3.mono (Nat.le_trans hmW hbk.size)).trans hk4)⟩
        case measure => simp [intOf]; omega
      · gi_wp2
        refine bodyPost_ret (results_none rfl _ _ _) rfl ?_
        exact ⟨⟨_, rfl⟩, .inr ⟨k, hlt, hJx4⟩⟩
    · obtain rfl : k = N := by omega
      gi_wp2
      go_end0
      exact ⟨⟨_, rfl⟩, .inl hJk⟩
set_option maxRecDepth 100000 in
set_option maxHeartbeats 1000000 in
theorem ring_Len_nil : Calls Try.prog 13 #[.pointer none] w fun e w' => e = .returned (.int .i64 0) ∧ w = w' := by
  go_enter Try.func13, Try.ntmps13
  go_wp2_with fail
  go_ret
  exact ⟨rfl, rfl⟩
set_option maxRecDepth 100000 in
set_option maxHeartbeats 1000000 in
theorem ring_Len (R : Nat) (ts : List TenM) (hr : RdRing w R ts) : Calls Try.prog 13 #[.pointer (some ⟨R, 0, none⟩)] w fun e w' => e = .returned (.int .i64 ts.length) ∧ w = w' := by
  obtain ⟨hR0, la, cap, vs, hcv, hrow, hvs, hmap⟩ := hr
  have htl : vs.length = ts.length := by rw [← hmap, List.length_map]
  rw [htl] at hcv
  clear hmap htl
  go_enter Try.func13, Try.ntmps13
  go_wp2_with fail
  go_ret
  exact ⟨rfl, rfl⟩
end
end Go.Proofs.Ytahnjbbjfjlpoaa
