/- addr.host of sixteen bytes: walked (a range over slices.Chunk). -/
import Derived.Test.YtanihjibjjpdbaaDoorChk
import Derived.Test.YtanihjibjjpdbaaDoorRnd
import Derived.Test.YtanihjibjjpdbaaDoorAdH
import Derived.Shelf.RegionOpen
import Derived.RangeFuncCalls
import Derived.RangeFuncBox
namespace Go.Proofs.YtanihjibjjpdbaaDoor
open Go Go.RowKit Go.Shelf
set_option linter.unusedVariables false
set_option linter.unusedSimpArgs false
attribute [local go_sem] Oper.semAt_some

def pairN (ip : List UInt8) (k : Nat) : Nat := (ip.getD (2 * k) 0).toNat * 256 + (ip.getD (2 * k + 1) 0).toNat
theorem pairN_lt (ip : List UInt8) (k : Nat) : pairN ip k < 65536 := by
  unfold pairN
  have h1 := UInt8.toNat_lt (ip.getD (2 * k) 0)
  have h2 := UInt8.toNat_lt (ip.getD (2 * k + 1) 0)
  omega
def ip6 (ip : List UInt8) : List UInt8 := [91] ++ Lib.join ((List.range 8).map fun k => hexL (pairN ip k)) [58] ++ [93]

theorem Below.drewN' (W : World) : Below W.heap.size W W.drew := ⟨rfl, rfl, rfl, Nat.le_refl _, fun _ _ => rfl⟩
theorem strs_own {W : World} {n₀ : Nat} {v : Value} {k : Nat} {xs : List Value} (h : W.ownsRow n₀ 9 1 v k xs) : ∃ a c, v = .slice a k c := by
  rcases h.2 with ⟨rfl, rfl⟩ | ⟨g, cap, cur, rfl, _⟩
  · exact ⟨none, 0, rfl⟩
  · exact ⟨_, cap, rfl⟩
/-- One string more onto a row of one's own, as one step of a region that draws. -/
theorem step_append_own {ops : Array Oper} {o : Oper} {a : Act} {K : Act → World → Prop} {Q : Exit → Act → World → Prop} {W : World} (hgd : o.guard = none) (s x : Operand)
    (ho : o.op = .call { callee := .builtin .append, args := #[s, x], argTypes := #[49, 49] })
    {v : Value} {g c n₀ : Nat} {y : ByteArray} {k : Nat} {xs : List Value} (hv : a.eval s = v) (hs : W.ownsRow n₀ 9 1 v k xs) (hx : a.eval x = .slice (some ⟨g, 0, none⟩) 1 c)
    (hb : W.cell? ⟨g, 0, none⟩ = some (.string y)) (hn : k < 1000000) (hn0 : n₀ ≤ W.heap.size)
    (h : ∀ v' w', w'.ownsRow n₀ 9 1 v' (k + 1) (xs ++ [.string y]) → W.grownBy w' v.ownBlock → K (a.put o.dst v') w') :
    if Region.wanted o (yielded ops a.tmps) = true then o.wp Tryd.prog a W K Q else K (a.put o.dst undef) W := by
  rw [if_pos (by simp [Region.wanted, hgd])]
  obtain ⟨i0, hi0, hz0, hz1, hz2⟩ := info_str
  obtain ⟨v', w', hr, h2, h3, _⟩ := run_append_own (P := Tryd.prog) W n₀ 49 o.type 9 i0 (.string ⟨#[]⟩) 1 16 Tryd.underlying49 hi0 hz0 hz1 hz2 rfl (by decide) v k xs hs ⟨g, 0, none⟩ 1 c [.string y] rfl
    (by
      intro j u hj
      cases j with
      | zero => simp at hj; subst hj; rw [addr_add]; exact hb
      | succ j => simp at hj) (by intro u hu; simp at hu; subst hu; rfl) (by simp only [maxLen]; omega) (by omega) hn0
  unfold Oper.wp execOp
  simp only [ho, resolve, invoke, builtin, Sem.run_bind, Sem.run_pure, Result.andThen_ok, List.map_toArray, List.map_cons, List.map_nil, hv, hx, hr]
  exact h v' w' h2 h3

theorem hexL_len (u : Nat) : (hexL u).length ≤ 4 := by
  unfold hexL
  split
  · rw [lowH_len]; omega
  · split
    · rw [lowH_len]; omega
    · split <;> rw [lowH_len] <;> omega
theorem fin8_map {α : Type} (f : Nat → α) : (List.finRange 8).map (fun k => f k.1) = (List.range 8).map f := rfl
def hex8 (ip : List UInt8) : List ByteArray := (List.range 8).map fun k => strOf (hexL (pairN ip k))
theorem ip6_as (ip : List UInt8) : ip6 ip = [91] ++ Lib.join ((hex8 ip).map (·.data.toList)) (ByteArray.mk #[58]).data.toList ++ [93] := by
  unfold ip6 hex8
  rw [List.map_map]
  rfl
theorem join8_len (ip : List UInt8) : (Lib.join ((hex8 ip).map (·.data.toList)) (ByteArray.mk #[58]).data.toList).length ≤ 39 := by
  have h : ∀ k, (hexL (pairN ip k)).length ≤ 4 := fun k => hexL_len _
  have e : (List.range 8) = [0, 1, 2, 3, 4, 5, 6, 7] := rfl
  have := h 0; have := h 1; have := h 2; have := h 3; have := h 4; have := h 5; have := h 6; have := h 7
  simp [hex8, e, Lib.join, List.intercalate, strOf_toList]
  omega

set_option maxRecDepth 100000 in
set_option maxHeartbeats 4000000 in
theorem addr_host6_in (n : Nat) (hn : 4 ≤ n) (a : AdM) (b o c : Nat) (hc : 16 ≤ c) (q1 : (a.kind == 1) = false) (q4 : (a.kind == 4) = true) (w : World) (ip : List UInt8) (hl : ip.length = 16) (hrd : ∀ i, i < 16 → w.cell? ⟨b, o + i, none⟩ = some (.int .u8 (ip.getD i 0).toNat)) (hb : b < w.heap.size) (ht : TzOk w) :
    CallsIn Fence.wide n Tryd.prog 21 #[.agg #[.int .i64 a.kind, .slice (some ⟨b, o, none⟩) 16 c, .string a.name, .int .i64 a.port]] w fun e W' => e = .returned (.string (strOf (ip6 ip))) ∧ Below w.heap.size w W' := by
  have h1 : 1 ≤ n := by omega
  refine callsIn_of_wp_marks Tryd.func21 rfl trivial ?_ rfl
  simp only [Tryd.ntmps21, List.size_toArray, List.length_cons, List.length_nil, Nat.reduceAdd, Nat.reduceSub, Array.replicate_succ, Array.replicate_zero, List.push_toArray, List.append_toArray, List.nil_append, List.cons_append]
  gi_wp2
  refine ⟨trivial, (chunk_in (n - 1) (some ⟨b, o, none⟩) 16 c _).mono ?_⟩
  rintro _ w1 ⟨rfl, hw1⟩
  have s2 := ((Sat.refl w).alloc2 (.cells #[.int .i64 a.kind, .slice (some ⟨b, o, none⟩) 16 c, .string a.name, .int .i64 a.port] 25 (0, 0)) (.cells #[.slice none 0 0] 49 (0, 0))).alloc2 (.cells #[.slice (some ⟨b, o, none⟩) 16 c] 23 (0, 0)) (.cells #[.int .i64 2] 3 (0, 0))
  rw [← hw1] at s2
  clear hw1
  simp only [World.size_alloc, Nat.add_assoc, Nat.reduceAdd] at s2 ⊢
  have hBw : Below w.heap.size w w1 := s2.below
  have hbn := s2.blk.1
  have hbs := s2.drop.blk.1
  have hR := s2.drop.drop.blk.1
  have hA := s2.drop.drop.drop.blk.1
  have hlt := s2.lt
  clear s2
  gi_wp2
  have hcon : ∀ k, k < 16 → w1.cell? ⟨b, o + k, none⟩ = some (.int .u8 (ip.getD k 0).toNat) := fun k hk => (hBw.cell (p := ⟨b, o + k, none⟩) hb).trans (hrd k hk)
  refine wpIn_rangeFunc_ownG rfl h1 (gf := 39) (lb := #[.pointer (some ⟨w.heap.size + 2, 0, none⟩), .pointer (some ⟨w.heap.size + 3, 0, none⟩)]) rfl trivial (enters_of Tryd.func39 (by kernel_rfl) rfl)
    (chunk_stops (n - 1) (by omega) (w.heap.size + 2) (w.heap.size + 3) b o c w1 hc (by omega) (by omega) (cell_at hbs 0) (cell_at hbn 0)) (fun h h' => KpC.trans h h') (kpC_b (by omega) (by omega)) (Below.refl _ _) (fun _ => rfl)
    (fun pre W => (∃ v, (Boxed W (w.heap.size + 1) 49 v ∧ Boxed W (w.heap.size + 2) 23 (.slice (some ⟨b, o, none⟩) 16 c) ∧ Boxed W (w.heap.size + 3) 3 (.int .i64 2)) ∧ W.ownsRow w.heap.size 9 1 v pre.length (pre.map fun k => .string (strOf (hexL (pairN ip k.1)))) ∧ pre.length ≤ 8) ∧ Below w.heap.size w W)
    (fun c pre W => False)
    ?hI (fun c s A B row hs hg hr => hs)
    ⟨⟨.slice none 0 0, ⟨hR, hbs, hbn⟩, World.ownsRow_nil _ _ _ _, by simp⟩, hBw⟩
    (fun x => { tmps := #[Value.agg
            #[Value.int IntKind.i64 a.kind, Value.slice (some { block := b, off := o }) 16 c, Value.string a.name,
              Value.int IntKind.i64 a.port],
          Value.pointer (some { block := w.heap.size, off := 0 }), Value.string { data := #[] },
          Value.pointer (some { block := w.heap.size + 1, off := 0 }), undef, undef, .slice (some ⟨b, o + 2 * x.1, none⟩) 2 2,
          Value.pointer (some { block := w.heap.size, off := 0 }), Value.int IntKind.i64 a.kind, Value.bool false,
          Value.bool false, undef, undef, undef, undef, undef, undef, undef, undef, undef, undef, undef, undef, undef,
          undef, undef, undef, Value.bool true, Value.bool true,
          Value.pointer (some { block := w.heap.size, off := 1 }), Value.slice (some { block := b, off := o }) 16 c,
          Value.func (Fn.func 39) #[]
            #[Value.pointer (some { block := w.heap.size + 2, off := 0 }),
              Value.pointer (some { block := w.heap.size + 3, off := 0 })],
          .slice (some ⟨b, o + 2 * x.1, none⟩) 2 2, undef, undef, undef, undef, undef, undef, undef, undef, undef, undef, undef, undef, undef, undef,
          undef, undef, undef, undef, undef, undef], defers := [] }) ?assign ?body ?done ?stop
  case hI =>
    refine OwnFrom.and (Own.from (fun s A B row hs hg hr => ?_) _) (ownFrom_below (Nat.le_refl _) (by omega))
    obtain ⟨v, ⟨bx, bs, bn⟩, hrow, hp8⟩ := hs
    have hne : ∀ (k : Nat) (t : TypeId) (u : Value), Boxed A k t u → some k ≠ row := by
      intro k t u hk e
      obtain ⟨ob, ho, hcl⟩ := hr k e.symm
      rw [show A.heap[k]? = _ from hk] at ho
      cases ho
      cases hcl
    refine ⟨v, ⟨bx.kept hg (hne _ _ _ bx), bs.kept hg (hne _ _ _ bs), bn.kept hg (hne _ _ _ bn)⟩, hrow.kept hg ?_, hp8⟩
    rcases hrow.2 with ⟨rfl, _⟩ | ⟨g, cap, cur, rfl, _, hgb, _⟩
    · exact .inl rfl
    · refine .inr fun e => ?_
      obtain ⟨ob, ho, hcl⟩ := hr g (by rw [← e]; rfl)
      rw [hgb] at ho
      cases ho
      cases hcl
  case assign =>
    intro l x W K hK
    gi_wp2
    exact hK
  case body =>
    rintro l pre x W ⟨⟨v, ⟨bx, bs, bn⟩, hrow, hp8⟩, hB⟩ hlen
    obtain ⟨va, vc, rfl⟩ := strs_own hrow
    obtain ⟨k, hk⟩ := x
    dsimp only
    obtain ⟨p, hp⟩ : ∃ p : Nat, (ip.getD (2 * k) 0).toNat = p := ⟨_, rfl⟩
    obtain ⟨q, hq⟩ : ∃ q : Nat, (ip.getD (2 * k + 1) 0).toNat = q := ⟨_, rfl⟩
    have hc0 : W.cell? ⟨b, o + 2 * k, none⟩ = some (.int .u8 p) := by rw [← hp]; exact (hB.cell (p := ⟨b, o + 2 * k, none⟩) hb).trans (hrd (2 * k) (by omega))
    have hc1 : W.cell? ⟨b, o + 2 * k + 1, none⟩ = some (.int .u8 q) := by rw [← hq]; exact (hB.cell (p := ⟨b, o + 2 * k + 1, none⟩) hb).trans (hrd (2 * k + 1) (by omega))
    have hcb := bx.cell
    have hp8' : p < 256 := by rw [← hp]; exact UInt8.toNat_lt _
    have hq8' : q < 256 := by rw [← hq]; exact UInt8.toNat_lt _
    obtain ⟨u, hu⟩ : ∃ u : Nat, pairN ip k = u := ⟨_, rfl⟩
    have hu6 : u < 65536 := by rw [← hu]; exact pairN_lt ip k
    have hU : bits BinOp.or IntKind.i64 (IntKind.i64.wrap (IntKind.i64.wrap (p : Int) * 256)) (IntKind.i64.wrap (q : Int)) = (u : Int) := by
      rw [IntWalk.i64_in (p : Int) (by omega), IntWalk.i64_in ((p : Int) * 256) (by omega), IntWalk.i64_in (q : Int) (by omega), i64_or8 p q (by omega) hq8', ← hu]
      unfold pairN
      rw [hp, hq]
      omega
    have htW : TzOk W := ht.later hB
    have hF : ∀ W : World, TzOk W → Calls Tryd.prog 32 #[.int .i64 u, .int .i64 16] W fun e w' => e = .returned (.string (strOf (hexL u))) ∧ Below W.heap.size W w' := fun W h => (format16 u hu6 h (Sat.refl W)).mono fun e w' ⟨he, hs⟩ => ⟨he, hs.below⟩
    have HU := hid_ hu
    have HUU := hid_ hU
    clear hu hU hp hq
    gi_wp2
    have hW3 : ∀ W3 : World, Below W.drew.heap.size W.drew W3 → Below W.heap.size W W3 ∧ (Boxed W3 (w.heap.size + 1) 49 (.slice va pre.length vc) ∧ Boxed W3 (w.heap.size + 2) 23 (.slice (some ⟨b, o, none⟩) 16 c) ∧ Boxed W3 (w.heap.size + 3) 3 (.int .i64 2)) ∧
        W3.ownsRow w.heap.size 9 1 (.slice va pre.length vc) pre.length (pre.map fun k => .string (strOf (hexL (pairN ip k.1)))) ∧ w.heap.size ≤ W3.heap.size ∧ W3.cell? ⟨b, o + 2 * k, none⟩ = some (.int .u8 p) ∧ W3.cell? ⟨b, o + 2 * k + 1, none⟩ = some (.int .u8 q) := by
      intro W3 hb3
      have hbd : Below W.heap.size W W3 := (Below.drewN' W).trans hb3
      exact ⟨hbd, ⟨(hbd.block _ bx.lt).trans bx, (hbd.block _ bs.lt).trans bs, (hbd.block _ bn.lt).trans bn⟩, hrow.kept (row := none) ⟨hbd.os, hbd.tape, hbd.output, hbd.size, fun k hk _ => hbd.block k hk⟩ (by cases hv : (Value.slice va pre.length vc).ownBlock <;> simp), Nat.le_trans hB.size hbd.size,
        (hbd.cell (p := ⟨b, o + 2 * k, none⟩) (Nat.lt_of_lt_of_le hb hB.size)).trans hc0, (hbd.cell (p := ⟨b, o + 2 * k + 1, none⟩) (Nat.lt_of_lt_of_le hb hB.size)).trans hc1⟩
    have hW4 : ∀ W3 : World, w.heap.size ≤ W3.heap.size → W3.cell? ⟨b, o + 2 * k, none⟩ = some (.int .u8 p) → W3.cell? ⟨b, o + 2 * k + 1, none⟩ = some (.int .u8 q) →
        (W3.alloc (.cells #[.string (strOf (hexL u))] 9)).cell? ⟨b, o + 2 * k, none⟩ = some (.int .u8 p) ∧ (W3.alloc (.cells #[.string (strOf (hexL u))] 9)).cell? ⟨b, o + 2 * k + 1, none⟩ = some (.int .u8 q) := by
      intro W3 hs h1 h2
      have hb4 : b < W3.heap.size := Nat.lt_of_lt_of_le hb hs
      exact ⟨(World.cell?_of_block (a := ⟨b, o + 2 * k, none⟩) (Below.heap_alloc W3 _ b hb4)).trans h1, (World.cell?_of_block (a := ⟨b, o + 2 * k + 1, none⟩) (Below.heap_alloc W3 _ b hb4)).trans h2⟩
    have hW5 : ∀ (W3 w5 : World) (v' : Value), w.heap.size ≤ W3.heap.size → W3.ownsRow w.heap.size 9 1 (.slice va pre.length vc) pre.length (pre.map fun k => .string (strOf (hexL (pairN ip k.1)))) →
        (W3.alloc (.cells #[.string (strOf (hexL u))] 9)).cell? ⟨b, o + 2 * k, none⟩ = some (.int .u8 p) → (W3.alloc (.cells #[.string (strOf (hexL u))] 9)).cell? ⟨b, o + 2 * k + 1, none⟩ = some (.int .u8 q) → Boxed W3 (w.heap.size + 2) 23 (.slice (some ⟨b, o, none⟩) 16 c) → Boxed W3 (w.heap.size + 3) 3 (.int .i64 2) →
        (W3.alloc (.cells #[.string (strOf (hexL u))] 9)).grownBy w5 (Value.slice va pre.length vc).ownBlock →
        w5.cell? ⟨b, o + 2 * k, none⟩ = some (.int .u8 p) ∧ w5.cell? ⟨b, o + 2 * k + 1, none⟩ = some (.int .u8 q) ∧ Boxed (w5.setCell ⟨w.heap.size + 1, 0, none⟩ v') (w.heap.size + 2) 23 (.slice (some ⟨b, o, none⟩) 16 c) ∧ Boxed (w5.setCell ⟨w.heap.size + 1, 0, none⟩ v') (w.heap.size + 3) 3 (.int .i64 2) := by
      intro W3 w5 v' hs hrow3 h1 h2 bs3 bn3 hgrow
      have hnb : ∀ j, j < w.heap.size → some j ≠ (Value.slice va pre.length vc).ownBlock := by
        intro j hj e
        have := (hrow3.lt j e.symm).1
        omega
      refine ⟨(World.cell?_of_block (a := ⟨b, o + 2 * k, none⟩) (hgrow.block b (by simp; omega) (hnb b hb))).trans h1, (World.cell?_of_block (a := ⟨b, o + 2 * k + 1, none⟩) (hgrow.block b (by simp; omega) (hnb b hb))).trans h2, ?_, ?_⟩
      · exact ((bs3.alloc _).kept hgrow (bs3.not_row (by decide) hrow3)).kept (grownBy_setCell' w5 _ v') (by simp)
      · exact ((bn3.alloc _).kept hgrow (bn3.not_row (by decide) hrow3)).kept (grownBy_setCell' w5 _ v') (by simp)
    have hfin : ∀ (W3 w5 : World) (v' : Value), Below W.heap.size W W3 → KeepsOthers W3 (w5.setCell ⟨w.heap.size + 1, 0, none⟩ v') → Below w.heap.size W3 (w5.setCell ⟨w.heap.size + 1, 0, none⟩ v') → Boxed (w5.setCell ⟨w.heap.size + 1, 0, none⟩ v') (w.heap.size + 1) 49 v' →
        Boxed (w5.setCell ⟨w.heap.size + 1, 0, none⟩ v') (w.heap.size + 2) 23 (.slice (some ⟨b, o, none⟩) 16 c) → Boxed (w5.setCell ⟨w.heap.size + 1, 0, none⟩ v') (w.heap.size + 3) 3 (.int .i64 2) →
        (w5.setCell ⟨w.heap.size + 1, 0, none⟩ v').ownsRow w.heap.size 9 1 v' (pre.length + 1) ((pre.map fun k => .string (strOf (hexL (pairN ip k.1)))) ++ [.string (strOf (hexL u))]) →
        KeepsFrom w1.heap.size W (w5.setCell ⟨w.heap.size + 1, 0, none⟩ v') ∧ KpC (w.heap.size + 2) (w.heap.size + 3) W (w5.setCell ⟨w.heap.size + 1, 0, none⟩ v') ∧
          (∃ v, (Boxed (w5.setCell ⟨w.heap.size + 1, 0, none⟩ v') (w.heap.size + 1) 49 v ∧ Boxed (w5.setCell ⟨w.heap.size + 1, 0, none⟩ v') (w.heap.size + 2) 23 (.slice (some ⟨b, o, none⟩) 16 c) ∧ Boxed (w5.setCell ⟨w.heap.size + 1, 0, none⟩ v') (w.heap.size + 3) 3 (.int .i64 2)) ∧
            (w5.setCell ⟨w.heap.size + 1, 0, none⟩ v').ownsRow w.heap.size 9 1 v (pre ++ [(⟨k, hk⟩ : Fin 8)]).length ((pre ++ [(⟨k, hk⟩ : Fin 8)]).map fun k => .string (strOf (hexL (pairN ip k.1)))) ∧ (pre ++ [(⟨k, hk⟩ : Fin 8)]).length ≤ 8) ∧ Below w.heap.size w (w5.setCell ⟨w.heap.size + 1, 0, none⟩ v') := by
      intro W3 w5 v' hbd hk6 hb6 bx6 bs6 bn6 hr6
      refine ⟨((KeepsOthers.trans ⟨hbd.size, fun k o hk _ => (hbd.block k (Array.getElem?_eq_some_iff.1 hk).1).trans hk⟩ hk6).from _), ⟨bs6.cell.trans bs.cell.symm, bn6.cell.trans bn.cell.symm, Nat.le_trans hbd.size hb6.size⟩, ⟨v', ⟨bx6, bs6, bn6⟩, ?_, by simp; omega⟩, (hB.trans (hbd.mono hB.size)).trans hb6⟩
      rw [List.length_append, List.map_append]
      simp only [List.length_singleton, List.map_cons, List.map_nil]
      rw [HU.out]
      exact hr6
    refine wpIn_region_heldR (S := fun W' => W'.cell? ⟨b, o + 2 * k, none⟩ = some (.int .u8 p) ∧ W'.cell? ⟨b, o + 2 * k + 1, none⟩ = some (.int .u8 q)) (by kernel_rfl) (by kernel_rfl) ?hQ ?_
    case hQ => rintro ⟨a, w, h⟩; exact h
    have hHeld : W.drew.cell? ⟨b, o + 2 * k, none⟩ = some (.int .u8 p) ∧ W.drew.cell? ⟨b, o + 2 * k + 1, none⟩ = some (.int .u8 q) := ⟨hc0, hc1⟩
    refine wpAnyH_take (i := 1) (oi := ⟨(some 34), _, _, _, _, _⟩) (v := ?va1) rfl (by kernel_rfl) (by kernel_rfl) (by kernel_rfl) (fun _ _ _ h => h) (Or.inl ⟨by rfl, ?ya1⟩) hHeld ?_
    case ya1 => intro W hW; (try dsimp only at hW); go_simp; try with_reducible rfl
    try simp only [Act.put, List.setIfInBounds_toArray, List.set_cons_zero, List.set_cons_succ]
    refine wpAnyH_take (i := 2) (oi := ⟨(some 35), _, _, _, _, _⟩) (v := ?va2) rfl (by kernel_rfl) (by kernel_rfl) (by kernel_rfl) (fun _ _ _ h => h) (Or.inl ⟨by rfl, ?ya2⟩) hHeld ?_
    case ya2 => intro W hW; (try dsimp only at hW); go_simp; try with_reducible rfl
    try simp only [Act.put, List.setIfInBounds_toArray, List.set_cons_zero, List.set_cons_succ]
    refine wpAnyH_take (i := 3) (oi := ⟨(some 36), _, _, _, _, _⟩) (v := ?va3) rfl (by kernel_rfl) (by kernel_rfl) (by kernel_rfl) (fun _ _ _ h => h) (Or.inl ⟨by rfl, ?ya3⟩) hHeld ?_
    case ya3 => intro W hW; (try dsimp only at hW); go_simp; try with_reducible rfl
    try simp only [Act.put, List.setIfInBounds_toArray, List.set_cons_zero, List.set_cons_succ]
    refine wpAnyH_take (i := 4) (oi := ⟨(some 37), _, _, _, _, _⟩) (v := ?va4) rfl (by kernel_rfl) (by kernel_rfl) (by kernel_rfl) (fun _ _ _ h => h) (Or.inl ⟨by rfl, ?ya4⟩) hHeld ?_
    case ya4 => intro W hW; (try dsimp only at hW); go_simp; try with_reducible rfl
    try simp only [Act.put, List.setIfInBounds_toArray, List.set_cons_zero, List.set_cons_succ]
    refine wpAnyH_take (i := 5) (oi := ⟨(some 38), _, _, _, _, _⟩) (v := ?va5) rfl (by kernel_rfl) (by kernel_rfl) (by kernel_rfl) (fun _ _ _ h => h) (Or.inl ⟨by rfl, ?ya5⟩) hHeld ?_
    case ya5 => intro W hW; (try dsimp only at hW); go_simp; try with_reducible rfl
    try simp only [Act.put, List.setIfInBounds_toArray, List.set_cons_zero, List.set_cons_succ]
    refine wpAnyH_take (i := 6) (oi := ⟨(some 39), _, _, _, _, _⟩) (v := ?va6) rfl (by kernel_rfl) (by kernel_rfl) (by kernel_rfl) (fun _ _ _ h => h) (Or.inl ⟨by rfl, ?ya6⟩) hHeld ?_
    case ya6 => intro W hW; (try dsimp only at hW); go_simp; try with_reducible rfl
    try simp only [Act.put, List.setIfInBounds_toArray, List.set_cons_zero, List.set_cons_succ]
    refine wpAnyH_take (i := 7) (oi := ⟨(some 40), _, _, _, _, _⟩) (v := ?va7) rfl (by kernel_rfl) (by kernel_rfl) (by kernel_rfl) (fun _ _ _ h => h) (Or.inl ⟨by rfl, ?ya7⟩) hHeld ?_
    case ya7 => intro W hW; (try dsimp only at hW); go_simp; try with_reducible rfl
    try simp only [Act.put, List.setIfInBounds_toArray, List.set_cons_zero, List.set_cons_succ]
    refine wpAnyH_take (i := 8) (oi := ⟨(some 41), _, _, _, _, _⟩) (v := ?va8) rfl (by kernel_rfl) (by kernel_rfl) (by kernel_rfl) (fun _ _ _ h => h) (Or.inl ⟨by rfl, ?ya8⟩) hHeld ?_
    case ya8 => intro W hW; (try dsimp only at hW); go_simp; try with_reducible rfl
    try simp only [Act.put, List.setIfInBounds_toArray, List.set_cons_zero, List.set_cons_succ]
    refine wpAnyH_take (i := 9) (oi := ⟨(some 42), _, _, _, _, _⟩) (v := ?va9) rfl (by kernel_rfl) (by kernel_rfl) (by kernel_rfl) (fun _ _ _ h => h) (Or.inl ⟨by rfl, ?ya9⟩) hHeld ?_
    case ya9 => intro W hW; (try dsimp only at hW); go_simp; try with_reducible rfl
    try simp only [Act.put, List.setIfInBounds_toArray, List.set_cons_zero, List.set_cons_succ]
    refine wpAnyH_take (i := 10) (oi := ⟨(some 43), _, _, _, _, _⟩) (v := ?va10) rfl (by kernel_rfl) (by kernel_rfl) (by kernel_rfl) (fun _ _ _ h => h) (Or.inl ⟨by rfl, ?ya10⟩) hHeld ?_
    case ya10 => intro W hW; (try dsimp only at hW); go_simp; try with_reducible rfl
    try simp only [Act.put, List.setIfInBounds_toArray, List.set_cons_zero, List.set_cons_succ]
    refine wpAnyH_ready (rs := [0, 11]) (by kernel_rfl) (by simp) ?_
    refine AllReadyH.cons (o := ⟨some 33, _, _, _, _, _⟩) rfl (fun K hK => ?_) (AllReadyH.cons (o := ⟨some 44, _, _, _, _, _⟩) rfl (fun K hK => ?_) AllReadyH.nil)
    · go_simp
      refine hK.out _ _ ⟨hc0, hc1⟩ (fun hHeld => ?_)
      clear hK K
      try simp only [Act.put, List.setIfInBounds_toArray, List.set_cons_zero, List.set_cons_succ]
      refine wpAnyH_ready (rs := [11]) (by kernel_rfl) (by simp) ?_
      refine AllReadyH.cons (o := ⟨some 44, _, _, _, _, _⟩) rfl (fun K hK => ?_) AllReadyH.nil
      go_simp
      go_at_call 32
      rw [HUU.out]
      refine (hF W.drew (htW.later (Below.drewN' _))).mono ?_
      rintro _ W3 ⟨rfl, hb3⟩
      obtain ⟨hbd, ⟨bx3, bs3, bn3⟩, hrow3, hsz3, hc03, hc13⟩ := hW3 W3 hb3
      refine hK.out _ _ ⟨hc03, hc13⟩ (fun hHeld => ?_)
      clear hK K
      try simp only [Act.put, List.setIfInBounds_toArray, List.set_cons_zero, List.set_cons_succ]
      refine wpAnyH_ready (rs := [12]) (by kernel_rfl) (by simp) ?_
      refine AllReadyH.cons (o := ⟨some 45, _, _, _, _, _⟩) rfl (fun K hK => ?_) AllReadyH.nil
      go_simp
      have bx4 := bx3.alloc (.cells #[.string (strOf (hexL u))] 9)
      have hcb4 := bx4.cell
      obtain ⟨hc04, hc14⟩ := hW4 W3 hsz3 hc03 hc13
      refine hK.out _ _ ⟨hc04, hc14⟩ (fun hHeld => ?_)
      clear hK K
      try simp only [Act.put, List.setIfInBounds_toArray, List.set_cons_zero, List.set_cons_succ]
      refine wpAnyH_ready (rs := [13]) (by kernel_rfl) (by simp) ?_
      refine AllReadyH.cons (o := ⟨some 46, _, _, _, _, _⟩) rfl (fun K hK => ?_) AllReadyH.nil
      refine step_append_own (n₀ := w.heap.size) rfl _ _ rfl rfl (hrow3.alloc _) rfl (Boxed.new W3 9 _).cell (by omega) (by simp; omega) ?_
      intro v' w5 hown' hgrow
      obtain ⟨g', cap', rfl⟩ := ownsRow_succ hown'
      obtain ⟨bx5, bx6, hr6, hk6, hb6⟩ := bx3.appended (by decide) hrow3 hsz3 (by omega) hown' hgrow
      obtain ⟨hc05, hc15, bs6, bn6⟩ := hW5 W3 w5 (.slice (some ⟨g', 0, none⟩) (pre.length + 1) cap') hsz3 hrow3 hc04 hc14 bs3 bn3 hgrow
      refine hK.out _ _ ⟨hc05, hc15⟩ (fun hHeld => ?_)
      clear hK K
      try simp only [Act.put, List.setIfInBounds_toArray, List.set_cons_zero, List.set_cons_succ]
      refine wpAnyH_ready (rs := [14]) (by kernel_rfl) (by simp) ?_
      refine AllReadyH.cons (o := ⟨none, _, _, _, _, _⟩) rfl (fun K hK => ?_) AllReadyH.nil
      have hf5 := bx5.frozen
      have hcv5 := bx5.cell
      go_simp
      refine hK.out _ _ ⟨?_, ?_⟩ (fun hHeld => ?_)
      · exact (World.cell?_setCell_other _ _ _ _ (by intro e; injection e with e1; omega)).trans hc05
      · exact (World.cell?_setCell_other _ _ _ _ (by intro e; injection e with e1; omega)).trans hc15
      clear hK K
      try simp only [Act.put, List.setIfInBounds_toArray, List.set_cons_zero, List.set_cons_succ]
      refine wpAnyH_done (by kernel_rfl) ?_ _
      gi_wp2
      exact hfin W3 w5 _ hbd hk6 hb6 bx6 bs6 bn6 hr6
    · go_simp
      go_at_call 32
      rw [HUU.out]
      refine (hF W.drew (htW.later (Below.drewN' _))).mono ?_
      rintro _ W3 ⟨rfl, hb3⟩
      obtain ⟨hbd, ⟨bx3, bs3, bn3⟩, hrow3, hsz3, hc03, hc13⟩ := hW3 W3 hb3
      refine hK.out _ _ ⟨hc03, hc13⟩ (fun hHeld => ?_)
      clear hK K
      try simp only [Act.put, List.setIfInBounds_toArray, List.set_cons_zero, List.set_cons_succ]
      have hcb3 := bx3.cell
      refine wpAnyH_ready (rs := [0, 12]) (by kernel_rfl) (by simp) ?_
      refine AllReadyH.cons (o := ⟨some 33, _, _, _, _, _⟩) rfl (fun K hK => ?_) (AllReadyH.cons (o := ⟨some 45, _, _, _, _, _⟩) rfl (fun K hK => ?_) AllReadyH.nil)
      · go_simp
        refine hK.out _ _ ⟨hc03, hc13⟩ (fun hHeld => ?_)
        clear hK K
        try simp only [Act.put, List.setIfInBounds_toArray, List.set_cons_zero, List.set_cons_succ]
        refine wpAnyH_ready (rs := [12]) (by kernel_rfl) (by simp) ?_
        refine AllReadyH.cons (o := ⟨some 45, _, _, _, _, _⟩) rfl (fun K hK => ?_) AllReadyH.nil
        go_simp
        have bx4 := bx3.alloc (.cells #[.string (strOf (hexL u))] 9)
        have hcb4 := bx4.cell
        obtain ⟨hc04, hc14⟩ := hW4 W3 hsz3 hc03 hc13
        refine hK.out _ _ ⟨hc04, hc14⟩ (fun hHeld => ?_)
        clear hK K
        try simp only [Act.put, List.setIfInBounds_toArray, List.set_cons_zero, List.set_cons_succ]
        refine wpAnyH_ready (rs := [13]) (by kernel_rfl) (by simp) ?_
        refine AllReadyH.cons (o := ⟨some 46, _, _, _, _, _⟩) rfl (fun K hK => ?_) AllReadyH.nil
        refine step_append_own (n₀ := w.heap.size) rfl _ _ rfl rfl (hrow3.alloc _) rfl (Boxed.new W3 9 _).cell (by omega) (by simp; omega) ?_
        intro v' w5 hown' hgrow
        obtain ⟨g', cap', rfl⟩ := ownsRow_succ hown'
        obtain ⟨bx5, bx6, hr6, hk6, hb6⟩ := bx3.appended (by decide) hrow3 hsz3 (by omega) hown' hgrow
        obtain ⟨hc05, hc15, bs6, bn6⟩ := hW5 W3 w5 (.slice (some ⟨g', 0, none⟩) (pre.length + 1) cap') hsz3 hrow3 hc04 hc14 bs3 bn3 hgrow
        refine hK.out _ _ ⟨hc05, hc15⟩ (fun hHeld => ?_)
        clear hK K
        try simp only [Act.put, List.setIfInBounds_toArray, List.set_cons_zero, List.set_cons_succ]
        refine wpAnyH_ready (rs := [14]) (by kernel_rfl) (by simp) ?_
        refine AllReadyH.cons (o := ⟨none, _, _, _, _, _⟩) rfl (fun K hK => ?_) AllReadyH.nil
        have hf5 := bx5.frozen
        have hcv5 := bx5.cell
        go_simp
        refine hK.out _ _ ⟨?_, ?_⟩ (fun hHeld => ?_)
        · exact (World.cell?_setCell_other _ _ _ _ (by intro e; injection e with e1; omega)).trans hc05
        · exact (World.cell?_setCell_other _ _ _ _ (by intro e; injection e with e1; omega)).trans hc15
        clear hK K
        try simp only [Act.put, List.setIfInBounds_toArray, List.set_cons_zero, List.set_cons_succ]
        refine wpAnyH_done (by kernel_rfl) ?_ _
        gi_wp2
        exact hfin W3 w5 _ hbd hk6 hb6 bx6 bs6 bn6 hr6
      · go_simp
        have bx4 := bx3.alloc (.cells #[.string (strOf (hexL u))] 9)
        have hcb4 := bx4.cell
        obtain ⟨hc04, hc14⟩ := hW4 W3 hsz3 hc03 hc13
        refine hK.out _ _ ⟨hc04, hc14⟩ (fun hHeld => ?_)
        clear hK K
        try simp only [Act.put, List.setIfInBounds_toArray, List.set_cons_zero, List.set_cons_succ]
        refine wpAnyH_ready (rs := [0]) (by kernel_rfl) (by simp) ?_
        refine AllReadyH.cons (o := ⟨some 33, _, _, _, _, _⟩) rfl (fun K hK => ?_) AllReadyH.nil
        go_simp
        refine hK.out _ _ ⟨hc04, hc14⟩ (fun hHeld => ?_)
        clear hK K
        try simp only [Act.put, List.setIfInBounds_toArray, List.set_cons_zero, List.set_cons_succ]
        refine wpAnyH_ready (rs := [13]) (by kernel_rfl) (by simp) ?_
        refine AllReadyH.cons (o := ⟨some 46, _, _, _, _, _⟩) rfl (fun K hK => ?_) AllReadyH.nil
        refine step_append_own (n₀ := w.heap.size) rfl _ _ rfl rfl (hrow3.alloc _) rfl (Boxed.new W3 9 _).cell (by omega) (by simp; omega) ?_
        intro v' w5 hown' hgrow
        obtain ⟨g', cap', rfl⟩ := ownsRow_succ hown'
        obtain ⟨bx5, bx6, hr6, hk6, hb6⟩ := bx3.appended (by decide) hrow3 hsz3 (by omega) hown' hgrow
        obtain ⟨hc05, hc15, bs6, bn6⟩ := hW5 W3 w5 (.slice (some ⟨g', 0, none⟩) (pre.length + 1) cap') hsz3 hrow3 hc04 hc14 bs3 bn3 hgrow
        refine hK.out _ _ ⟨hc05, hc15⟩ (fun hHeld => ?_)
        clear hK K
        try simp only [Act.put, List.setIfInBounds_toArray, List.set_cons_zero, List.set_cons_succ]
        refine wpAnyH_ready (rs := [14]) (by kernel_rfl) (by simp) ?_
        refine AllReadyH.cons (o := ⟨none, _, _, _, _, _⟩) rfl (fun K hK => ?_) AllReadyH.nil
        have hf5 := bx5.frozen
        have hcv5 := bx5.cell
        go_simp
        refine hK.out _ _ ⟨?_, ?_⟩ (fun hHeld => ?_)
        · exact (World.cell?_setCell_other _ _ _ _ (by intro e; injection e with e1; omega)).trans hc05
        · exact (World.cell?_setCell_other _ _ _ _ (by intro e; injection e with e1; omega)).trans hc15
        clear hK K
        try simp only [Act.put, List.setIfInBounds_toArray, List.set_cons_zero, List.set_cons_succ]
        refine wpAnyH_done (by kernel_rfl) ?_ _
        gi_wp2
        exact hfin W3 w5 _ hbd hk6 hb6 bx6 bs6 bn6 hr6
  case done =>
    rintro D ys W hD rfl ⟨⟨v, ⟨bx, bs, bn⟩, hrow, hp8⟩, hB⟩ hK
    have e8 : ((List.finRange 8).map fun k => Value.string (strOf (hexL (pairN ip k.1)))) = (hex8 ip).map Value.string := by
      rw [fin8_map (fun k => Value.string (strOf (hexL (pairN ip k))))]
      unfold hex8
      rw [List.map_map]
      rfl
    rw [e8, List.length_finRange] at hrow
    have hl8 : (hex8 ip).length = 8 := by simp [hex8]
    obtain ⟨g, cap, rfl, hgl, hcap, hcells⟩ : ∃ g cap, v = .slice (some ⟨g, 0, none⟩) 8 cap ∧ g < W.heap.size ∧ 8 ≤ cap ∧ ∀ (j : Nat) x, (hex8 ip)[j]? = some x → W.cell? ⟨g, 0 + j, none⟩ = some (.string x) := by
      rcases hrow.2 with ⟨_, h0⟩ | ⟨g, cap, cur, rfl, h1, hg, h2, h3, h4, h5⟩
      · omega
      · refine ⟨g, cap, rfl, (Array.getElem?_eq_some_iff.1 hg).1, h2, fun j x hj => ?_⟩
        have := hrow.cells (g := g) rfl j (.string x) (by rw [List.getElem?_map, hj]; rfl)
        rw [addr_add] at this
        exact this
    have hJ := Tryd.strings_Join g 0 cap (hex8 ip) ⟨#[58]⟩ W hcells hgl (by omega) (by omega) (by have := join8_len ip; omega)
    obtain ⟨js, hjs⟩ : ∃ js, Lib.join ((hex8 ip).map (·.data.toList)) (ByteArray.mk #[58]).data.toList = js := ⟨_, rfl⟩
    have hjl : js.length ≤ 39 := by rw [← hjs]; exact join8_len ip
    have hip : ip6 ip = [91] ++ js ++ [93] := by rw [ip6_as, hjs]
    rw [hjs, hl8] at hJ
    have z1 : ¬ 9223372036854775807 < 1 + js.length := by omega
    have z2 : ¬ 9223372036854775807 < 1 + js.length + 1 := by omega
    have hcx := bx.cell
    have HIP := hid_ hip
    clear hip hjs hjl hl8 e8 hrow hp8 bs bn hcells hcap
    gi_wp2
    refine ⟨trivial, (callsIn_wide.2 hJ).mono ?_⟩
    rintro _ W2 ⟨rfl, hb2⟩
    gi_wp2
    have hK2 : W2.heap[D]? = some (.deferred (some [])) := (hb2.block D (Array.getElem?_eq_some_iff.1 hK).1).trans hK
    refine ⟨by simp, .inl ⟨_, _, rfl, run_takeDeferred hK2, ?_⟩⟩
    refine ⟨.string (strOf (ip6 ip)), ?_, rfl, (hB.trans (hb2.mono hB.size)).trans (belowK_b (w := w) (Nat.le_refl _) W2 D _ _ (by omega) hK2 rfl rfl)⟩
    rw [HIP.out, ← str_add, ← str_add]
    first | exact results_tmp (fn := Tryd.f21) rfl _ _ _ | (simp [results, Tryd.f21, go_sem]; rfl)
  case stop =>
    rintro D c pre W hD hS h hK
    exact h.elim
end Go.Proofs.YtanihjibjjpdbaaDoor
