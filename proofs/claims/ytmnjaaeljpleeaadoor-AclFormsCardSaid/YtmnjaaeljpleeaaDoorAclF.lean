/- The first rule that matches: acl.matching, First, Allows walked (a range over a function). -/
import Derived.RangeFuncBox
import Derived.RangeFuncLeaves
import Derived.Shelf.Abstract
import Derived.WalkKit
import Derived.OwnWalkIn
import Derived.TacticsInMore
import Derived.LoopNIn
import Derived.LoopIn
import Derived.Test.YtmnjaaeljpleeaaDoorAclS
namespace Go.Proofs.YtmnjaaeljpleeaaDoor
open Go Go.RowKit Go.Shelf
set_option linter.unusedVariables false
set_option linter.unusedSimpArgs false
attribute [local go_sem] Oper.semAt_some

/-- Rules in a row, as they read. -/
structure RdRus (w : World) (a : Option Addr) (cap : Nat) (rs : List RuleM) : Prop where
  le : rs.length ≤ cap
  cap : cap ≤ maxLen
  at_ : ∀ i r, rs[i]? = some r → ∃ b off x c, a = some ⟨b, off, none⟩ ∧ b < w.heap.size ∧ (∀ j u, (ruC r (.slice x r.net.length c))[j]? = some u → w.cell? ⟨b, off + i * 7 + j, none⟩ = some u) ∧ RdRu w r x c
theorem RdRus.mono {w w' : World} {a : Option Addr} {cap : Nat} {rs : List RuleM} (h : RdRus w a cap rs) (hb : Below w.heap.size w w') : RdRus w' a cap rs :=
  ⟨h.le, h.cap, fun i r hi => by
    obtain ⟨b, off, x, c, h1, h2, h3, h4⟩ := h.at_ i r hi
    exact ⟨b, off, x, c, h1, Nat.lt_of_lt_of_le h2 hb.size, fun j u hj => (hb.cell (p := ⟨b, off + i * 7 + j, none⟩) h2).trans (h3 j u hj), h4.mono hb⟩⟩

def hitAt (rs : List RuleM) (a : AdM) (i : Nat) : Bool := ((rs[i]?).map (·.hit a)).getD false
/-- The numbers, below k, of the rules that match. -/
def hitsTo (rs : List RuleM) (a : AdM) (k : Nat) : List Nat := (List.range k).filter (hitAt rs a)
theorem hitsTo_succ (rs : List RuleM) (a : AdM) (k : Nat) : hitsTo rs a (k + 1) = hitsTo rs a k ++ if hitAt rs a k then [k] else [] := by
  unfold hitsTo
  rw [List.range_succ, List.filter_append]
  congr 1
  cases h : hitAt rs a k <;> simp [h]
theorem hitsTo_length (rs : List RuleM) (a : AdM) (k : Nat) : (hitsTo rs a k).length ≤ k := by
  unfold hitsTo
  have := List.length_filter_le (hitAt rs a) (List.range k)
  rwa [List.length_range] at this

set_option maxRecDepth 100000 in
set_option maxHeartbeats 1000000 in
theorem acl_matching_in (n : Nat) (la : Option Addr) (len cap : Nat) (a : AdM) (y : Option Addr) (d : Nat) (w : World) :
    CallsIn Fence.wide n Tryd.prog 27 #[.slice la len cap, adA a (.slice y a.ip.length d)] w fun e w' =>
      e = .returned (.func (.func 33) #[] #[.pointer (some ⟨w.heap.size, 0, none⟩), .pointer (some ⟨w.heap.size + 1, 0, none⟩)]) ∧
      w' = (w.alloc (.cells #[.slice la len cap] 22)).alloc (.cells #[.int .i64 a.kind, .slice y a.ip.length d, .string a.name, .int .i64 a.port] 25) := by
  unfold adA
  refine callsIn_of_wp Tryd.func27 rfl trivial ?_ rfl
  simp only [Tryd.ntmps27, List.size_toArray, List.length_cons, List.length_nil, Nat.reduceAdd, Nat.reduceSub, Array.replicate_succ, Array.replicate_zero, List.push_toArray, List.append_toArray, List.nil_append, List.cons_append]
  gi_wp2
  go_ret
  exact ⟨rfl, rfl⟩

set_option maxRecDepth 100000 in
set_option maxHeartbeats 2000000 in
theorem acl_matching1_in (n : Nat) (hn : 1 ≤ n) (l Bl Ba n₀ : Nat) (la : Option Addr) (cap : Nat) (rs : List RuleM) (a : AdM) (y : Option Addr) (d : Nat) (J Jx : List Nat → World → Prop)
    (hY : ∀ (pre : List Nat) (x : Nat) (W : World), J pre W → pre.length < rs.length → YieldAt Fence.wide (n - 1) Tryd.prog l #[.int .i64 (x : Int)] W fun e W' =>
      (e = .returned (.bool true) ∧ J (pre ++ [x]) W' ∧ Below n₀ W W') ∨ (e = .returned (.bool false) ∧ Jx (pre ++ [x]) W'))
    (hJb : ∀ pre W W', J pre W → Below W.heap.size W W' → J pre W')
    (w W : World) (hn0 : w.heap.size ≤ n₀) (hbw : Below w.heap.size w W) (hr : RdRus w la cap rs) (ha : RdAd w a y d) (hBa : Ba < n₀) (hBl : Bl < n₀) (hn1 : n₀ ≤ W.heap.size)
    (hcl : W.cell? ⟨Bl, 0, none⟩ = some (.slice la rs.length cap))
    (hca : W.heap[Ba]? = some (.cells #[.int .i64 a.kind, .slice y a.ip.length d, .string a.name, .int .i64 a.port] 25 (0, 0))) (h0 : J [] W) :
    CallsIn Fence.wide n Tryd.prog 33 #[.func (.yield l) #[] #[], .pointer (some ⟨Bl, 0, none⟩), .pointer (some ⟨Ba, 0, none⟩)] W fun e W' => (∃ v, e = .returned v) ∧
      ((∃ ys, ys = hitsTo rs a rs.length ∧ J ys W') ∨ (∃ pre, (∃ k, k < rs.length ∧ hitAt rs a k = true ∧ pre = hitsTo rs a k ++ [k]) ∧ Jx pre W')) := by
  obtain ⟨len, hlen⟩ : ∃ len, rs.length = len := ⟨_, rfl⟩
  have HL := hid_ hlen
  have hmax : len ≤ 9223372036854775807 := by have := hr.le; have := hr.cap; unfold maxLen at this; omega
  rw [hlen] at hcl ⊢
  clear hlen
  refine callsIn_of_wp Tryd.func33 rfl trivial ?_ rfl
  simp only [Tryd.ntmps33, List.size_toArray, List.length_cons, List.length_nil, Nat.reduceAdd, Nat.reduceSub, Array.replicate_succ, Array.replicate_zero, List.push_toArray, List.append_toArray, List.nil_append, List.cons_append]
  gi_wp2
  gi_loopw [8] (fun i wr => ∃ k : Nat, k ≤ len ∧ i = .int .i64 k ∧ J (hitsTo rs a k) wr ∧ Below n₀ W wr)
    (fun i _ => len - (intOf i).toNat)
  case atStart => exact ⟨0, Nat.zero_le _, rfl, h0, Below.refl _ _⟩
  case round =>
    obtain ⟨k, hk, rfl, hJs, hnx⟩ := hrel
    by_cases hlt : k < len
    · obtain ⟨r, hri⟩ : ∃ r, rs[k]? = some r := ⟨_, List.getElem?_eq_getElem (by rw [HL.out]; exact hlt)⟩
      have hwr : Below w.heap.size w wr := hbw.trans (hnx.mono hn0)
      obtain ⟨b, off, x, c, rfl, hb, hcells, hrr⟩ := (hr.mono hwr).at_ k r hri
      have c0 : wr.cell? ⟨b, off + k * 7, none⟩ = some (.int .i64 r.kind) := hcells 0 _ rfl
      have c1 : wr.cell? ⟨b, off + k * 7 + 1, none⟩ = some (.bool r.allow) := hcells 1 _ rfl
      have c2 : wr.cell? ⟨b, off + k * 7 + 2, none⟩ = some (.slice x r.net.length c) := hcells 2 _ rfl
      have c3 : wr.cell? ⟨b, off + k * 7 + 3, none⟩ = some (.int .i64 r.bits) := hcells 3 _ rfl
      have c4 : wr.cell? ⟨b, off + k * 7 + 4, none⟩ = some (.string r.name) := hcells 4 _ rfl
      have c5 : wr.cell? ⟨b, off + k * 7 + 5, none⟩ = some (.int .i64 r.low) := hcells 5 _ rfl
      have c6 : wr.cell? ⟨b, off + k * 7 + 6, none⟩ = some (.int .i64 r.high) := hcells 6 _ rfl
      have hBaw : Ba < wr.heap.size := Nat.lt_of_lt_of_le (Nat.lt_of_lt_of_le hBa hn1) hnx.size
      have hne : wr.heap.size ≠ Ba := by omega
      have hca' : wr.heap[Ba]? = some (.cells #[.int .i64 a.kind, .slice y a.ip.length d, .string a.name, .int .i64 a.port] 25 (0, 0)) := (hnx.block Ba hBa).trans hca
      have a0 := cell_at hca' 0
      have a1 := cell_at hca' 1
      have a2 := cell_at hca' 2
      have a3 := cell_at hca' 3
      simp only [List.getElem?_toArray, List.getElem?_cons_zero, List.getElem?_cons_succ] at a0 a1 a2 a3
      have hbA : ∀ o, Below wr.heap.size wr (wr.alloc o) := fun o => (Below.refl _ _).alloc (Nat.le_refl _) o
      gi_wp2
      refine ⟨trivial, (callsIn_wide.2 (acl_Match r a x y c d (hrr.mono (hbA _)) ((ha.mono hwr).mono (hbA _)))).mono ?_⟩
      rintro _ w3 ⟨rfl, h3⟩
      have hb3 : Below wr.heap.size wr w3 := (hbA _).trans (h3.mono (by simp))
      have hJ3 := hJb _ _ _ hJs hb3
      have hn3 : Below n₀ wr w3 := hb3.mono (Nat.le_trans hn1 hnx.size)
      cases hh : r.hit a
      · have hk0 : hitAt rs a k = false := by unfold hitAt; rw [hri]; exact hh
        have HK := hid_ (show hitsTo rs a (k + 1) = hitsTo rs a k by rw [hitsTo_succ, hk0]; simp)
        clear hk0 hh hri
        gi_wp2
        refine ⟨fun _ h => (by cases h), ?_⟩
        gi_wp2
        go_roundw
        case rel => exact ⟨k + 1, by omega, by go_num, by rw [HK.out]; exact hJ3, hnx.trans hn3⟩
        case measure => simp [intOf]; omega
      · have hk1 : hitAt rs a k = true := by unfold hitAt; rw [hri]; exact hh
        have HK := hid_ (show hitsTo rs a (k + 1) = hitsTo rs a k ++ [k] by rw [hitsTo_succ, hk1]; simp)
        have HK1 := hid_ hk1
        obtain ⟨fn, tmps, assign, body, hy, hR⟩ := hY _ k w3 hJ3 (by rw [HL.out]; exact Nat.lt_of_le_of_lt (hitsTo_length rs a k) hlt)
        clear hk1 hh hri
        gi_wp2
        refine hR.mono ?_
        rintro e W4 (⟨rfl, hJ4, hk4⟩ | ⟨rfl, hJx4⟩)
        · gi_wp2
          go_roundw
          case rel => exact ⟨k + 1, by omega, by go_num, by rw [HK.out]; exact hJ4, (hnx.trans hn3).trans hk4⟩
          case measure => simp [intOf]; omega
        · gi_wp2
          refine bodyPost_ret (results_none rfl _ _ _) rfl ?_
          exact ⟨⟨_, rfl⟩, .inr ⟨_, ⟨k, hlt, HK1.out, rfl⟩, hJx4⟩⟩
    · obtain rfl : k = len := by omega
      gi_wp2
      go_end0
      exact ⟨⟨_, rfl⟩, .inl ⟨_, rfl, hJs⟩⟩

theorem acl_matching_stops (n : Nat) (hn : 1 ≤ n) (Bl Ba n₀ : Nat) (la : Option Addr) (cap : Nat) (rs : List RuleM) (a : AdM) (y : Option Addr) (d : Nat) (w0 w : World) (hn0 : w0.heap.size ≤ n₀) (hbw : Below w0.heap.size w0 w) (hr : RdRus w0 la cap rs) (ha : RdAd w0 a y d)
    (hBa : Ba < n₀) (hBl : Bl < n₀) (hn1 : n₀ ≤ w.heap.size) (hcl : w.cell? ⟨Bl, 0, none⟩ = some (.slice la rs.length cap))
    (hca : w.heap[Ba]? = some (.cells #[.int .i64 a.kind, .slice y a.ip.length d, .string a.name, .int .i64 a.port] 25 (0, 0))) :
    SeqStopsK Fence.wide n Tryd.prog 33 #[.pointer (some ⟨Bl, 0, none⟩), .pointer (some ⟨Ba, 0, none⟩)] (fun x : Nat => #[Value.int .i64 (x : Int)]) (Below n₀) (fun ys => ys = hitsTo rs a rs.length)
      (fun pre => ∃ k, k < rs.length ∧ hitAt rs a k = true ∧ pre = hitsTo rs a k ++ [k]) rs.length w := fun l J Jx W hW hJ _ hY h0 =>
  acl_matching1_in n hn l Bl Ba n₀ la cap rs a y d J Jx hY (fun pre W1 W2 hj hb => hJ pre W1 W2 none hj ⟨hb.os, hb.tape, hb.output, hb.size, fun k hk _ => hb.block k hk⟩ (fun r e => by cases e))
    w0 W hn0 (hbw.trans (hW.mono hbw.size)) hr ha hBa hBl (Nat.le_trans hn1 hW.size) ((hW.cell (p := ⟨Bl, 0, none⟩) (Nat.lt_of_lt_of_le hBl hn1)).trans hcl) ((hW.block Ba (Nat.lt_of_lt_of_le hBa hn1)).trans hca) h0

/-- The number of the first rule that matches, or -1. -/
def firstM (rs : List RuleM) (a : AdM) : Int := match hitsTo rs a rs.length with | [] => -1 | k :: _ => (k : Int)
theorem hitsTo_pre (rs : List RuleM) (a : AdM) (k : Nat) : ∀ m, ∃ t, hitsTo rs a (k + m) = hitsTo rs a k ++ t
  | 0 => ⟨[], by simp⟩
  | m + 1 => by
    obtain ⟨t, ht⟩ := hitsTo_pre rs a k m
    rw [← Nat.add_assoc, hitsTo_succ, ht, List.append_assoc]
    exact ⟨_, rfl⟩
theorem firstM_at {rs : List RuleM} {a : AdM} {k : Nat} (hk : k < rs.length) (hh : hitAt rs a k = true) (he : hitsTo rs a k = []) : firstM rs a = k := by
  obtain ⟨t, ht⟩ := hitsTo_pre rs a (k + 1) (rs.length - (k + 1))
  rw [show k + 1 + (rs.length - (k + 1)) = rs.length by omega, hitsTo_succ, he, hh] at ht
  unfold firstM
  rw [ht]
  rfl

set_option maxRecDepth 100000 in
set_option maxHeartbeats 2000000 in
theorem acl_First_in (n : Nat) (hn : 3 ≤ n) (la : Option Addr) (cap : Nat) (rs : List RuleM) (a : AdM) (y : Option Addr) (d : Nat) (w : World) (hr : RdRus w la cap rs) (ha : RdAd w a y d) :
    CallsIn Fence.wide n Tryd.prog 12 #[.slice la rs.length cap, adA a (.slice y a.ip.length d)] w fun e W' => e = .returned (.int .i64 (firstM rs a)) ∧ Below w.heap.size w W' := by
  have h1 : 1 ≤ n := by omega
  unfold adA
  refine callsIn_of_wp_marks Tryd.func12 rfl trivial ?_ rfl
  simp only [Tryd.ntmps12, List.size_toArray, List.length_cons, List.length_nil, Nat.reduceAdd, Nat.reduceSub, Array.replicate_succ, Array.replicate_zero, List.push_toArray, List.append_toArray, List.nil_append, List.cons_append]
  gi_wp2
  refine ⟨trivial, (acl_matching_in (n - 1) la rs.length cap a y d _).mono ?_⟩
  rintro _ w1 ⟨rfl, hw1⟩
  have s2 := ((Sat.refl w).alloc2 (.cells #[.int .i64 a.kind, .slice y a.ip.length d, .string a.name, .int .i64 a.port] 25 (0, 0)) (.cells #[.int .i64 0] 3 (0, 0))).alloc2 (.cells #[.slice la rs.length cap] 22 (0, 0)) (.cells #[.int .i64 a.kind, .slice y a.ip.length d, .string a.name, .int .i64 a.port] 25 (0, 0))
  rw [← hw1] at s2
  clear hw1
  simp only [World.size_alloc, Nat.add_assoc, Nat.reduceAdd] at s2 ⊢
  have hBw : Below w.heap.size w w1 := s2.below
  have hba := s2.blk.1
  have hbl := s2.drop.blk.1
  have hR := s2.drop.drop.blk.1
  have hlt := s2.lt
  clear s2
  gi_wp2
  refine wpIn_rangeFunc_ownG rfl h1 (gf := 33) (lb := #[.pointer (some ⟨w.heap.size + 2, 0, none⟩), .pointer (some ⟨w.heap.size + 3, 0, none⟩)]) rfl trivial (enters_of Tryd.func33 (by kernel_rfl) rfl)
    (acl_matching_stops (n - 1) (by omega) (w.heap.size + 2) (w.heap.size + 3) (w.heap.size + 4) la cap rs a y d w w1 (by omega) hBw hr ha (by omega) (by omega) (by omega) (cell_at hbl 0) hba) belowK_t (belowK_b (by omega)) (Below.refl _ _) (fun _ => rfl)
    (fun pre W => (pre = [] ∧ W.cell? ⟨w.heap.size + 1, 0, none⟩ = some (.int .i64 0) ∧ W.frozen? ⟨w.heap.size + 1, 0, none⟩ = false) ∧ Below w.heap.size w W)
    (fun c pre W => (c = .ret ∧ ∃ x : Nat, pre = [x] ∧ W.cell? ⟨w.heap.size + 1, 0, none⟩ = some (.int .i64 (x : Int))) ∧ Below w.heap.size w W)
    (OwnFrom.and (Own.from (fun s A B row hs hg hr => ⟨hs.1, cell_kept hs.2.1 hg hr, (frozen_kept hs.2.1 hg hr).trans hs.2.2⟩) _) (ownFrom_below (Nat.le_refl _) (by omega)))
    (fun c => OwnFrom.and (Own.from (fun s A B row hs hg hr => by obtain ⟨hc, x, e1, e4⟩ := hs; exact ⟨hc, x, e1, cell_kept e4 hg hr⟩) _) (ownFrom_below (Nat.le_refl _) (by omega)))
    ⟨⟨rfl, cell_at hR 0, frozen_at hR 0⟩, hBw⟩
    (fun x => { tmps := #[.slice la rs.length cap, .agg #[.int .i64 a.kind, .slice y a.ip.length d, .string a.name, .int .i64 a.port], undef, .pointer (some ⟨w.heap.size, 0, none⟩), .pointer (some ⟨w.heap.size + 1, 0, none⟩), .int .i64 (x : Int), .slice la rs.length cap, .agg #[.int .i64 a.kind, .slice y a.ip.length d, .string a.name, .int .i64 a.port], .func (.func 33) #[] #[.pointer (some ⟨w.heap.size + 2, 0, none⟩), .pointer (some ⟨w.heap.size + 3, 0, none⟩)], .int .i64 (x : Int), undef], defers := [] }) ?assign ?body ?done ?stop
  case assign =>
    intro l x W K hK
    gi_wp2
    exact hK
  case body =>
    rintro l pre x W ⟨⟨rfl, hcr, hfr⟩, hB⟩ _
    gi_wp2
    exact ⟨(KeepsOthers.setCell _ _ _).from _, ⟨rfl, x, rfl, World.cell?_setCell_same' _ _ _ (by rw [hcr]; rfl)⟩, hB.setCell (p := ⟨w.heap.size + 1, 0, none⟩) (by simp) _⟩
  case done =>
    rintro D ys W hD rfl ⟨⟨hne, hcr, hfr⟩, hB⟩ hK
    gi_wp2
    have hK' := (KeepsOthers.setCell W ⟨w.heap.size + 1, 0, none⟩ (.int .i64 (-1))).same D _ hK rfl
    refine ⟨by simp, .inl ⟨_, _, rfl, run_takeDeferred hK', ?_⟩⟩
    have hc5 := cell_kept (World.cell?_setCell_same' W ⟨w.heap.size + 1, 0, none⟩ (.int .i64 (-1)) (by rw [hcr]; rfl)) (grownBy_putObj' _ D (.deferred none)) (fun r e => by cases e; exact ⟨_, hK', rfl⟩)
    refine ⟨.int .i64 (firstM rs a), ?_, rfl, (hB.setCell (p := ⟨w.heap.size + 1, 0, none⟩) (by simp) _).trans (belowK_b (w := w) (Nat.le_refl _) _ D _ _ (by omega) hK' rfl rfl)⟩
    rw [show firstM rs a = -1 by unfold firstM; rw [hne]]
    simp [results, Tryd.f12, go_sem, hc5]
  case stop =>
    rintro D c pre W hD ⟨k, hk, hh, rfl⟩ ⟨⟨rfl, x, e1, hcr⟩, hB⟩ hK
    gi_wp2
    refine ⟨by simp, .inl ⟨_, _, rfl, run_takeDeferred hK, ?_⟩⟩
    have hc5 := cell_kept hcr (grownBy_putObj' _ D (.deferred none)) (fun r e => by cases e; exact ⟨_, hK, rfl⟩)
    obtain ⟨e2, e3⟩ : hitsTo rs a k = [] ∧ k = x := by
      obtain ⟨e2, e3⟩ := List.append_inj' (t₁ := [k]) (s₂ := ([] : List Nat)) (t₂ := [x]) e1 rfl
      exact ⟨e2, by simpa using e3⟩
    subst e3
    refine ⟨.int .i64 (firstM rs a), ?_, rfl, hB.trans (belowK_b (w := w) (Nat.le_refl _) W D _ _ (by omega) hK rfl rfl)⟩
    rw [firstM_at hk hh e2]
    simp [results, Tryd.f12, go_sem, hc5]
end Go.Proofs.YtmnjaaeljpleeaaDoor
