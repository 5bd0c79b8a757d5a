/- slices.Chunk of sixteen bytes, two by two: walked (a range over a function). Begun. -/
import Derived.RangeFuncBox
import Derived.RangeFuncLeaves
import Derived.Shelf.Abstract
import Derived.WalkKit
import Derived.OwnWalkIn
import Derived.TacticsInMore
import Derived.LoopNIn
import Derived.LoopIn
import Derived.BigQuiet
import Derived.Test.YtanihjibjjpdbaaDoorHst
namespace Go.Proofs.YtanihjibjjpdbaaDoor
open Go Go.RowKit Go.Shelf
set_option linter.unusedVariables false
set_option linter.unusedSimpArgs false
attribute [local go_sem] Oper.semAt_some

set_option maxRecDepth 100000 in
set_option maxHeartbeats 1000000 in
theorem chunk_in (n : Nat) (la : Option Addr) (len cap : Nat) (w : World) :
    CallsIn Fence.wide n Tryd.prog 31 #[.slice la len cap, .int .i64 2] w fun e w' =>
      e = .returned (.func (.func 39) #[] #[.pointer (some ⟨w.heap.size, 0, none⟩), .pointer (some ⟨w.heap.size + 1, 0, none⟩)]) ∧
      w' = (w.alloc (.cells #[.slice la len cap] 23)).alloc (.cells #[.int .i64 2] 3) := by
  refine callsIn_of_wp Tryd.func31 rfl trivial ?_ rfl
  simp only [Tryd.ntmps31, List.size_toArray, List.length_cons, List.length_nil, Nat.reduceAdd, Nat.reduceSub, Array.replicate_succ, Array.replicate_zero, List.push_toArray, List.append_toArray, List.nil_append, List.cons_append]
  gi_wp2
  go_ret
  exact ⟨rfl, rfl⟩
/-- s[2k:] and s[2k : 2k+2 : 2k+2] of sixteen bytes. -/
theorem chk_from {b o c k : Nat} (hk : k < 8) (hc : 16 ≤ c) (W : World) : (Instr.slice 23 (.slice (some ⟨b, o, none⟩) 16 c) (some (.int .i64 ((2 * k : Nat) : Int))) none none).run Tryd.prog W = .ok (.slice (some ⟨b, o + 2 * k, none⟩) (16 - 2 * k) (c - 2 * k)) W := by
  have e : Tryd.prog.elem 23 = 5 := rfl
  have hs : (sizeOf 5).run Tryd.prog W = .ok 1 W := by kernel_rfl
  rw [run_slice_l (P := Tryd.prog) (w := W) (t := 23) (ht := Tryd.underlying23) (h0 := by omega) (h1 := by omega), e, hs]
  simp only [Result.andThen_ok]
  unfold sliced
  rw [Int.toNat_natCast, if_neg (by omega), Option.map_some, addr_add, Nat.mul_one]
theorem chk_mid {b o c k : Nat} (hk : k < 8) (hc : 16 ≤ c) (W : World) : (Instr.slice 23 (.slice (some ⟨b, o, none⟩) 16 c) (some (.int .i64 ((2 * k : Nat) : Int))) (some (.int .i64 ((2 * k + 2 : Nat) : Int))) (some (.int .i64 ((2 * k + 2 : Nat) : Int)))).run Tryd.prog W = .ok (.slice (some ⟨b, o + 2 * k, none⟩) 2 2) W := by
  have e : Tryd.prog.elem 23 = 5 := rfl
  have hs : (sizeOf 5).run Tryd.prog W = .ok 1 W := by kernel_rfl
  rw [run_slice_lhm (P := Tryd.prog) (w := W) (t := 23) (ht := Tryd.underlying23) (h0 := by omega) (h1 := by omega) (h2 := by omega) (h3 := by omega), e, hs]
  simp only [Result.andThen_ok]
  unfold sliced
  rw [Int.toNat_natCast, Int.toNat_natCast, if_neg (by omega), Option.map_some, addr_add, Nat.mul_one, show 2 * k + 2 - 2 * k = 2 by omega]
/-- What a round must keep: the two cells that the iterator has caught. -/
def KpC (Bs Bn : Nat) (W W' : World) : Prop := W'.cell? ⟨Bs, 0, none⟩ = W.cell? ⟨Bs, 0, none⟩ ∧ W'.cell? ⟨Bn, 0, none⟩ = W.cell? ⟨Bn, 0, none⟩ ∧ W.heap.size ≤ W'.heap.size
theorem KpC.refl {Bs Bn : Nat} (W : World) : KpC Bs Bn W W := ⟨rfl, rfl, Nat.le_refl _⟩
theorem KpC.trans {Bs Bn : Nat} {A B C : World} (h : KpC Bs Bn A B) (h' : KpC Bs Bn B C) : KpC Bs Bn A C := ⟨h'.1.trans h.1, h'.2.1.trans h.2.1, Nat.le_trans h.2.2 h'.2.2⟩
theorem KpC.below {Bs Bn : Nat} {A B : World} (h : Below A.heap.size A B) (h1 : Bs < A.heap.size) (h2 : Bn < A.heap.size) : KpC Bs Bn A B := ⟨h.cell (p := ⟨Bs, 0, none⟩) h1, h.cell (p := ⟨Bn, 0, none⟩) h2, h.size⟩
theorem kpC_b {Bs Bn n : Nat} (h1 : Bs < n) (h2 : Bn < n) : ∀ (W : World) (l : Nat) (o o' : Obj), n ≤ l → W.heap[l]? = some o → o.isCells = false → o.isWalk = false → KpC Bs Bn W (W.putObj l o') := by
  intro W l o o' hl _ _ _
  have e : ∀ k, k < n → (W.putObj l o').heap[k]? = W.heap[k]? := fun k hk => World.putObj_heap_other (by omega)
  refine ⟨?_, ?_, by simp⟩
  · exact World.cell?_of_block (a := ⟨Bs, 0, none⟩) (e Bs h1)
  · exact World.cell?_of_block (a := ⟨Bn, 0, none⟩) (e Bn h2)
theorem fin8_take {k : Nat} (h : k < 8) : (List.finRange 8).take (k + 1) = (List.finRange 8).take k ++ [⟨k, h⟩] := by
  rw [List.take_add_one]
  simp [h]
set_option maxRecDepth 100000 in
set_option maxHeartbeats 2000000 in
theorem chunk1_in (n : Nat) (hn : 1 ≤ n) (l Bs Bn b o c : Nat) (J Jx : List (Fin 8) → World → Prop)
    (hY : ∀ (pre : List (Fin 8)) (x : Fin 8) (W : World), J pre W → pre.length < 8 → YieldAt Fence.wide (n - 1) Tryd.prog l #[.slice (some ⟨b, o + 2 * x.1, none⟩) 2 2] W fun e W' =>
      (e = .returned (.bool true) ∧ J (pre ++ [x]) W' ∧ KpC Bs Bn W W') ∨ (e = .returned (.bool false) ∧ Jx (pre ++ [x]) W'))
    (hJb : ∀ pre W W', J pre W → Below W.heap.size W W' → J pre W')
    (W : World) (hc : 16 ≤ c) (hBs : Bs < W.heap.size) (hBn : Bn < W.heap.size)
    (hcs : W.cell? ⟨Bs, 0, none⟩ = some (.slice (some ⟨b, o, none⟩) 16 c)) (hcn : W.cell? ⟨Bn, 0, none⟩ = some (.int .i64 2)) (h0 : J [] W) :
    CallsIn Fence.wide n Tryd.prog 39 #[.func (.yield l) #[] #[], .pointer (some ⟨Bs, 0, none⟩), .pointer (some ⟨Bn, 0, none⟩)] W fun e W' => (∃ v, e = .returned v) ∧
      ((∃ ys, ys = List.finRange 8 ∧ J ys W') ∨ (∃ pre, True ∧ Jx pre W')) := by
  refine callsIn_of_wp Tryd.func39 rfl trivial ?_ rfl
  simp only [Tryd.ntmps39, List.size_toArray, List.length_cons, List.length_nil, Nat.reduceAdd, Nat.reduceSub, Array.replicate_succ, Array.replicate_zero, List.push_toArray, List.append_toArray, List.nil_append, List.cons_append]
  gi_wp2
  gi_loopw [4] (fun i wr => ∃ k : Nat, k ≤ 8 ∧ i = .int .i64 ((2 * k : Nat) : Int) ∧ J ((List.finRange 8).take k) wr ∧ KpC Bs Bn W wr)
    (fun i _ => 16 - (intOf i).toNat)
  case atStart => exact ⟨0, Nat.zero_le _, rfl, h0, KpC.refl _⟩
  case round =>
    obtain ⟨k, hk, rfl, hJs, hnx⟩ := hrel
    have cs : wr.cell? ⟨Bs, 0, none⟩ = some (.slice (some ⟨b, o, none⟩) 16 c) := hnx.1.trans hcs
    have cn : wr.cell? ⟨Bn, 0, none⟩ = some (.int .i64 2) := hnx.2.1.trans hcn
    by_cases hlt : k < 8
    · obtain ⟨i2, hi2⟩ : ∃ i2, 2 * k = i2 := ⟨_, rfl⟩
      have z1 : (i2 : Int) < 16 := by omega
      have g1 := fun W => chk_from (b := b) (o := o) (c := c) hlt hc W
      have g2 := fun W => chk_mid (b := b) (o := o) (c := c) hlt hc W
      have E2 : IntKind.i64.wrap ((i2 : Int) + 2) = (i2 : Int) + 2 := IntWalk.i64_in _ (by omega)
      rw [show ((2 * k + 2 : Nat) : Int) = (i2 : Int) + 2 by omega, hi2] at g2
      rw [hi2] at g1 ⊢
      gi_wp2
      have hl16 : ((16 - i2 : Nat) : Int) = 16 - (i2 : Int) := by omega
      have hmn : min (2 : Int) (16 - (i2 : Int)) = 2 := by omega
      refine wpIn_wide.2 ?_
      go_quiet (fail)
      have hbd : Below wr.heap.size wr (wr.drewN nq) := ⟨rfl, rfl, rfl, Nat.le_refl _, fun _ _ => rfl⟩
      have hJ2 := hJb _ _ _ hJs hbd
      have cs2 : (wr.drewN nq).cell? ⟨Bs, 0, none⟩ = some (.slice (some ⟨b, o, none⟩) 16 c) := cs
      have cn2 : (wr.drewN nq).cell? ⟨Bn, 0, none⟩ = some (.int .i64 2) := cn
      obtain ⟨fn, tmps, assign, body, hy, hR⟩ := hY _ ⟨k, hlt⟩ _ hJ2 (by rw [List.length_take, List.length_finRange]; omega)
      dsimp only at hy
      rw [hi2] at hy
      gi_wp2
      refine hR.mono ?_
      rintro e W4 (⟨rfl, hJ4, hk4⟩ | ⟨rfl, hJx4⟩)
      · have cn4 : W4.cell? ⟨Bn, 0, none⟩ = some (.int .i64 2) := hk4.2.1.trans cn2
        gi_wp2
        go_roundw
        case rel => exact ⟨k + 1, by omega, by congr 1; omega, by rw [fin8_take hlt]; exact hJ4, (hnx.trans (KpC.below hbd (Nat.lt_of_lt_of_le hBs hnx.2.2) (Nat.lt_of_lt_of_le hBn hnx.2.2))).trans hk4⟩
        case measure => simp [intOf]; omega
      · gi_wp2
        refine bodyPost_ret (results_none rfl _ _ _) rfl ?_
        exact ⟨⟨_, rfl⟩, .inr ⟨_, trivial, hJx4⟩⟩
    · obtain rfl : k = 8 := by omega
      gi_wp2
      go_end0
      exact ⟨⟨_, rfl⟩, .inl ⟨_, rfl, hJs⟩⟩
theorem chunk_stops (n : Nat) (hn : 1 ≤ n) (Bs Bn b o c : Nat) (w : World) (hc : 16 ≤ c) (hBs : Bs < w.heap.size) (hBn : Bn < w.heap.size)
    (hcs : w.cell? ⟨Bs, 0, none⟩ = some (.slice (some ⟨b, o, none⟩) 16 c)) (hcn : w.cell? ⟨Bn, 0, none⟩ = some (.int .i64 2)) :
    SeqStopsK Fence.wide n Tryd.prog 39 #[.pointer (some ⟨Bs, 0, none⟩), .pointer (some ⟨Bn, 0, none⟩)] (fun x : Fin 8 => #[Value.slice (some ⟨b, o + 2 * x.1, none⟩) 2 2]) (KpC Bs Bn) (fun ys => ys = List.finRange 8)
      (fun pre => True) 8 w := fun l J Jx W hW hJ _ hY h0 =>
  chunk1_in n hn l Bs Bn b o c J Jx hY (fun pre W1 W2 hj hb => hJ pre W1 W2 none hj ⟨hb.os, hb.tape, hb.output, hb.size, fun k hk _ => hb.block k hk⟩ (fun r e => by cases e))
    W hc (Nat.lt_of_lt_of_le hBs hW.size) (Nat.lt_of_lt_of_le hBn hW.size) ((hW.cell (p := ⟨Bs, 0, none⟩) hBs).trans hcs) ((hW.cell (p := ⟨Bn, 0, none⟩) hBn).trans hcn) h0
end Go.Proofs.YtanihjibjjpdbaaDoor
