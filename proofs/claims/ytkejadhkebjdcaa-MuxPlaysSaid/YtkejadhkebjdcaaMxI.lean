/- The mux's ids, rising: Ids and what it hands back (a range over a function). -/
import Derived.RangeFuncNested
import Derived.RangeFuncBound
import Derived.RangeFuncCalls
import Derived.RangeFuncLeaves
import Derived.RangeFuncBox
import Derived.Shelf.Abstract
import Derived.Shelf.AbstractIn
import Derived.WalkKit
import Derived.OwnWalkIn
import Derived.TacticsInMore
import Derived.LoopNIn
import Derived.LoopIn
import Derived.Test.YtkejadhkebjdcaaShi
import Derived.Test.YtkejadhkebjdcaaMxW
namespace Go.Proofs.Ytkejadhkebjdcaa
open Go Go.RowKit Go.Maps Go.Sort Go.Shelf
set_option linter.unusedVariables false
set_option linter.unusedSimpArgs false
attribute [local go_sem] Oper.semAt_some

theorem sortsA (m : Nat) : AnyZI.SortsIn Try.prog Try.sortedA_ren Fence.wide m :=
  ⟨fun blk off cap ss W hH hblk hsz => callsIn_wide.2 (AnyM.slices_Sort_int Try.sortA blk off cap ss W hH hblk hsz),
   fun p cap W => callsIn_wide.2 (AnyM.slices_Sort_int_none Try.sortA p cap W)⟩
def idsOf (l : List (Nat × StM)) : List Int := l.map (·.2.id)
theorem ids_keys (l : List (Nat × StM)) : intKeys (mapD (ent l)) = idsOf l := by
  rw [mapD_keys]
  unfold ent idsOf
  rw [List.map_map]
  rfl
theorem ids_sorted {l : List (Nat × StM)} (h : (l.map (·.2.id)).Pairwise (· < ·)) {ss : List Int} (hp : ss.Perm (intKeys (mapD (ent l)))) : ss.mergeSort (fun x y => decide (x ≤ y)) = idsOf l := by
  rw [ids_keys] at hp
  have h1 : ss.mergeSort leI = (idsOf l).mergeSort leI := mergeSort_of_perm_i hp
  refine h1.trans (List.mergeSort_of_pairwise ?_)
  refine List.Pairwise.imp (fun {a b} hab => ?_) h
  simp only [leI, decide_eq_true_eq]
  omega

set_option maxRecDepth 100000 in
set_option maxHeartbeats 1000000 in
theorem mux_Ids_in (n : Nat) (p : Option Addr) (w : World) :
    CallsIn Fence.wide n Try.prog 42 #[.pointer p] w fun e w' => e = .returned (.func (.func 68) #[] #[.pointer (some ⟨w.heap.size, 0, none⟩)]) ∧ w' = w.alloc (.cells #[.pointer p] 24) := by
  refine callsIn_of_wp Try.func42 rfl trivial ?_ rfl
  simp only [Try.ntmps42, List.size_toArray, List.length_cons, List.length_nil, Nat.reduceAdd, Nat.reduceSub, Array.replicate_succ, Array.replicate_zero, List.push_toArray, List.append_toArray, List.nil_append, List.cons_append]
  gi_wp2
  go_ret
  exact ⟨rfl, rfl⟩
set_option maxRecDepth 100000 in
set_option maxHeartbeats 1000000 in
theorem ids1_nil_in (n : Nat) (l Bm : Nat) (W : World) (hm : W.cell? ⟨Bm, 0, none⟩ = some (.pointer none)) :
    CallsIn Fence.wide n Try.prog 68 #[.func (.yield l) #[] #[], .pointer (some ⟨Bm, 0, none⟩)] W fun e W' => (∃ v, e = .returned v) ∧ W' = W := by
  refine callsIn_of_wp Try.func68 rfl trivial ?_ rfl
  simp only [Try.ntmps68, List.size_toArray, List.length_cons, List.length_nil, Nat.reduceAdd, Nat.reduceSub, Array.replicate_succ, Array.replicate_zero, List.push_toArray, List.append_toArray, List.nil_append, List.cons_append]
  gi_wp2
  refine bodyPost_ret (results_none rfl _ _ _) rfl ?_
  exact ⟨⟨_, rfl⟩, rfl⟩
theorem ids_stops_nil (n : Nat) (Bm : Nat) (Kp : World → World → Prop) (w : World) (hBm : Bm < w.heap.size) (hm : w.cell? ⟨Bm, 0, none⟩ = some (.pointer none)) :
    SeqStopsK Fence.wide n Try.prog 68 #[.pointer (some ⟨Bm, 0, none⟩)] (fun x : Int => #[Value.int .i64 x]) Kp (fun ys => ys = []) (fun _ => False) 0 w := fun l J Jx W hW _ _ _ h0 =>
  (ids1_nil_in n l Bm W ((hW.cell (p := ⟨Bm, 0, none⟩) hBm).trans hm)).mono (fun e W' ⟨he, hw⟩ => ⟨he, .inl ⟨[], rfl, by rw [hw]; exact h0⟩⟩)

set_option maxRecDepth 100000 in
set_option maxHeartbeats 4000000 in
theorem ids1_in (n : Nat) (hn : 8 ≤ n) (l Bm m b nn : Nat) (q : List (Nat × StM)) (hq : (q.map (·.2.id)).Pairwise (· < ·)) (hq64 : q.length ≤ 64) (J Jx : List Int → World → Prop) (Kp : World → World → Prop) (Safe : World → Nat → Prop)
    (hKS : ∀ W W' k, Kp W W' → Safe W k → W'.heap[k]? = W.heap[k]? ∧ Safe W' k)
    (hY : ∀ (pre : List Int) (x : Int) (W : World), J pre W → pre.length < q.length → (idsOf q)[pre.length]? = some x → YieldAt Fence.wide (n - 1) Try.prog l #[.int .i64 x] W fun e W' =>
      (e = .returned (.bool true) ∧ J (pre ++ [x]) W' ∧ Kp W W') ∨ (e = .returned (.bool false) ∧ Jx (pre ++ [x]) W'))
    (hJb : ∀ pre W W', J pre W → Below W.heap.size W W' → J pre W')
    (W : World) (hSafe : ∀ (W1 : World) (k : Nat) (cs : Array Value), Below W.heap.size W W1 → W.heap.size ≤ k → W1.heap[k]? = some (.cells cs 3 (0, 0)) → Safe W1 k)
    (hm : W.cell? ⟨Bm, 0, none⟩ = some (.pointer (some ⟨m, 0, none⟩))) (hmb : W.cell? ⟨m, 2, none⟩ = some (.map (some b))) (hown : W.ownsMap Try.prog 3 ptrR b nn (mapD (ent q))) (h0 : J [] W) :
    CallsIn Fence.wide n Try.prog 68 #[.func (.yield l) #[] #[], .pointer (some ⟨Bm, 0, none⟩)] W fun e W' => (∃ v, e = .returned v) ∧
      ((∃ ys, ys = idsOf q ∧ J ys W') ∨ (∃ pre, (∃ k, k < q.length ∧ pre = (idsOf q).take (k + 1)) ∧ Jx pre W')) := by
  have hbl := hown.lt
  have hseq : SeqGives Fence.wide (n - 1 - 3) Try.prog 86 #[.pointer (some ⟨W.heap.size, 0, none⟩)] encZ (fun ss => ss.Perm (intKeys (mapD (ent q)))) (Maps.size (mapD (ent q))) (W.alloc (.cells #[.map (some b)] 69)) :=
    AnyZI.keys_gives (ρ := Try.keysA_ren) { Try.keysA with } Fence.wide _ trivial rfl (by omega) W.heap.size b nn (mapD (ent q)) _ (by simp) (by simp) (by
      obtain ⟨es, clock, hb, Ft, hs, hD⟩ := hown
      exact ⟨es, clock, (Below.heap_alloc _ _ b hbl).trans hb, Ft, hs, hD⟩)
  have cK : ∀ mb W, CallsIn Fence.wide (n - 1) Try.prog 70 #[.map mb] W fun e w' => e = .returned (.func (.func 86) #[] #[.pointer (some ⟨W.heap.size, 0, none⟩)]) ∧ w' = W.alloc (.cells #[.map mb] 69) := fun mb W => AnyZI.keys_in Try.keysA Fence.wide (n - 1) trivial rfl mb W
  have hz : Maps.size (mapD (ent q)) = q.length := by rw [mapD_size, ent_len]
  have cS := AnyZI.sorted_in Try.sortedA Fence.wide (n - 1) trivial trivial trivial trivial rfl (by omega) (sortsA _) (enters_of Try.func85 (by kernel_rfl) rfl) 86 #[.pointer (some ⟨W.heap.size, 0, none⟩)] trivial (enters_of Try.func86 (by kernel_rfl) rfl) _ _ (by rw [hz]; simp only [maxLen]; omega) (by rw [hz]; omega) _ hseq
  change CallsIn _ _ Try.prog 69 _ _ _ at cS
  have hfK : Fence.wide.fn 70 := trivial
  have hfS : Fence.wide.fn 69 := trivial
  have hmb2 : W.cell? ⟨m, 2, none⟩ = some (.map (some b)) := hmb
  refine callsIn_of_wp Try.func68 rfl trivial ?_ rfl
  simp only [Try.ntmps68, List.size_toArray, List.length_cons, List.length_nil, Nat.reduceAdd, Nat.reduceSub, Array.replicate_succ, Array.replicate_zero, List.push_toArray, List.append_toArray, List.nil_append, List.cons_append]
  gi_wp2
  refine ⟨fun _ => by omega, (cK _ _).mono ?_⟩
  rintro _ w' ⟨rfl, rfl⟩
  gi_wp2
  refine ⟨fun _ => by omega, cS.mono ?_⟩
  rintro _ W1 ⟨v, ss, rfl, hS, hrow, hnil, hb⟩
  have hbW : Below W.heap.size W W1 := ((Below.refl _ W).alloc (Nat.le_refl _) _).trans (hb.mono (by simp))
  have hss : ss.length = q.length := by have := hS.length_eq; rw [ids_keys] at this; rw [this]; simp [idsOf]
  rw [ids_sorted hq hS] at hrow
  rw [hss] at hrow
  have hJ1 := hJb _ _ _ h0 hbW
  have hil : (idsOf q).length = q.length := by simp [idsOf]
  obtain ⟨va, vc, rfl⟩ : ∃ a c, v = .slice a q.length c := by
    rcases hrow.2 with ⟨rfl, h⟩ | ⟨g, cap, cur, rfl, _⟩
    · exact ⟨none, 0, by rw [h]⟩
    · exact ⟨_, cap, rfl⟩
  have hsf : ∀ g, va = some ⟨g, 0, none⟩ → Safe W1 g ∧ ∀ k x, (idsOf q)[k]? = some x → W1.cell? ⟨g, k, none⟩ = some (.int .i64 x) := by
    rintro g rfl
    rcases hrow.2 with ⟨h, _⟩ | ⟨g', cap, cur, he, h1, hg, _⟩
    · cases h
    · injection he with he _ _
      injection he with he
      injection he with he
      subst he
      refine ⟨hSafe W1 g _ hbW (by simp at h1; omega) hg, fun k x hk => ?_⟩
      have h3 := hrow.cells (g := g) rfl k (.int .i64 x) (by rw [List.getElem?_map, hk]; rfl)
      rw [addr_add] at h3
      simpa using h3
  have hva : 0 < q.length → ∃ g, va = some ⟨g, 0, none⟩ := by
    intro h
    rcases hrow.2 with ⟨_, h0⟩ | ⟨g', cap, cur, he, _⟩
    · omega
    · injection he with he
      exact ⟨g', he⟩
  clear hrow hnil hS cS hseq cK
  obtain ⟨len, hlen⟩ : ∃ len, q.length = len := ⟨_, rfl⟩
  have HL := hid_ hlen
  have hl64 : len ≤ 64 := by rw [← hlen]; exact hq64
  rw [hlen] at hva hil hY ⊢
  clear hlen hss hz
  gi_wp2
  gi_loopw [14] (fun i wr => ∃ k : Nat, k ≤ len ∧ i = .int .i64 k ∧ J ((idsOf q).take k) wr ∧ ∀ g, va = some ⟨g, 0, none⟩ → Safe wr g ∧ wr.heap[g]? = W1.heap[g]?)
    (fun i _ => len - (intOf i).toNat)
  case atStart => exact ⟨0, Nat.zero_le _, rfl, hJ1, fun g hg => ⟨(hsf g hg).1, rfl⟩⟩
  case round =>
    obtain ⟨k, hk, rfl, hJs, hnx⟩ := hrel
    by_cases hlt : k < len
    · obtain ⟨g, rfl⟩ := hva (by omega)
      obtain ⟨x, hx⟩ : ∃ x, (idsOf q)[k]? = some x := ⟨_, List.getElem?_eq_getElem (by rw [hil]; exact hlt)⟩
      obtain ⟨hs1, hs2⟩ := hnx g rfl
      have hc : wr.cell? ⟨g, k, none⟩ = some (.int .i64 x) := (World.cell?_of_block (a := ⟨g, k, none⟩) hs2).trans ((hsf g rfl).2 k x hx)
      have htk : (idsOf q).take (k + 1) = (idsOf q).take k ++ [x] := by rw [List.take_add_one, hx]; rfl
      have z1 : (k : Int) < (len : Int) := by omega
      obtain ⟨fn, tmps, assign, body, hy, hR⟩ := hY _ x _ hJs (by rw [List.length_take, hil]; omega) (by rw [List.length_take, hil, Nat.min_eq_left (by omega)]; exact hx)
      gi_wp2
      refine ⟨fun _ => by omega, hR.mono ?_⟩
      rintro e W4 (⟨rfl, hJ4, hk4⟩ | ⟨rfl, hJx4⟩)
      · have h4 := hKS _ _ g hk4 hs1
        gi_wp2
        go_roundw
        case rel => exact ⟨k + 1, by omega, by go_num, by rw [htk]; exact hJ4, fun g' hg' => by cases hg'; exact ⟨h4.2, h4.1.trans hs2⟩⟩
        case measure => simp [intOf]; omega
      · gi_wp2
        refine bodyPost_ret (results_none rfl _ _ _) rfl ?_
        exact ⟨⟨_, rfl⟩, .inr ⟨_, ⟨k, by rw [HL.out]; exact hlt, htk.symm⟩, hJx4⟩⟩
    · obtain rfl : k = len := by omega
      rw [List.take_of_length_le (by omega)] at hJs
      gi_wp2
      go_end0
      exact ⟨⟨_, rfl⟩, .inl ⟨_, rfl, hJs⟩⟩
theorem ids_stops (n : Nat) (hn : 8 ≤ n) (Bm m b nn : Nat) (q : List (Nat × StM)) (hq : (q.map (·.2.id)).Pairwise (· < ·)) (hq64 : q.length ≤ 64) (Kp : World → World → Prop) (Safe : World → Nat → Prop)
    (hKS : ∀ W W' k, Kp W W' → Safe W k → W'.heap[k]? = W.heap[k]? ∧ Safe W' k) (w : World)
    (hSafe : ∀ W1 k cs t fr, Below w.heap.size w W1 → w.heap.size ≤ k → W1.heap[k]? = some (.cells cs t fr) → Safe W1 k)
    (hBm : Bm < w.heap.size) (hm : w.cell? ⟨Bm, 0, none⟩ = some (.pointer (some ⟨m, 0, none⟩))) (hmw : m < w.heap.size) (hmb : w.cell? ⟨m, 2, none⟩ = some (.map (some b))) (hown : w.ownsMap Try.prog 3 ptrR b nn (mapD (ent q))) :
    SeqStopsK Fence.wide n Try.prog 68 #[.pointer (some ⟨Bm, 0, none⟩)] (fun x : Int => #[Value.int .i64 x]) Kp (fun ys => ys = idsOf q) (fun pre => ∃ k, k < q.length ∧ pre = (idsOf q).take (k + 1)) q.length w := fun l J Jx W hW hJ _ hY h0 =>
  ids1_in n hn l Bm m b nn q hq hq64 J Jx Kp Safe hKS (fun pre x W1 hj hl _ => hY pre x W1 hj hl) (fun pre W1 W2 hj hb => hJ pre W1 W2 none hj ⟨hb.os, hb.tape, hb.output, hb.size, fun k hk _ => hb.block k hk⟩ (fun r e => by cases e))
    W (fun W1 k cs hB hk hc => hSafe W1 k cs _ _ (hW.trans (hB.mono hW.size)) (Nat.le_trans hW.size hk) hc)
    ((hW.cell (p := ⟨Bm, 0, none⟩) hBm).trans hm) ((hW.cell (p := ⟨m, 2, none⟩) hmw).trans hmb) (by
      have hbl := hown.lt
      obtain ⟨es, clock, hb, Ft, hs, hD⟩ := hown
      exact ⟨es, clock, (hW.block b hbl).trans hb, Ft, hs, hD⟩) h0
end Go.Proofs.Ytkejadhkebjdcaa
