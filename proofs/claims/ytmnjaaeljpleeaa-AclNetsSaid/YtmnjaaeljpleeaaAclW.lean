/- The law AclWider: net, walked. -/
import Derived.Deep.DeepCutAuto
import Derived.Test.YtmnjaaeljpleeaaAclN
import Derived.Test.YtmnjaaeljpleeaaAclK
import Derived.Test.YtmnjaaeljpleeaaByt
namespace Go.Proofs.Ytmnjaaeljpleeaa
open Go Go.RowKit
set_option linter.unusedVariables false
set_option linter.unusedSimpArgs false

def netR (l : List UInt8) (bits : Nat) : RuleM := ⟨1, false, netL l bits (32 - bits), bits, ByteArray.empty, 0, 65535⟩
set_option maxRecDepth 100000 in
theorem andNot_bits : ∀ n : Fin 256, ∀ s : Fin 8, Go.bits .andNot .u8 ((n.val : Nat) : Int) (128 / 2 ^ s.val) = ((clrU (UInt8.ofNat n) s).toNat : Int) := by decide +kernel
theorem andNot_clr {x : UInt8} {y s : Nat} (hy : x.toNat = y) (hs : s ≤ 7) : Go.bits .andNot .u8 (y : Int) (128 / 2 ^ s) = ((clrU x s).toNat : Int) := by
  have h := andNot_bits ⟨y, by rw [← hy]; exact x.toNat_lt⟩ ⟨s, by omega⟩
  have e : UInt8.ofNat y = x := by rw [← hy]; simp
  simpa [e] using h
theorem bytesC_set (l : List UInt8) (k : Nat) (b : UInt8) (hk : k < l.length) : (bytesC l).take k ++ [Value.int .u8 b.toNat] ++ (bytesC l).drop (k + 1) = bytesC (l.set k b) := by
  rw [List.set_eq_take_append_cons_drop, if_pos hk]
  simp [bytesC, List.map_take, List.map_drop]
theorem post_cellA {P : Program} {fn : Func} {R : Ending → World → Prop} {a : Act} {w : World} {p : Tmp} {ty g : Nat} {t : TypeId} {cs : Array Value} {d : TypeDesc} (h : fn.results = #[.cell p ty]) (hp : a.tmps.getD p undef = .pointer (some ⟨g, 0, none⟩))
    (hg : w.heap[g]? = some (.cells cs t (0, 0))) (hu : P.underlying ty = some d) (hd : (match d with | .struct _ | .array _ _ => true | _ => false) = true) (hi : (P.info? ty).map (·.size) = some cs.size) (hdf : a.defers = []) (hR : R (.returned (.agg cs)) w) : bodyPost P fn R .ret a w :=
  bodyPost_ret (results_cell_row h a.tmps w g t cs (0, 0) d hp hg hu hd hi) hdf hR
section
variable {w0 w : World} {L : List Assn}
set_option maxRecDepth 100000 in
set_option maxHeartbeats 1000000 in
theorem acl_net {v : Value} {l : List UInt8} {bits : Nat} (hl : l.length = 4) (hb : bits ≤ 32) (hrd : ∀ (W : World) (A : Assn), Sat w0 W (A :: L) → RdB W v l) (hs : Sat w0 w L) :
    Calls Try.prog 15 #[v, .int .i64 bits] w fun e w' => ∃ a c, e = .returned (ruV (netR l bits) (.slice a 4 c)) ∧ Sat w0 w' (OwnB 5 (.slice a 4 c) (netR l bits).net :: L) := by
  obtain ⟨i0, hi0, hz0, hz1, hz2⟩ := infoB8
  have hlen := hid_ hl
  go_enter Try.func15, Try.ntmps15
  obtain ⟨av, cv, rfl, _, _, _⟩ := (hrd w Emp hs.empI).form
  rw [hl] at hrd ⊢
  have h1 := hs.alloc2 (.cells #[.int .i64 0, .bool false, .slice none 0 0, .int .i64 0, .string ByteArray.empty, .int .i64 0, .int .i64 0] 30 (0, 0)) (.cells #[] 5 (0, 0))
  have h2 : Sat w0 _ (OwnS 5 1 (.slice (some ⟨w.heap.size + 1, 0, none⟩) 0 0) 0 [] :: _) := OwnS.ofBlk h1 (Nat.le_refl _) (Nat.zero_le _) (by simp) (by simp)
  have hr1 := hrd _ _ h1.drop
  go_wp2_with (at_builtin; refine wpList_append_sat (w0 := w0) (e := 5) (sz := 1) rfl _ _ 23 23 rfl Try.underlying23 hi0 hz0 hz1 hz2 rfl rfl h2 rfl (RdB.src (l := l) Try.underlying23 hr1) ?c3 ?c4 ?c5)
  case c3 => simp only [maxLen]; omega
  case c4 => omega
  intro a' c' w3 h3 _
  obtain ⟨rb, hrb⟩ : ∃ rb, w.heap.size = rb := ⟨_, rfl⟩
  rw [hrb] at h3 ⊢
  replace h3 : Sat w0 w3 (OwnB 5 (.slice a' 4 c') l :: Blk rb (.cells #[.int .i64 0, .bool false, .slice none 0 0, .int .i64 0, .string ByteArray.empty, .int .i64 0, .int .i64 0] 30 (0, 0)) :: L) := by
    unfold OwnB
    rw [hlen.out]
    exact h3
  clear h1 h2 hr1 hrb
  have h4 := h3.alloc (.cells #[.int .i64 1, .bool false, .slice a' 4 c', .int .i64 bits, .string ByteArray.empty, .int .i64 0, .int .i64 65535] 30 (0, 0))
  go_wp2_with fail
  obtain ⟨qb, hqb⟩ : ∃ qb, w3.heap.size = qb := ⟨_, rfl⟩
  rw [hqb] at h4
  go_loopg [6] 33 (fun gg v6 wr => ∃ i : Nat, bits ≤ i ∧ i ≤ 32 ∧ 32 - i ≤ gg ∧ v6 = .int .i64 i ∧
    Sat w0 wr (OwnB 5 (.slice a' 4 c') (netL l bits (i - bits)) :: Blk qb (.cells #[.int .i64 1, .bool false, .slice a' 4 c', .int .i64 bits, .string ByteArray.empty, .int .i64 0, .int .i64 65535] 30 (0, 0)) :: Blk rb (.cells #[.int .i64 0, .bool false, .slice none 0 0, .int .i64 0, .string ByteArray.empty, .int .i64 0, .int .i64 0] 30 (0, 0)) :: L))
  case atStart => exact ⟨bits, by omega, hb, by omega, rfl, by rw [Nat.sub_self]; exact h4.swap⟩
  case round =>
    obtain ⟨i, hi1, hi2, hgg, rfl, h5⟩ := hrel
    clear h4 h3
    have g2 : wr.cell? ⟨qb, 2, none⟩ = some (.slice a' 4 c') := (Sat.front [_] h5).cell 2 rfl
    by_cases hlt : i < 32
    · obtain ⟨N, hN⟩ : ∃ N, netL l bits (i - bits) = N := ⟨_, rfl⟩
      have HN := hid_ hN
      have hNl : N.length = 4 := by rw [← hN, netL_len]; exact hlen.out
      rw [hN] at h5
      clear hN
      obtain ⟨k, hk⟩ : ∃ k, i / 8 = k := ⟨_, rfl⟩
      obtain ⟨s, hs8⟩ : ∃ s, i % 8 = s := ⟨_, rfl⟩
      obtain ⟨b, o, cc, he, hge, hlt2, hcc, hff⟩ := OwnS.cells h5 (by omega)
      injection he with e1 e2 e3
      subst e1
      clear e2 e3
      have cx : wr.cell? ⟨b, o + k, none⟩ = some (.int .u8 (N.getD k 0).toNat) := hcc k _ (bytesC_get (by omega))
      have fx := hff (o + k)
      obtain ⟨x, hx⟩ : ∃ x, (N.getD k 0) = x := ⟨_, rfl⟩
      rw [hx] at cx
      obtain ⟨y, hy⟩ : ∃ y : Nat, x.toNat = y := ⟨_, rfl⟩
      rw [hy] at cx
      have d1 : Int.tdiv (i : Int) 8 = (k : Int) := by rw [Int.tdiv_eq_ediv_of_nonneg (by omega)]; omega
      have d2 : Int.tmod (i : Int) 8 = (s : Int) := by rw [Int.tmod_eq_emod_of_nonneg (by omega)]; omega
      have hk4 : (0 : Int) ≤ (k : Int) ∧ (k : Int) < 4 := by omega
      have hs7 : s ≤ 7 := by omega
      have hlti : (i : Int) < 32 := by omega
      have hz := andNot_clr hy hs7
      have h5' := h5
      unfold OwnB at h5'
      rw [hNl] at h5'
      have hput := OwnS.put (o := k) h5' (vs := [.int .u8 ((clrU x s).toNat : Int)]) (by show k + 1 ≤ 4 * 1; omega)
      have hset := bytesC_set N k (clrU x s) (by omega)
      rw [show k + [(Value.int .u8 ((clrU x s).toNat : Int))].length = k + 1 from rfl, hset] at hput
      have hnext : netL l bits (i + 1 - bits) = N.set k (clrU x s) := by
        rw [show i + 1 - bits = (i - bits) + 1 by omega, netL_succ, show bits + (i - bits) = i by omega, HN.out]
        unfold clrL
        rw [hk, hs8, hx]
      have HX := hid_ hnext
      obtain ⟨z, hzz⟩ : ∃ z : Nat, (clrU x s).toNat = z := ⟨_, rfl⟩
      rw [hzz] at hz hput
      clear hcc hff hk hs8 hx hy hset hnext hzz HN h5'
      go_wp2_with fail
      go_roundg (32 - (i + 1))
      case measure => omega
      case rel =>
        refine ⟨i + 1, by omega, by omega, by omega, by go_num, ?_⟩
        rw [HX.out]
        unfold OwnB
        rw [List.length_set, hNl]
        exact hput
    · obtain rfl : i = 32 := by omega
      have r0 : wr.cell? ⟨qb, 0, none⟩ = some (.int .i64 1) := (Sat.front [_] h5).cell 0 rfl
      have r1 : wr.cell? ⟨qb, 1, none⟩ = some (.bool false) := (Sat.front [_] h5).cell 1 rfl
      have r3 : wr.cell? ⟨qb, 3, none⟩ = some (.int .i64 bits) := (Sat.front [_] h5).cell 3 rfl
      have r4 : wr.cell? ⟨qb, 4, none⟩ = some (.string ByteArray.empty) := (Sat.front [_] h5).cell 4 rfl
      have r5 : wr.cell? ⟨qb, 5, none⟩ = some (.int .i64 0) := (Sat.front [_] h5).cell 5 rfl
      have r6 : wr.cell? ⟨qb, 6, none⟩ = some (.int .i64 65535) := (Sat.front [_] h5).cell 6 rfl
      have hB := Sat.front [_, _] h5
      have s0 := hB.cell 0 rfl
      have s1 := hB.cell 1 rfl
      have s2 := hB.cell 2 rfl
      have s3 := hB.cell 3 rfl
      have s4 := hB.cell 4 rfl
      have s5 := hB.cell 5 rfl
      have s6 := hB.cell 6 rfl
      have t0 := hB.frozen 0
      have t1 := hB.frozen 1
      have t2 := hB.frozen 2
      have t3 := hB.frozen 3
      have t4 := hB.frozen 4
      have t5 := hB.frozen 5
      have t6 := hB.frozen 6
      have h6 := ((((((hB.set 0 (.int .i64 1)).set 1 (.bool false)).set 2 (.slice a' 4 c')).set 3 (.int .i64 bits)).set 4 (.string ByteArray.empty)).set 5 (.int .i64 0)).set 6 (.int .i64 65535)
      simp only [List.setIfInBounds_toArray, List.set_cons_succ, List.set_cons_zero] at h6
      go_wp2_with fail
      refine post_cellA (p := 4) (ty := 30) rfl rfl h6.blk.1 Try.underlying30 rfl (by kernel_rfl) rfl ⟨a', c', rfl, ?_⟩
      have h7 := (Sat.re [0, 2, 1] [_, _, _] h6).drop.drop
      exact h7
end
end Go.Proofs.Ytmnjaaeljpleeaa
