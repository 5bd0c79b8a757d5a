/- slices.DeleteFunc over messages, walked. -/
import Derived.Test.YtipkcbphjgmgiaaRepD
namespace Go.Proofs.Ytipkcbphjgmgiaa
open Go Go.RowKit
set_option linter.unusedVariables false
set_option linter.unusedSimpArgs false
attribute [local simp high] sz68 sz66

section
variable {w0 w : World} {L : List Assn}
theorem blk33 {gv : Nat} {m : MsgM} (hm : m.ok) (h : Sat w0 w (Blk gv (.cells (msgC m).toArray 68 (0, 0)) :: L)) :
    Sem.run Try.prog (loadCellsFrom ⟨gv, 0, none⟩ 0 K33 #[]) w = .ok (msgC m).toArray w :=
  Go.Proofs.run_loadCellsFrom_list Try.prog w ⟨gv, 0, none⟩ (msgC m) 33 (msgC_len hm) (fun j v hj => by
    rw [addr_add]
    refine h.cell (0 + j) ?_
    rw [Nat.zero_add, List.getElem?_toArray]
    exact hj)
theorem own33 {g off cap n : Nat} {xs : List Value} (h : Sat w0 w (OwnS 68 33 (.slice (some ⟨g, off, none⟩) n cap) n xs :: L)) {i : Nat} (hi : i < n) {m : MsgM} (hm : m.ok) :
    Sem.run Try.prog (storeCells ⟨g, off + i * K33, none⟩ (msgC m) 0) w = .ok () (w.setCells g (off + i * 33) (msgC m)) := by
  have hl := OwnS.len h
  have hml := msgC_len hm
  obtain ⟨b, o, c', he, _, _, hc, hf⟩ := OwnS.cells h (by omega)
  injection he with e1 _ _
  injection e1 with e1
  injection e1 with e1 e2 _
  subst e1 e2
  have hst := run_storeCells_cells (P := Try.prog) g (off + i * 33) (msgC m) 0 w (fun j hj => by
    rw [Nat.add_zero, Nat.add_assoc]
    obtain ⟨u, hu⟩ : ∃ u, xs[i * 33 + j]? = some u := ⟨_, List.getElem?_eq_getElem (by omega)⟩
    rw [hc _ u hu]
    rfl) (fun j hj => hf _) msgC_one
  simp only [Nat.add_zero] at hst
  exact hst

set_option maxHeartbeats 2000000 in
theorem rep_delete {g : Nat} {lb : Array Value} {p : MsgM → Bool} (eg : ∀ args w, (callFunc g args).run Try.prog w = .ok (.enter g args) w) (hp : Says w0 L g lb p) {v : Value} {l : List MsgM} (hs : Sat w0 w (Msgs v l :: L)) :
    Calls Try.prog 30 #[v, .func (.func g) #[] lb] w fun e w' => ∃ v', e = .returned v' ∧ Sat w0 w' (Msgs v' (l.filter fun m => !p m) :: L) := by
  have hidx := rep_index eg hp hs
  have hok := hid_ (Msgs.opn hs).1
  obtain ⟨a, cap, rfl, hc1, hc2⟩ := Msgs.form hs
  have hn63 : l.length ≤ 9223372036854775807 := by unfold maxLen at hc2; omega
  go_enter Try.func30, Try.ntmps30
  go_wp2_with fail
  refine hidx.mono ?_
  rintro _ w1 ⟨⟨i0, m0, rfl, hi0, hp0, hno⟩ | ⟨rfl, hall⟩, h1⟩
  · obtain ⟨_, b, o, rfl, _⟩ := Msgs.at h1 hi0
    have hi0l : i0 < l.length := (List.getElem?_eq_some_iff.1 hi0).1
    have hne : ((i0 : Int) == -1) = false := beq_eq_false_iff_ne.2 (by omega)
    have hst0 := hid_ (DelI.start hok.out hi0 hp0 hno)
    obtain ⟨_, h2⟩ := Msgs.opn h1
    obtain ⟨n, hn⟩ : ∃ n, l.length = n := ⟨_, rfl⟩
    have HN := hid_ hn
    rw [hn] at h2 hi0l hc1 hn63 ⊢
    clear hidx hs h1 hi0 hno hn hp0
    go_wp2_with fail
    go_loopg [5, 6] n (fun gg v5 v6 wr => ∃ (i j : Nat) (xs : List Value), v5 = .int .i64 i ∧ v6 = .int .i64 j ∧ i < j ∧ j ≤ n ∧ n - j ≤ gg ∧ Hid (DelI l p i j xs) ∧ Sat w0 wr (OwnS 68 33 (.slice (some ⟨b, o, none⟩) n cap) n xs :: L))
    case atStart => exact ⟨i0, i0 + 1, flat l, rfl, by go_num, by omega, by omega, by omega, hst0, h2⟩
    case round =>
      obtain ⟨i, j, xs, rfl, rfl, hij, hjn, hgg, hI, h3⟩ := hrel
      clear h2 hst0
      by_cases hlt : j < n
      · obtain ⟨m, hm⟩ : ∃ m, l[j]? = some m := ⟨_, List.getElem?_eq_getElem (by rw [HN.out]; exact hlt)⟩
        have hmo := hok.out m (List.mem_of_getElem? hm)
        have hld := OwnS.load33 h3 hlt hmo (hI.out.get hok.out hm)
        have HM := hid_ hm
        clear hm
        have hz : (msgC m).toArray.size = 33 := by rw [List.size_toArray]; exact msgC_len hmo
        have hst : Sem.run Try.prog (storeCells ⟨wr.heap.size, 0, none⟩ (msgC m) 0) (wr.alloc (.cells #[.int .u8 0, .int .u8 0, .int .u8 0, .int .u8 0, .int .u8 0, .int .u8 0, .int .u8 0, .int .u8 0, .int .u8 0, .int .u8 0, .int .u8 0, .int .u8 0, .int .u8 0, .int .u8 0, .int .u8 0, .int .u8 0, .int .u8 0, .int .u8 0, .int .u8 0, .int .u8 0, .int .u8 0, .int .u8 0, .int .u8 0, .int .u8 0, .int .u8 0, .int .u8 0, .int .u8 0, .int .u8 0, .int .u8 0, .int .u8 0, .int .u8 0, .int .u8 0, .int .i64 0] 68 (0, 0))) = .ok () (wr.alloc (.cells (msgC m).toArray 68 (0, 0))) := by
          have h := run_storeCells_new (P := Try.prog) wr 68 #[.int .u8 0, .int .u8 0, .int .u8 0, .int .u8 0, .int .u8 0, .int .u8 0, .int .u8 0, .int .u8 0, .int .u8 0, .int .u8 0, .int .u8 0, .int .u8 0, .int .u8 0, .int .u8 0, .int .u8 0, .int .u8 0, .int .u8 0, .int .u8 0, .int .u8 0, .int .u8 0, .int .u8 0, .int .u8 0, .int .u8 0, .int .u8 0, .int .u8 0, .int .u8 0, .int .u8 0, .int .u8 0, .int .u8 0, .int .u8 0, .int .u8 0, .int .u8 0, .int .i64 0] (msgC m).toArray (by rw [hz]; kernel_rfl) (by rw [hz]; rfl) (by
            rw [List.all_toArray, List.all_eq_true]
            exact msgC_one)
          simpa using h
        have h4 := h3.alloc (.cells (msgC m).toArray 68 (0, 0))
        have hld2 := blk33 hmo h4
        have hcall := hp _ _ h4.drop m hmo
        have hK : (msgC m).length = K33 := msgC_len hmo
        clear hz
        cases hq : p m
        · rw [hq] at hcall
          go_wp2_with (go_at_fn g; refine hcall.mono ?_; rintro _ w2 ⟨rfl, hb2⟩; have h5 := h4.under hb2; have hld3 := blk33 hmo h5; have hst3 := own33 h5.drop (show i < n by omega) hmo)
          go_roundg (n - (j + 1))
          case measure => omega
          case rel =>
            have hml := msgC_len hmo
            exact ⟨i + 1, j + 1, _, by go_num, by go_num, by omega, by omega, by omega, hid_ (hI.out.keep hij hok.out HM.out hq), OwnS.put (o := i * 33) h5.drop (by omega)⟩
        · rw [hq] at hcall
          go_wp2_with (go_at_fn g; refine hcall.mono ?_; rintro _ w2 ⟨rfl, hb2⟩; have h5 := h4.under hb2)
          go_roundg (n - (j + 1))
          case measure => omega
          case rel => exact ⟨i, j + 1, xs, rfl, by go_num, by omega, by omega, by omega, hid_ (hI.out.skip hok.out HM.out hq), h5.drop⟩
      · obtain rfl : j = n := by omega
        obtain ⟨vs, hvs, hcl⟩ := run_clear_own h3 (c := cap - i) hij
        go_wp2_with fail
        go_ret
        obtain ⟨q1, q2, q3, q4⟩ := hI.out
        have hj : j = l.length := HN.out.symm
        rw [hj, List.take_length] at q2 q3
        have hput := OwnS.put (o := i * 33) h3 (vs := vs) (by rw [hvs]; have : (j - i) * 33 = j * 33 - i * 33 := Nat.sub_mul ..; have : i * 33 ≤ j * 33 := Nat.mul_le_mul_right _ (by omega); omega)
        have hhead := OwnS.head hput (k := i) (by omega)
        have ht : (xs.take (i * 33) ++ vs ++ xs.drop (i * 33 + vs.length)).take (i * 33) = flat (l.filter fun m => !p m) := by
          rw [List.append_assoc, List.take_left' (by rw [List.length_take, q1]; have : i * 33 ≤ j * 33 := Nat.mul_le_mul_right _ (by omega); omega), q2]
        rw [ht] at hhead
        refine ⟨_, rfl, Msgs.shut (fun m hm => hok.out m (List.mem_filter.1 hm).1) ?_⟩
        rw [q3]
        exact hhead
  · have e : (l.filter fun m => !p m) = l := List.filter_eq_self.2 (fun x hx => by rw [hall x hx]; rfl)
    go_wp2_with fail
    go_ret
    exact ⟨_, rfl, by rw [e]; exact h1⟩
end
end Go.Proofs.Ytipkcbphjgmgiaa
