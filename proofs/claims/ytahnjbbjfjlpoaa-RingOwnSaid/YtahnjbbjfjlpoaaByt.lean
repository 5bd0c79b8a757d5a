/- Bytes that are made, bytes that are copied. -/
import Derived.Test.YtahnjbbjfjlpoaaChecked
import Derived.Test.YtahnjbbjfjlpoaaOwn
import Derived.Laws.IdiomCopy
namespace Go.Proofs.Ytahnjbbjfjlpoaa
open Go Go.RowKit
set_option linter.unusedVariables false
set_option linter.unusedSimpArgs false

def zerosB (n : Nat) : List UInt8 := List.replicate n 0
theorem zerosB_length (n : Nat) : (zerosB n).length = n := by simp [zerosB]
theorem infoB8 : ∃ i, Try.prog.info? 5 = some i ∧ i.zero = some (.int .u8 0) ∧ i.size = 1 ∧ i.bytes = 1 := info_at (by kernel_rfl)
theorem mk_u8 (n : Nat) (h : n ≤ 1000000) : ∀ w : World, (Instr.makeSlice 25 (.int .i64 (n : Int)) (.int .i64 (n : Int))).run Try.prog w = .ok (.slice (some ⟨w.heap.size, 0, none⟩) n n) (w.alloc (.cells (bytesC (zerosB n)).toArray 5 (0, 0))) := by
  intro w
  obtain ⟨i, hi, hz, hs, hb⟩ := infoB8
  have hr := run_make (P := Try.prog) w 25 5 i _ Try.underlying25 hi hz .i64 .i64 n n (by omega) (Int.le_refl _) (by rw [hb]; omega) (by omega)
  simp only [Int.toNat_natCast] at hr
  rw [hr]
  have e : madeCells (Value.int .u8 0).cells (n * i.size) = (bytesC (zerosB n)).toArray := by
    rw [hs, Nat.mul_one]
    unfold madeCells bytesC zerosB Value.cells
    apply Array.ext'
    apply List.ext_getElem?
    intro j
    by_cases hj : j < n <;> simp [hj, Nat.mod_one]
  rw [e]
section
variable {w0 w : World} {L : List Assn}
theorem OwnB.mk {g n : Nat} (hn : n ≤ 1000000) (h : Sat w0 w (Blk g (.cells (bytesC (zerosB n)).toArray 5 (0, 0)) :: L)) : Sat w0 w (OwnB 5 (.slice (some ⟨g, 0, none⟩) n n) (zerosB n) :: L) := by
  unfold OwnB
  rw [zerosB_length]
  exact OwnS.ofBlk h (Nat.le_refl _) (by unfold maxLen; omega) (by simp [zerosB_length]) (by simp [zerosB_length, List.take_of_length_le])

/-- copy of bytes over one's own. -/
theorem run_copy_bytes {ty : TypeId} {g off c : Nat} {p q : List UInt8} {v : Value} (h : Sat w0 w (OwnB 5 (.slice (some ⟨g, off, none⟩) p.length c) p :: L)) (hr : RdB w v q) :
    ∃ w', (Builtin.copy_ #[25, 25] ty #[.slice (some ⟨g, off, none⟩) p.length c, v]).run Try.prog w = .ok (goInt (min q.length p.length : Nat)) w' ∧ Sat w0 w' (OwnB 5 (.slice (some ⟨g, off, none⟩) p.length c) (q.take p.length ++ p.drop q.length) :: L) := by
  obtain ⟨i, hi, hz, hs, hb⟩ := infoB8
  have hsz : (Try.prog.info? 5).map (·.size) = some 1 := by rw [hi]; simp [hs]
  have bl : ∀ l : List UInt8, (bytesC l).length = l.length := fun l => by simp [bytesC]
  by_cases h0 : min q.length p.length = 0
  · obtain ⟨a, cap, rfl, _, _, _⟩ := hr.form
    refine ⟨w, ?_, ?_⟩
    · rw [h0]
      exact run_copy_none w 25 25 ty 5 _ _ _ _ _ _ Try.underlying25 hsz h0
    · have e : q.take p.length ++ p.drop q.length = p := by
        rcases Nat.eq_zero_or_pos q.length with hq | hq
        · rw [List.eq_nil_of_length_eq_zero hq]; simp
        · have : p = [] := List.eq_nil_of_length_eq_zero (by omega)
          subst this; simp
      rw [e]
      exact h
  · obtain ⟨b, o, cap, rfl, hlt, hc1, hc2, hcell⟩ := hr.at (i := 0) (by omega)
    obtain ⟨b', o', c', he, _, _, hcc, hf⟩ := OwnS.cells h (by omega)
    injection he with e1 _ _
    injection e1 with e1
    injection e1 with e1 e2 _
    subst e1 e2
    have hlen : (bytesC (q.take p.length)).length = Nat.min q.length p.length := by rw [bl, List.length_take]; exact Nat.min_comm _ _
    have hrun := run_copy_cells (P := Try.prog) w 25 25 ty 5 g off p.length c ⟨b, o, none⟩ q.length cap (bytesC (q.take p.length)) Try.underlying25 hsz hlen
      (fun j u hj => by
        have hj2 : j < (q.take p.length).length := by rw [← bl]; exact (List.getElem?_eq_some_iff.1 hj).1
        rw [bytesC_get hj2] at hj
        rw [List.length_take] at hj2
        rw [addr_add, hcell j (by omega), ← hj]
        have : (q.take p.length).getD j 0 = q.getD j 0 := by
          simp only [List.getD, List.getElem?_take, if_pos (show j < p.length by omega)]
        rw [this])
      (fun j hj => by
        rw [hlen] at hj
        have hj2 : j < p.length := Nat.lt_of_lt_of_le hj (Nat.min_le_right _ _)
        rw [hcc j _ (bytesC_get hj2)]
        rfl) (fun j _ => hf _) bytesC_one
    rw [hlen] at hrun
    refine ⟨_, hrun, ?_⟩
    · have hput := OwnS.put (o := 0) h (vs := bytesC (q.take p.length)) (by rw [hlen, Nat.zero_add, Nat.mul_one]; exact Nat.min_le_right _ _)
      have hfin : (bytesC p).take 0 ++ bytesC (q.take p.length) ++ (bytesC p).drop (0 + (bytesC (q.take p.length)).length) = bytesC (q.take p.length ++ p.drop q.length) := by
        rw [List.take_zero, List.nil_append, Nat.zero_add, hlen, bytesC_drop, ← bytesC_append]
        congr 2
        show List.drop (min q.length p.length) p = _
        by_cases hqp : q.length ≤ p.length
        · rw [Nat.min_eq_left hqp]
        · rw [Nat.min_eq_right (by omega), List.drop_of_length_le (Nat.le_refl _), List.drop_of_length_le (by omega)]
      rw [hfin] at hput
      have hll : (q.take p.length ++ p.drop q.length).length = p.length := by rw [List.length_append, List.length_take, List.length_drop]; omega
      unfold OwnB
      rw [hll]
      exact hput
theorem wpList_copy_bytes {ops : Array Oper} {rest : List Oper} {o : Oper} {a : Act} {Q : Exit → Act → World → Prop} (hgd : o.guard = none) (d s : Operand)
    (ho : o.op = .call { callee := .builtin .copy, args := #[d, s], argTypes := #[25, 25] })
    {g off c n : Nat} {p q : List UInt8} {v : Value} (hn : p.length = n) (hd : a.eval d = .slice (some ⟨g, off, none⟩) n c) (hs : a.eval s = v) (h : Sat w0 w (OwnB 5 (.slice (some ⟨g, off, none⟩) n c) p :: L)) (hr : RdB w v q)
    (hk : ∀ w', Sat w0 w' (OwnB 5 (.slice (some ⟨g, off, none⟩) n c) (q.take n ++ p.drop q.length) :: L) → wpList Try.prog ops Q rest (a.put o.dst (goInt (min q.length n : Nat))) w') : wpList Try.prog ops Q (o :: rest) a w := by
  subst hn
  refine wpList_plain hgd fun K hK => ?_
  obtain ⟨w', hrun, h2⟩ := run_copy_bytes (ty := o.type) h hr
  unfold Oper.wp execOp
  simp only [ho, resolve, invoke, builtin, Sem.run_bind, Sem.run_pure, Result.andThen_ok, List.map_toArray, List.map_cons, List.map_nil, hd, hs, hrun]
  exact hK _ _ (hk w' h2)
end
end Go.Proofs.Ytahnjbbjfjlpoaa
