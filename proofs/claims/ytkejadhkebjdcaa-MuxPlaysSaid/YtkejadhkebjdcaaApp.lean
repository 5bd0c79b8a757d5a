/- Bytes that are appended, whatever they come from; general but for the numbers of the bytes' types. -/
import Derived.Test.YtkejadhkebjdcaaClone
namespace Go.Proofs.Ytkejadhkebjdcaa
open Go Go.RowKit
set_option linter.unusedVariables false
set_option linter.unusedSimpArgs false

theorem bytesC_str (s : ByteArray) : byteCells s = bytesC s.data.toList := rfl
theorem str_len (s : ByteArray) : s.data.toList.length = s.size := by rw [Array.length_toList]; rfl
theorem u8_wrap_nat (n : Nat) : IntKind.u8.wrap (n : Int) = ((UInt8.ofNat n).toNat : Int) := by
  unfold IntKind.wrap
  simp only [IntKind.signed, IntKind.bits, Bool.false_and, Bool.false_eq_true, if_false, UInt8.toNat_ofNat']
  omega
theorem u8_wrap_mod (x : Int) : IntKind.u8.wrap x = x % 256 := by
  unfold IntKind.wrap
  simp only [IntKind.signed, IntKind.bits, Bool.false_and, Bool.false_eq_true, if_false]
  omega
theorem u8_nat (n : Nat) : ((UInt8.ofNat n).toNat : Int) = ((n % 256 : Nat) : Int) := by simp [UInt8.toNat_ofNat']

section
variable {w0 w : World} {L : List Assn}
/-- What a string's bytes yield to an append. -/
theorem strSrc (hk : Try.prog.underlying 9 = some .string) (s : ByteArray) : Src Try.prog 1 9 (.string s) s.data.toList.length (bytesC s.data.toList) w := by
  rw [str_len, ← bytesC_str]
  exact Src.ofString w hk s
theorem slSrc {v : Value} {q : List UInt8} (h : RdB w v q) : Src Try.prog 1 37 v q.length (bytesC q) w := RdB.src Try.underlying37 h

/-- A new block of bytes as a slice of one's own. -/
theorem OwnB.ofNew {g n : Nat} {cs : Array Value} {l : List UInt8} (h : Sat w0 w (Blk g (.cells cs 5 (0, 0)) :: L)) (he : cs = (bytesC l).toArray) (hn : l.length = n) (hm : n ≤ 1000000) : Sat w0 w (OwnB 5 (.slice (some ⟨g, 0, none⟩) n n) l :: L) := by
  subst he hn
  unfold OwnB
  exact OwnS.ofBlk h (Nat.le_refl _) (by unfold maxLen; omega) (by simp) (by simp [List.take_of_length_le])
theorem OwnB.as {v : Value} {l l' : List UInt8} (h : Sat w0 w (OwnB 5 v l :: L)) (e : l = l') : Sat w0 w (OwnB 5 v l' :: L) := e ▸ h
theorem OwnB.slice {v : Value} {l : List UInt8} (h : Sat w0 w (OwnB 5 v l :: L)) : ∃ a c, v = .slice a l.length c ∧ l.length ≤ c := by
  obtain ⟨a, c, e, h1, _⟩ := OwnS.form h
  exact ⟨a, c, e, h1⟩

/-- append(v, x...), bytes onto bytes of one's own. -/
theorem wpList_append_b {ops : Array Oper} {rest : List Oper} {o : Oper} {a : Act} {Q : Exit → Act → World → Prop} (hgd : o.guard = none) (s x : Operand) (tx : TypeId)
    (ho : o.op = .call { callee := .builtin .append, args := #[s, x], argTypes := #[37, tx] })
    {v vx : Value} {p q : List UInt8} (hv : a.eval s = v) (hs : Sat w0 w (OwnB 5 v p :: L)) (hx : a.eval x = vx) (hsrc : Src Try.prog 1 tx vx q.length (bytesC q) w) (r : List UInt8) (n : Nat) (hr : p ++ q = r) (hn : r.length = n) (h63 : n ≤ 140737488355328)
    (h : ∀ a' c' w', Sat w0 w' (OwnB 5 (.slice a' n c') r :: L) → wpList Try.prog ops Q rest (a.put o.dst (.slice a' n c')) w') : wpList Try.prog ops Q (o :: rest) a w := by
  subst hn hr
  obtain ⟨i0, hi0, hz0, hz1, hz2⟩ := info_u8
  rw [List.length_append] at h63
  refine wpList_append_sat (w0 := w0) (e := 5) (sz := 1) (n := p.length) (xs := bytesC p) hgd s x 37 tx ho Try.underlying37 hi0 hz0 hz1 hz2 rfl hv hs hx hsrc (by simp only [maxLen]; omega) (by omega) ?_
  intro a' c' w' h2 _
  simp only [← bytesC_append, ← List.length_append] at h2 ⊢
  exact h a' c' w' h2
/-- The same in a region that draws its order. -/
theorem step_append_b {ops : Array Oper} {o : Oper} {a : Act} {K : Act → World → Prop} {Q : Exit → Act → World → Prop} (hgd : o.guard = none) (s x : Operand) (tx : TypeId)
    (ho : o.op = .call { callee := .builtin .append, args := #[s, x], argTypes := #[37, tx] })
    {v vx : Value} {p q : List UInt8} (hv : a.eval s = v) (hs : Sat w0 w (OwnB 5 v p :: L)) (hx : a.eval x = vx) (hsrc : Src Try.prog 1 tx vx q.length (bytesC q) w) (r : List UInt8) (n : Nat) (hr : p ++ q = r) (hn : r.length = n) (h63 : n ≤ 140737488355328)
    (h : ∀ a' c' w', Sat w0 w' (OwnB 5 (.slice a' n c') r :: L) → K (a.put o.dst (.slice a' n c')) w') :
    if Region.wanted o (yielded ops a.tmps) = true then o.wp Try.prog a w K Q else K (a.put o.dst undef) w := by
  subst hn hr
  rw [if_pos (by simp [Region.wanted, hgd])]
  obtain ⟨i0, hi0, hz0, hz1, hz2⟩ := info_u8
  rw [List.length_append] at h63
  obtain ⟨v', w', hr, h2, _⟩ := run_append_sat (P := Try.prog) (ty := o.type) Try.underlying37 hi0 hz0 hz1 hz2 rfl hs hsrc (by simp only [maxLen]; omega) (by omega)
  unfold Oper.wp execOp
  simp only [ho, resolve, invoke, builtin, Sem.run_bind, Sem.run_pure, Result.andThen_ok, List.map_toArray, List.map_cons, List.map_nil, hv, hx, hr]
  obtain ⟨a', c', rfl, _, _⟩ := OwnS.form h2
  simp only [← bytesC_append, ← List.length_append] at h2 ⊢
  exact h a' c' w' h2
end
end Go.Proofs.Ytkejadhkebjdcaa
