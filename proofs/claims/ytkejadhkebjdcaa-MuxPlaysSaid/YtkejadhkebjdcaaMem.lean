/- Slices that a walk owns: their cells, append onto them, cuts and stores; general laws over the separation layer. -/
import Derived.Test.YtkejadhkebjdcaaSl
import Derived.Deep.AppendSrc
import Derived.Deep.MidRow
namespace Go.Proofs.Ytkejadhkebjdcaa
open Go Go.RowKit
set_option linter.unusedVariables false
set_option linter.unusedSimpArgs false

theorem addr_add (b o j : Nat) : (⟨b, o, none⟩ : Addr).add j = ⟨b, o + j, none⟩ := by unfold Addr.add; split <;> simp_all

section
variable {w0 w w' : World} {A B : Assn} {L L' L1 L2 : List Assn}

theorem alloc_at {n : Nat} {o : Obj} (h : n = w.heap.size) : (w.alloc o).heap[n]? = some o := by subst h; exact heap_alloc_new w o
theorem setCell_size (w : World) (p : Addr) (v : Value) : (w.setCell p v).heap.size = w.heap.size := by simp [World.setCell]

/-- A row of cells, with `vs` in the place of those from `o` on. -/
def splice (cur : Array Value) (o : Nat) (vs : List Value) : Array Value := (cur.toList.take o ++ vs ++ cur.toList.drop (o + vs.length)).toArray

theorem splice_size {cur : Array Value} {o : Nat} {vs : List Value} (h : o + vs.length ≤ cur.size) : (splice cur o vs).size = cur.size := by
  unfold splice
  simp only [List.size_toArray, List.length_append, List.length_take, List.length_drop, Array.length_toList]
  omega

theorem Sat.setCells {b : Nat} {t : TypeId} : ∀ (vs : List Value) (o : Nat) {w : World} {cur : Array Value}, Sat w0 w (Blk b (.cells cur t (0, 0)) :: L) → o + vs.length ≤ cur.size →
    Sat w0 (w.setCells b o vs) (Blk b (.cells (splice cur o vs) t (0, 0)) :: L)
  | [], o, w, cur, h, _ => by
    have e : splice cur o [] = cur := by unfold splice; simp
    rw [e]
    exact h
  | v :: r, o, w, cur, h, hl => by
    simp only [List.length_cons] at hl
    have h2 := Sat.setCells r (o + 1) (h.set o v) (by simp; omega)
    have e : splice (cur.setIfInBounds o v) (o + 1) r = splice cur o (v :: r) := by
      unfold splice
      congr 1
      have hlt : o < cur.toList.length := by rw [Array.length_toList]; omega
      rw [Array.toList_setIfInBounds, List.take_succ_eq_append_getElem (by simpa using hlt)]
      simp only [List.getElem_set_self, List.length_cons]
      rw [List.take_set_of_le (by omega), List.drop_set_of_lt (by omega)]
      simp only [List.append_assoc, List.cons_append, List.nil_append]
      congr 3
      congr 1
      omega
    rw [e] at h2
    exact h2

/-- A slice that is owned: n elements of type e, each of sz cells; xs: all their cells. -/
def OwnS (e : TypeId) (sz : Nat) (v : Value) (n : Nat) (xs : List Value) : Assn := fun h =>
  xs.length = n * sz ∧ ((v = .slice none 0 0 ∧ n = 0) ∨
    ∃ g off cap cur, v = .slice (some ⟨g, off, none⟩) n cap ∧ h g = some (.cells cur e (0, 0)) ∧ n ≤ cap ∧ cap ≤ maxLen ∧ off + cap * sz ≤ cur.size ∧ (cur.toList.drop off).take (n * sz) = xs)

theorem OwnS.nilI {e : TypeId} {sz : Nat} (h : Sat w0 w L) : Sat w0 w (OwnS e sz (.slice none 0 0) 0 [] :: L) :=
  (h.empI).imp (fun _ _ => ⟨by simp, .inl ⟨rfl, rfl⟩⟩)

theorem OwnS.len {e : TypeId} {sz : Nat} {v : Value} {n : Nat} {xs : List Value} (h : Sat w0 w (OwnS e sz v n xs :: L)) : xs.length = n * sz :=
  h.know (fun _ hh => hh.1)

/-- A new block as an owned slice. -/
theorem OwnS.ofBlk {e : TypeId} {sz g off n cap : Nat} {cur : Array Value} {xs : List Value} (h : Sat w0 w (Blk g (.cells cur e (0, 0)) :: L)) (hn : n ≤ cap) (hc : cap ≤ maxLen) (hs : off + cap * sz ≤ cur.size)
    (hx : (cur.toList.drop off).take (n * sz) = xs) : Sat w0 w (OwnS e sz (.slice (some ⟨g, off, none⟩) n cap) n xs :: L) :=
  h.imp (fun _ hh => ⟨by
    rw [← hx, List.length_take, List.length_drop, Array.length_toList]
    have := Nat.mul_le_mul_right sz hn
    omega, .inr ⟨g, off, cap, cur, rfl, hh, hn, hc, hs, hx⟩⟩)

theorem OwnS.cases {e : TypeId} {sz : Nat} {v : Value} {n : Nat} {xs : List Value} (h : Sat w0 w (OwnS e sz v n xs :: L)) :
    (v = .slice none 0 0 ∧ n = 0 ∧ xs = [] ∧ Sat w0 w L) ∨
    ∃ g off cap cur, v = .slice (some ⟨g, off, none⟩) n cap ∧ n ≤ cap ∧ cap ≤ maxLen ∧ off + cap * sz ≤ cur.size ∧ (cur.toList.drop off).take (n * sz) = xs ∧ Sat w0 w (Blk g (.cells cur e (0, 0)) :: L) := by
  obtain ⟨hb, h1, ⟨hl, hA⟩, l1, hr⟩ := h
  rcases hA with ⟨rfl, rfl⟩ | ⟨g, off, cap, cur, rfl, hg, h2, h3, h4, h5⟩
  · exact .inl ⟨rfl, rfl, List.eq_nil_of_length_eq_zero (by simpa using hl), hb, hr.anti (fun b hb => .inl hb)⟩
  · exact .inr ⟨g, off, cap, cur, rfl, h2, h3, h4, h5, hb, h1, hg, l1, hr⟩

/-- What it looks like: an address where it has an element. -/
theorem OwnS.form {e : TypeId} {sz : Nat} {v : Value} {n : Nat} {xs : List Value} (h : Sat w0 w (OwnS e sz v n xs :: L)) : ∃ a cap, v = .slice a n cap ∧ n ≤ cap ∧ cap ≤ maxLen := by
  rcases OwnS.cases h with ⟨rfl, rfl, _, _⟩ | ⟨g, off, cap, cur, rfl, h1, h2, _⟩
  · exact ⟨none, 0, rfl, Nat.le_refl _, Nat.zero_le _⟩
  · exact ⟨_, cap, rfl, h1, h2⟩

/-- Its cells. -/
theorem OwnS.cells {e : TypeId} {sz : Nat} {v : Value} {n : Nat} {xs : List Value} (h : Sat w0 w (OwnS e sz v n xs :: L)) (hn : 0 < n) :
    ∃ g off cap, v = .slice (some ⟨g, off, none⟩) n cap ∧ w0.heap.size ≤ g ∧ g < w.heap.size ∧ (∀ j u, xs[j]? = some u → w.cell? ⟨g, off + j, none⟩ = some u) ∧ ∀ j, w.frozen? ⟨g, j, none⟩ = false := by
  rcases OwnS.cases h with ⟨rfl, rfl, _, _⟩ | ⟨g, off, cap, cur, rfl, h1, h2, h3, h4, hs⟩
  · omega
  · refine ⟨g, off, cap, rfl, hs.blk.2, hs.lt, fun j u hj => ?_, fun j => hs.frozen j⟩
    refine hs.cell (off + j) ?_
    rw [← h4, List.getElem?_take] at hj
    split at hj
    · rw [List.getElem?_drop] at hj
      simpa using hj
    · cases hj

theorem owned_firstCells {P : Program} {e : TypeId} {sz : Nat} {v : Value} {n : Nat} {xs : List Value} (h : Sat w0 w (OwnS e sz v n xs :: L)) :
    (Builtin.firstCells sz n v).run P w.drew = .ok xs.toArray w.drew := by
  rcases OwnS.cases h with ⟨rfl, rfl, rfl, _⟩ | ⟨g, off, cap, cur, rfl, h1, h2, h3, h4, hs⟩
  · exact run_firstCells_none w.drew sz 0 0 0
  · have hl := OwnS.len h
    refine run_firstCells_some w.drew sz n _ n cap xs hl ?_
    intro j u hj
    rw [addr_add]
    refine hs.drew.cell (off + j) ?_
    rw [← h4, List.getElem?_take] at hj
    split at hj
    · rw [List.getElem?_drop] at hj
      simpa using hj
    · cases hj

/-- append onto an owned slice, of whatever is appended. -/
theorem run_append_sat {P : Program} {t tx ty e : TypeId} {i : TypeInfo} {z : Value} {sz bytes : Nat} (ht : P.underlying t = some (.slice e)) (hi : P.info? e = some i) (hz : i.zero = some z)
    (hsize : i.size = sz) (hby : i.bytes = bytes) (hzs : z.cells.size = sz) {v : Value} {n : Nat} {xs : List Value} (hs : Sat w0 w (OwnS e sz v n xs :: L))
    {x : Value} {m : Nat} {news : List Value} (hsrc : Src P sz tx x m news w) (h63 : n + m ≤ maxLen) (hbytes : (n + m) * bytes ≤ 140737488355328) :
    ∃ v' w', (Builtin.append_ #[t, tx] ty #[v, x]).run P w = .ok v' w' ∧ Sat w0 w' (OwnS e sz v' (n + m) (xs ++ news) :: L) ∧ (v' = .slice none 0 0 ↔ v = .slice none 0 0 ∧ m = 0) := by
  subst hsize
  subst hby
  have hl := OwnS.len hs
  have hnl := hsrc.newsLen
  have hsmall : n + m ≤ 9223372036854775807 := by simp only [maxLen] at h63; omega
  have hfc := owned_firstCells (P := P) hs
  have grow : ∀ (a : Option Addr) (c : Nat), v = .slice a n c → c < n + m → Sat w0 w L →
      ∃ v' w', (Builtin.append_ #[t, tx] ty #[v, x]).run P w = .ok v' w' ∧ Sat w0 w' (OwnS e i.size v' (n + m) (xs ++ news) :: L) ∧ v' ≠ .slice none 0 0 := by
    intro a c hv hc hL
    subst hv
    have hr := run_append_grow_src (P := P) w t tx ty e i z ht hi hz a n c xs hfc x m news hsrc hc (by omega) (growslice_fits hc hbytes)
    refine ⟨_, _, hr, ?_, by simp⟩
    have hge := grownCap_ge w (n + m) c e
    have hcm : grownCap w (n + m) c e ≤ maxLen := grownCap_le_maxLen w (n + m) c e h63
    refine OwnS.ofBlk (hL.drew.alloc _) hge hcm ?_ ?_
    · apply Nat.le_of_eq
      simp only [Array.size_append, List.size_toArray, List.length_append, size_zeroCells, hzs, hl, hnl, ← Nat.add_mul, Nat.zero_add]
      congr 1
      omega
    · simp only [Array.toList_append, List.drop_zero]
      rw [show (n + m) * i.size = (xs ++ news).length from by rw [List.length_append, hl, hnl, Nat.add_mul]]
      exact List.take_left
  rcases OwnS.cases hs with ⟨rfl, rfl, rfl, hL⟩ | ⟨g, off, cap, cur, rfl, h1, h2, h3, h4, hb⟩
  · by_cases hm : m = 0
    · subst hm
      have hn : news = [] := List.eq_nil_of_length_eq_zero (by simpa using hnl)
      subst hn
      refine ⟨.slice none 0 0, w, ?_, OwnS.nilI hL, by simp⟩
      have hcz := hsrc.cells
      rcases hsrc.kind with ⟨e', hk⟩ | hk <;> simp [Builtin.append_, run_underlying ht, run_underlying hk, sizeOf, typeInfo, hi, hsrc.len, hcz]
    · obtain ⟨v', w', a1, a2, a3⟩ := grow none 0 rfl (by omega) hL
      exact ⟨v', w', a1, a2, by simp [a3, hm]⟩
  · by_cases hroom : n + m ≤ cap
    · have hfit : off + n * i.size + news.length ≤ cur.size := by
        rw [hnl, Nat.add_assoc, ← Nat.add_mul]
        exact Nat.le_trans (Nat.add_le_add_left (Nat.mul_le_mul_right _ hroom) _) h3
      have hr := run_append_room_src (P := P) w t tx ty e i ht hi g off n cap x m news hsrc hroom
        (fun j hj => by
          have : w.cell? ⟨g, off + n * i.size + j, none⟩ = cur[off + n * i.size + j]? := cell_at hb.blk.1 _
          rw [this, Array.getElem?_eq_getElem (by omega)]
          rfl)
        (fun j _ => hb.frozen _)
      refine ⟨_, _, hr, ?_, by simp⟩
      refine OwnS.ofBlk (hb.setCells news (off + n * i.size) hfit) hroom h2 (by rw [splice_size hfit]; exact h3) ?_
      unfold splice
      have hlen : (n + m) * i.size = n * i.size + news.length := by rw [Nat.add_mul, hnl]
      have hcl : cur.toList.length = cur.size := Array.length_toList
      rw [hlen]
      simp only [List.append_assoc]
      rw [List.drop_append_of_le_length (by rw [List.length_take]; omega), List.drop_take, Nat.add_sub_cancel_left, h4, ← List.append_assoc, List.take_append_of_le_length (by rw [List.length_append, hl]; exact Nat.le_refl _)]
      rw [List.take_of_length_le (by rw [List.length_append, hl]; exact Nat.le_refl _)]
    · obtain ⟨v', w', a1, a2, a3⟩ := grow _ cap rfl (by omega) (hb.drop)
      exact ⟨v', w', a1, a2, by simp [a3]⟩

theorem wpList_append_sat {P : Program} {ops : Array Oper} {rest : List Oper} {o : Oper} {a : Act} {Q : Exit → Act → World → Prop} (hgd : o.guard = none) (s x : Operand) (t tx : TypeId)
    (ho : o.op = .call { callee := .builtin .append, args := #[s, x], argTypes := #[t, tx] })
    {e : TypeId} {i : TypeInfo} {z : Value} {sz bytes : Nat} (ht : P.underlying t = some (.slice e)) (hi : P.info? e = some i) (hz : i.zero = some z)
    (hsize : i.size = sz) (hby : i.bytes = bytes) (hzs : z.cells.size = sz) {v vx : Value} {n : Nat} {xs : List Value} (hv : a.eval s = v) (hs : Sat w0 w (OwnS e sz v n xs :: L))
    {m : Nat} {news : List Value} (hx : a.eval x = vx) (hsrc : Src P sz tx vx m news w) (h63 : n + m ≤ maxLen) (hbytes : (n + m) * bytes ≤ 140737488355328)
    (h : ∀ a' c' w', Sat w0 w' (OwnS e sz (.slice a' (n + m) c') (n + m) (xs ++ news) :: L) → Hid (Value.slice a' (n + m) c' = .slice none 0 0 ↔ v = .slice none 0 0 ∧ m = 0) → wpList P ops Q rest (a.put o.dst (.slice a' (n + m) c')) w') : wpList P ops Q (o :: rest) a w := by
  refine wpList_plain hgd fun K hK => ?_
  obtain ⟨v', w', hr, h2, h3⟩ := run_append_sat (P := P) (ty := o.type) ht hi hz hsize hby hzs hs hsrc h63 hbytes
  unfold Oper.wp execOp
  simp only [ho, resolve, invoke, builtin, Sem.run_bind, Sem.run_pure, Result.andThen_ok, List.map_toArray, List.map_cons, List.map_nil, hv, hx, hr]
  obtain ⟨a', c', rfl, _, _⟩ := OwnS.form h2
  exact hK _ _ (h a' c' w' h2 h3)

/-- A cut s[k:]. -/
theorem OwnS.cut {e : TypeId} {sz : Nat} {g off cap n k : Nat} {xs : List Value} (h : Sat w0 w (OwnS e sz (.slice (some ⟨g, off, none⟩) n cap) n xs :: L)) (hk : k ≤ n) :
    Sat w0 w (OwnS e sz (.slice (some ⟨g, off + k * sz, none⟩) (n - k) (cap - k)) (n - k) (xs.drop (k * sz)) :: L) := by
  rcases OwnS.cases h with ⟨h0, _⟩ | ⟨g', off', cap', cur, h0, h1, h2, h3, h4, hb⟩
  · cases h0
  · injection h0 with ha _ hc
    injection ha with ha
    injection ha with hg ho
    subst hg; subst ho; subst hc
    refine OwnS.ofBlk hb (by omega) (by simp only [maxLen] at *; omega) ?_ ?_
    · refine Nat.le_trans (Nat.le_of_eq ?_) h3
      rw [Nat.add_assoc, ← Nat.add_mul]
      congr 2
      omega
    · rw [← h4, List.drop_take, List.drop_drop, Nat.sub_mul]

/-- A cut s[cap:]: the address stays. -/
theorem OwnS.cutAll {e : TypeId} {sz : Nat} {g off n : Nat} {xs : List Value} (h : Sat w0 w (OwnS e sz (.slice (some ⟨g, off, none⟩) n n) n xs :: L)) :
    Sat w0 w (OwnS e sz (.slice (some ⟨g, off, none⟩) 0 0) 0 [] :: L) := by
  rcases OwnS.cases h with ⟨h0, _⟩ | ⟨g', off', cap', cur, h0, h1, h2, h3, h4, hb⟩
  · cases h0
  · injection h0 with ha _ hc
    injection ha with ha
    injection ha with hg ho
    subst hg; subst ho; subst hc
    exact OwnS.ofBlk hb (Nat.le_refl _) (Nat.zero_le _) (by omega) (by simp)

/-- A cut s[:k]. -/
theorem OwnS.head {e : TypeId} {sz : Nat} {g off cap n k : Nat} {xs : List Value} (h : Sat w0 w (OwnS e sz (.slice (some ⟨g, off, none⟩) n cap) n xs :: L)) (hk : k ≤ n) :
    Sat w0 w (OwnS e sz (.slice (some ⟨g, off, none⟩) k cap) k (xs.take (k * sz)) :: L) := by
  rcases OwnS.cases h with ⟨h0, _⟩ | ⟨g', off', cap', cur, h0, h1, h2, h3, h4, hb⟩
  · cases h0
  · injection h0 with ha _ hc
    injection ha with ha
    injection ha with hg ho
    subst hg; subst ho; subst hc
    refine OwnS.ofBlk hb (by omega) h2 h3 ?_
    rw [← h4, List.take_take, Nat.min_eq_left (Nat.mul_le_mul_right _ hk)]

theorem take_mid {α : Type} {D vs R : List α} {o m : Nat} (h1 : o ≤ D.length) (h2 : o + vs.length ≤ m) :
    List.take m (List.take o D ++ (vs ++ R)) = List.take o D ++ (vs ++ List.take (m - (o + vs.length)) R) := by
  have e : (List.take o D).length = o := by rw [List.length_take]; omega
  rw [List.take_append, e, List.take_of_length_le (i := m) (l := List.take o D) (by omega), List.take_append, List.take_of_length_le (i := m - o) (l := vs) (by omega)]
  congr 3
  omega

/-- Cells written into it. -/
theorem OwnS.put {e : TypeId} {sz : Nat} {g off cap n : Nat} {xs vs : List Value} {o : Nat} (h : Sat w0 w (OwnS e sz (.slice (some ⟨g, off, none⟩) n cap) n xs :: L)) (ho : o + vs.length ≤ n * sz) :
    Sat w0 (w.setCells g (off + o) vs) (OwnS e sz (.slice (some ⟨g, off, none⟩) n cap) n (xs.take o ++ vs ++ xs.drop (o + vs.length)) :: L) := by
  have hl := OwnS.len h
  rcases OwnS.cases h with ⟨h0, _⟩ | ⟨g', off', cap', cur, h0, h1, h2, h3, h4, hb⟩
  · cases h0
  · injection h0 with ha _ hc
    injection ha with ha
    injection ha with hg ho
    subst hg; subst ho; subst hc
    have hnc : n * sz ≤ cap * sz := Nat.mul_le_mul_right _ h1
    have hfit : off + o + vs.length ≤ cur.size := by omega
    refine OwnS.ofBlk (hb.setCells vs (off + o) hfit) h1 h2 (by rw [splice_size hfit]; exact h3) ?_
    have hcl : cur.toList.length = cur.size := Array.length_toList
    unfold splice
    simp only [List.append_assoc]
    rw [List.drop_append_of_le_length (by rw [List.length_take]; omega), List.drop_take, Nat.add_sub_cancel_left]
    rw [← h4, List.take_take, Nat.min_eq_left (by omega), List.drop_take]
    rw [show List.drop (off + o + vs.length) cur.toList = List.drop (o + vs.length) (List.drop off cur.toList) from by rw [List.drop_drop]; congr 1; omega]
    exact take_mid (by rw [List.length_drop]; omega) ho
end
end Go.Proofs.Ytkejadhkebjdcaa
