/- Bytes and lists of elements that a walk owns; general. -/
import Derived.Test.YtkejadhkebjdcaaMem
namespace Go.Proofs.Ytkejadhkebjdcaa
open Go Go.RowKit
set_option linter.unusedVariables false
set_option linter.unusedSimpArgs false

/-- A slice against nil. -/
theorem w_eql_nil {P : Program} (w : World) (t e : TypeId) (a : Option Addr) (n c : Nat) (h : P.underlying t = some (.slice e)) : (binOp .eql t (.slice a n c) (.slice none 0 0)).run P w = .ok (.bool a.isNone) w := Lib.run_eql_slice_nil w t e a n c 0 0 h
theorem w_neq_nil {P : Program} (w : World) (t e : TypeId) (a : Option Addr) (n c : Nat) (h : P.underlying t = some (.slice e)) : (binOp .neq t (.slice a n c) (.slice none 0 0)).run P w = .ok (.bool (!a.isNone)) w := by
  have h1 := w_eql_nil w t e a n c h
  simp only [binOp] at h1 ⊢
  cases hq : (Op.equal t (.slice a n c) (.slice none 0 0)).run P w with
  | ok b w1 => simp [hq] at h1 ⊢; exact h1
  | halt x w1 => simp [hq] at h1
attribute [go_sem] w_eql_nil w_neq_nil

/-- Bytes as cells. -/
def bytesC (l : List UInt8) : List Value := l.map fun b => .int .u8 b.toNat
@[simp] theorem bytesC_length (l : List UInt8) : (bytesC l).length = l.length := by simp [bytesC]
@[simp] theorem bytesC_nil : bytesC [] = [] := rfl
theorem bytesC_append (a b : List UInt8) : bytesC (a ++ b) = bytesC a ++ bytesC b := by simp [bytesC]
theorem bytesC_take (a : List UInt8) (n : Nat) : (bytesC a).take n = bytesC (a.take n) := by simp [bytesC, List.map_take]
theorem bytesC_drop (a : List UInt8) (n : Nat) : (bytesC a).drop n = bytesC (a.drop n) := by simp [bytesC, List.map_drop]
theorem bytesC_get {a : List UInt8} {i : Nat} (h : i < a.length) : (bytesC a)[i]? = some (.int .u8 (a.getD i 0).toNat) := by
  simp [bytesC, h]
theorem bytesC_one {a : List UInt8} : ∀ u ∈ bytesC a, u.oneCell' = true := by
  intro u hu
  obtain ⟨b, _, rfl⟩ := List.mem_map.1 hu
  rfl
theorem bytesC_inj {a b : List UInt8} (h : bytesC a = bytesC b) : a = b := by
  unfold bytesC at h
  exact List.map_inj_right (fun x y e => by
    injection e with _ e
    exact UInt8.toNat_inj.1 (by omega)) |>.1 h

/-- A byte slice that reads as l in w. -/
def RdB (w : World) (v : Value) (l : List UInt8) : Prop :=
  ∃ a cap, v = .slice a l.length cap ∧ l.length ≤ cap ∧ cap ≤ maxLen ∧ (a = none → cap = 0) ∧
    (0 < l.length → ∃ b off, a = some ⟨b, off, none⟩ ∧ b < w.heap.size ∧ ∀ i, i < l.length → w.cell? ⟨b, off + i, none⟩ = some (.int .u8 (l.getD i 0).toNat))

theorem RdB.at {w : World} {v : Value} {l : List UInt8} (h : RdB w v l) {i : Nat} (hi : i < l.length) :
    ∃ b off cap, v = .slice (some ⟨b, off, none⟩) l.length cap ∧ b < w.heap.size ∧ l.length ≤ cap ∧ cap ≤ maxLen ∧ ∀ j, j < l.length → w.cell? ⟨b, off + j, none⟩ = some (.int .u8 (l.getD j 0).toNat) := by
  obtain ⟨a, cap, rfl, h1, h2, _, h3⟩ := h
  obtain ⟨b, off, rfl, h4, h5⟩ := h3 (by omega)
  exact ⟨b, off, cap, rfl, h4, h1, h2, h5⟩
theorem RdB.len {w : World} {v : Value} {l : List UInt8} (h : RdB w v l) : l.length ≤ maxLen := by
  obtain ⟨a, cap, rfl, h1, h2, _⟩ := h
  omega
theorem RdB.form {w : World} {v : Value} {l : List UInt8} (h : RdB w v l) : ∃ a cap, v = .slice a l.length cap ∧ l.length ≤ cap ∧ cap ≤ maxLen ∧ (a = none → cap = 0) := by
  obtain ⟨a, cap, rfl, h1, h2, h3, _⟩ := h
  exact ⟨a, cap, rfl, h1, h2, h3⟩
theorem RdB.mono {w w' : World} {v : Value} {l : List UInt8} (h : RdB w v l) (hb : Below w.heap.size w w') : RdB w' v l := by
  obtain ⟨a, cap, rfl, h1, h2, h3, h4⟩ := h
  refine ⟨a, cap, rfl, h1, h2, h3, fun h0 => ?_⟩
  obtain ⟨b, off, rfl, h5, h6⟩ := h4 h0
  have := hb.size
  exact ⟨b, off, rfl, by omega, fun i hi => (hb.cell (p := ⟨b, off + i, none⟩) h5).trans (h6 i hi)⟩
/-- What came in reads still. -/
theorem RdB.later {w0 w : World} {v : Value} {l : List UInt8} (h : RdB w0 v l) {L : List Assn} (hs : Sat w0 w L) : RdB w v l := h.mono hs.below
theorem RdB.nil (w : World) : RdB w (.slice none 0 0) [] := ⟨none, 0, rfl, Nat.le_refl _, Nat.zero_le _, fun _ => rfl, fun h => absurd h (Nat.lt_irrefl _)⟩

theorem RdB.cut {w : World} {b0 off0 cap : Nat} {l : List UInt8} (h : RdB w (.slice (some ⟨b0, off0, none⟩) l.length cap) l) {lo hi : Nat} (h1 : lo ≤ hi) (h2 : hi ≤ l.length) :
    RdB w (.slice (some ⟨b0, off0 + lo, none⟩) (hi - lo) (cap - lo)) ((l.drop lo).take (hi - lo)) := by
  obtain ⟨a, cap', he, g1, g2, g3, g4⟩ := h
  injection he with he _ hc
  subst hc
  subst he
  have hl : ((l.drop lo).take (hi - lo)).length = hi - lo := by rw [List.length_take, List.length_drop]; omega
  refine ⟨some ⟨b0, off0 + lo, none⟩, cap - lo, by rw [hl], by omega, by omega, (fun e => nomatch e), fun h0 => ?_⟩
  obtain ⟨b, off, hb, g5, g6⟩ := g4 (by omega)
  injection hb with hb
  injection hb with hb1 hb2
  subst hb1; subst hb2
  refine ⟨b0, off0 + lo, rfl, g5, fun i hi' => ?_⟩
  have h3 := g6 (lo + i) (by omega)
  rw [Nat.add_assoc, h3]
  congr 3
  have hx : ((l.drop lo).take (hi - lo))[i]? = l[lo + i]? := by
    rw [List.getElem?_take, if_pos (by omega), List.getElem?_drop]
  simp only [List.getD, hx]

/-- A row of bytes that came in, as the rows' step tells it. -/
theorem RdB.ofRow {w : World} {a : Option Addr} {len cap : Nat} {zs : List Int}
    (h : (a = none ∧ len = 0 ∧ cap = 0 ∧ zs = []) ∨
      ∃ x, a = some x ∧ len ≤ cap ∧ cap ≤ maxLen ∧ zs.length = cap ∧ (∀ i, i < zs.length → w.cell? (x.add i) = some (.int .u8 (zs.getD i 0))) ∧ ∀ n ∈ zs, (Lit.int .u8 n).wf = true) :
    ∃ l : List UInt8, l.length = len ∧ RdB w (.slice a len cap) l := by
  rcases h with ⟨rfl, rfl, rfl, rfl⟩ | ⟨x, rfl, h1, h2, h3, h4, h5⟩
  · exact ⟨[], rfl, RdB.nil w⟩
  · have hl : ((zs.take len).map fun z => UInt8.ofNat z.toNat).length = len := by rw [List.length_map, List.length_take]; omega
    refine ⟨(zs.take len).map fun z => UInt8.ofNat z.toNat, hl, some x, cap, by rw [hl], by omega, h2, (fun e => nomatch e), fun h0 => ?_⟩
    obtain ⟨b, off, sp⟩ := x
    have h6 := h4 0 (by omega)
    have hsp : sp = none := by
      unfold Addr.add at h6
      rw [if_pos rfl] at h6
      unfold World.cell? at h6
      cases sp with
      | none => rfl
      | some y => simp at h6; split at h6 <;> cases h6
    subst hsp
    rw [addr_add] at h6
    refine ⟨b, off, rfl, World.block_lt_of_cell? w _ h6, fun i hi => ?_⟩
    have h7 := h4 i (by omega)
    rw [addr_add] at h7
    rw [h7]
    congr 2
    have hz : i < zs.length := by omega
    have hw := h5 _ (List.getElem_mem hz)
    have hg : ((zs.take len).map fun z => UInt8.ofNat z.toNat).getD i 0 = UInt8.ofNat (zs[i]).toNat := by
      simp [List.getD, List.getElem?_take, show i < len by omega, hz]
    have hg2 : zs.getD i 0 = zs[i] := by simp [List.getD, hz]
    rw [hg, hg2]
    simp only [Lit.wf, IntKind.min, IntKind.max, IntKind.signed, IntKind.bits, Bool.and_eq_true, decide_eq_true_eq] at hw
    have hb : (zs[i]).toNat < 256 := by
      obtain ⟨ha, hb⟩ := hw
      simp at ha hb
      omega
    have : 0 ≤ zs[i] := by
      obtain ⟨ha, hb⟩ := hw
      simpa using ha
    simp [UInt8.toNat_ofNat', Nat.mod_eq_of_lt hb]
    omega

/-- Bytes that are owned. -/
def OwnB (t : TypeId) (v : Value) (l : List UInt8) : Assn := OwnS t 1 v l.length (bytesC l)

section
variable {w0 w w' : World} {A B : Assn} {L L' L1 L2 : List Assn} {t : TypeId}

theorem OwnB.rd {v : Value} {l : List UInt8} (h : Sat w0 w (OwnB t v l :: L)) : RdB w v l := by
  rcases OwnS.cases h with ⟨rfl, h0, _, _⟩ | ⟨g, off, cap, cur, rfl, h1, h2, h3, h4, hs⟩
  · refine ⟨none, 0, by rw [h0], by omega, Nat.zero_le _, fun _ => rfl, fun h => by omega⟩
  · refine ⟨_, cap, rfl, h1, h2, (fun e => nomatch e), fun h0 => ⟨g, off, rfl, hs.lt, fun i hi => ?_⟩⟩
    refine hs.cell (off + i) ?_
    have hj := bytesC_get (a := l) hi
    rw [← h4, List.getElem?_take] at hj
    split at hj
    · rw [List.getElem?_drop] at hj
      simpa using hj
    · cases hj

theorem OwnB.cut {l : List UInt8} {g off cap k : Nat} (h : Sat w0 w (OwnB t (.slice (some ⟨g, off, none⟩) l.length cap) l :: L)) (hk : k ≤ l.length) :
    Sat w0 w (OwnB t (.slice (some ⟨g, off + k, none⟩) (l.length - k) (cap - k)) (l.drop k) :: L) := by
  have h1 := OwnS.cut h hk
  rw [Nat.mul_one, bytesC_drop] at h1
  unfold OwnB
  rw [List.length_drop]
  exact h1
theorem OwnB.cutAll {l : List UInt8} {g off k : Nat} (h : Sat w0 w (OwnB t (.slice (some ⟨g, off, none⟩) l.length k) l :: L)) (hk : l.length = k) :
    Sat w0 w (OwnB t (.slice (some ⟨g, off, none⟩) 0 0) (l.drop k) :: L) := by
  subst hk
  have h1 := OwnS.cutAll h
  rw [List.drop_length]
  exact h1
theorem OwnB.head {l : List UInt8} {g off cap k : Nat} (h : Sat w0 w (OwnB t (.slice (some ⟨g, off, none⟩) l.length cap) l :: L)) (hk : k ≤ l.length) :
    Sat w0 w (OwnB t (.slice (some ⟨g, off, none⟩) k cap) (l.take k) :: L) := by
  have h1 := OwnS.head h hk
  rw [Nat.mul_one, bytesC_take] at h1
  have hl : (l.take k).length = k := by rw [List.length_take]; omega
  unfold OwnB
  rw [hl]
  exact h1
theorem OwnB.nilI (h : Sat w0 w L) : Sat w0 w (OwnB t (.slice none 0 0) [] :: L) := OwnS.nilI h
theorem OwnB.len {v : Value} {l : List UInt8} (h : Sat w0 w (OwnB t v l :: L)) : l.length ≤ maxLen := (OwnB.rd h).len

/-- Bytes as what an append takes. -/
theorem RdB.src {P : Program} {tx e' : TypeId} (hk : P.underlying tx = some (.slice e')) {v : Value} {l : List UInt8} (h : RdB w v l) : Src P 1 tx v l.length (bytesC l) w := by
  obtain ⟨a, cap, rfl, h1, h2, h3, h4⟩ := h
  cases a with
  | none =>
    have hc := h3 rfl
    have hl : l = [] := List.eq_nil_of_length_eq_zero (by omega)
    subst hl
    exact Src.ofNil w hk cap
  | some ad =>
    by_cases h0 : 0 < l.length
    · obtain ⟨b, off, he, _, h5⟩ := h4 h0
      injection he with he
      subst he
      refine Src.ofSlice w hk _ _ cap _ (by simp) (fun j u hj => ?_) bytesC_one
      rw [addr_add]
      have hlt : j < l.length := by
        have := (List.getElem?_eq_some_iff.1 hj).1
        simpa using this
      rw [bytesC_get hlt] at hj
      injection hj with hj
      rw [← hj]
      exact h5 j hlt
    · have hl : l = [] := List.eq_nil_of_length_eq_zero (by omega)
      subst hl
      exact Src.ofSlice w hk _ _ cap _ (by simp) (fun j u hj => by simp at hj) bytesC_one

/-- A string of bytes. -/
def strOf (l : List UInt8) : ByteArray := ⟨l.toArray⟩
theorem strOf_toList (l : List UInt8) : (strOf l).data.toList = l := by simp [strOf]
theorem strOf_inj {a b : List UInt8} (h : strOf a = strOf b) : a = b := by
  rw [← strOf_toList a, ← strOf_toList b, h]
theorem strOf_data (s : ByteArray) : strOf s.data.toList = s := by cases s; simp [strOf]

theorem foldl_push (l : List UInt8) : ∀ (s : ByteArray), (l.map (fun b => (b.toNat : Int))).foldl (fun r n => r.push (UInt8.ofNat n.toNat)) s = ⟨s.data ++ l.toArray⟩ := by
  induction l with
  | nil => intro s; simp
  | cons b l ih =>
    intro s
    simp only [List.map_cons, List.foldl_cons, ih]
    simp [ByteArray.push]

/-- string(b). -/
theorem conv_rd {P : Program} {src dst e : TypeId} (hs : P.underlying src = some (.slice e)) (he : P.underlying e = some (.int .u8)) (hd : P.underlying dst = some .string) {v : Value} {l : List UInt8} (h : RdB w v l) :
    (convert src dst v).run P w = .ok (.string (strOf l)) w := by
  obtain ⟨a, cap, rfl, h1, h2, h3, h4⟩ := h
  rw [run_convert_bytes_string w src dst e a l.length cap hs he hd]
  cases a with
  | none =>
    have hc := h3 rfl
    have hl : l = [] := List.eq_nil_of_length_eq_zero (by omega)
    subst hl
    rfl
  | some ad =>
    have hns : (l.map (fun b => (b.toNat : Int))).map (Value.int .u8) = bytesC l := by simp [bytesC, List.map_map]
    rw [run_bytesToString w ad l.length cap (l.map fun b => (b.toNat : Int)), foldl_push]
    · simp [strOf]
    · rw [hns]
      by_cases h0 : 0 < l.length
      · obtain ⟨b, off, hb, _, h5⟩ := h4 h0
        injection hb with hb
        subst hb
        have hlen : l.length = (bytesC l).length := by simp
        rw [hlen]
        refine run_loadCells_list w _ (bytesC l) (fun j u hj => ?_)
        rw [addr_add]
        have hlt : j < l.length := by
          have := (List.getElem?_eq_some_iff.1 hj).1
          simpa using this
        rw [bytesC_get hlt] at hj
        injection hj with hj
        rw [← hj]
        exact h5 j hlt
      · have hl : l = [] := List.eq_nil_of_length_eq_zero (by omega)
        subst hl
        rfl

/-! ### Lists of elements with pieces of their own -/
/-- Elements of type e, sz cells each: the row, and what each element owns besides (El x cs: x as the cells cs). -/
def OwnL {α : Type} (e : TypeId) (sz : Nat) (El : α → List Value → Assn) (v : Value) (l : List α) : Assn := fun h =>
  ∃ css : List (List Value), (css.length = l.length ∧ ∀ cs ∈ css, cs.length = sz) ∧ Star (OwnS e sz v l.length css.flatten :: List.zipWith El l css) h

theorem OwnL.opn {α : Type} {e : TypeId} {sz : Nat} {El : α → List Value → Assn} {v : Value} {l : List α} (h : Sat w0 w (OwnL e sz El v l :: L)) :
    ∃ css : List (List Value), css.length = l.length ∧ (∀ cs ∈ css, cs.length = sz) ∧ Sat w0 w (OwnS e sz v l.length css.flatten :: (List.zipWith El l css ++ L)) := by
  obtain ⟨css, h1⟩ := Sat.ex (F := fun css h => (css.length = l.length ∧ ∀ cs ∈ css, cs.length = sz) ∧ Star (OwnS e sz v l.length css.flatten :: List.zipWith El l css) h) h
  obtain ⟨⟨h2, h3⟩, h4⟩ := Sat.pure (p := css.length = l.length ∧ ∀ cs ∈ css, cs.length = sz) (A := Star (OwnS e sz v l.length css.flatten :: List.zipWith El l css)) h1
  exact ⟨css, h2, h3, Sat.unstar h4⟩
theorem OwnL.shut {α : Type} {e : TypeId} {sz : Nat} {El : α → List Value → Assn} {v : Value} {l : List α} {css : List (List Value)} (h2 : css.length = l.length) (h3 : ∀ cs ∈ css, cs.length = sz)
    (h : Sat w0 w (OwnS e sz v l.length css.flatten :: (List.zipWith El l css ++ L))) : Sat w0 w (OwnL e sz El v l :: L) :=
  (Sat.star (L1 := OwnS e sz v l.length css.flatten :: List.zipWith El l css) h).imp (fun _ hh => ⟨css, ⟨h2, h3⟩, hh⟩)
theorem OwnL.nilI {α : Type} {e : TypeId} {sz : Nat} {El : α → List Value → Assn} (h : Sat w0 w L) : Sat w0 w (OwnL e sz El (.slice none 0 0) [] :: L) :=
  OwnL.shut (css := []) rfl (by simp) (OwnS.nilI h)
theorem OwnL.form {α : Type} {e : TypeId} {sz : Nat} {El : α → List Value → Assn} {v : Value} {l : List α} (h : Sat w0 w (OwnL e sz El v l :: L)) : ∃ a cap, v = .slice a l.length cap ∧ l.length ≤ cap ∧ cap ≤ maxLen := by
  obtain ⟨css, _, _, h1⟩ := OwnL.opn h
  exact OwnS.form h1

theorem flatten_len {css : List (List Value)} {sz : Nat} (h : ∀ cs ∈ css, cs.length = sz) : css.flatten.length = css.length * sz := by
  induction css with
  | nil => simp
  | cons c css ih =>
    rw [List.flatten_cons, List.length_append, h c (by simp), ih (fun cs hcs => h cs (by simp [hcs])), List.length_cons, Nat.succ_mul]
    omega

theorem flatten_get {css : List (List Value)} {sz : Nat} (h : ∀ cs ∈ css, cs.length = sz) {i j : Nat} {cs : List Value} (hi : css[i]? = some cs) (hj : j < sz) : css.flatten[i * sz + j]? = cs[j]? := by
  induction css generalizing i with
  | nil => simp at hi
  | cons c css ih =>
    have hc := h c (by simp)
    cases i with
    | zero =>
      simp at hi
      subst hi
      rw [List.flatten_cons, Nat.zero_mul, Nat.zero_add, List.getElem?_append_left (by omega)]
    | succ i =>
      simp at hi
      rw [List.flatten_cons, Nat.succ_mul, List.getElem?_append_right (by omega), ← ih (fun cs hcs => h cs (by simp [hcs])) hi]
      congr 1
      omega

/-- The elements behind an append of one: its cells, and what it owns. -/
theorem OwnL.snoc {α : Type} {e : TypeId} {sz : Nat} {El : α → List Value → Assn} {v' : Value} {l : List α} {x : α} {css : List (List Value)} {cs : List Value} (h2 : css.length = l.length) (h3 : ∀ cs ∈ css, cs.length = sz)
    (hc : cs.length = sz) (h : Sat w0 w (OwnS e sz v' (l.length + 1) (css.flatten ++ cs) :: (List.zipWith El l css ++ (El x cs :: L)))) : Sat w0 w (OwnL e sz El v' (l ++ [x]) :: L) := by
  refine OwnL.shut (css := css ++ [cs]) (by simp [h2]) (fun c hcs => ?_) ?_
  · rcases List.mem_append.1 hcs with h4 | h4
    · exact h3 c h4
    · simp at h4; rw [h4]; exact hc
  · rw [List.zipWith_append h2.symm]
    simpa using h

/-- append of one element whose cells are given, onto a list of elements. -/
theorem run_append_one {P : Program} {α : Type} {t tx ty e : TypeId} {i : TypeInfo} {z : Value} {sz bytes : Nat} (ht : P.underlying t = some (.slice e)) (hi : P.info? e = some i) (hz : i.zero = some z)
    (hsize : i.size = sz) (hby : i.bytes = bytes) (hzs : z.cells.size = sz) {El : α → List Value → Assn} {v : Value} {l : List α} {y : α} {cs : List Value}
    (hs : Sat w0 w (OwnL e sz El v l :: El y cs :: L)) {x : Value} (hsrc : Src P sz tx x 1 cs w) (h63 : l.length + 1 ≤ maxLen) (hbytes : (l.length + 1) * bytes ≤ 140737488355328) :
    ∃ a' c' w', (Builtin.append_ #[t, tx] ty #[v, x]).run P w = .ok (.slice a' (l.length + 1) c') w' ∧ Sat w0 w' (OwnL e sz El (.slice a' (l.length + 1) c') (l ++ [y]) :: L) := by
  obtain ⟨css, h2, h3, h4⟩ := OwnL.opn hs
  obtain ⟨v', w', hr, h5, _⟩ := run_append_sat (P := P) (ty := ty) ht hi hz hsize hby hzs h4 hsrc h63 hbytes
  obtain ⟨a', c', rfl, _, _⟩ := OwnS.form h5
  have hl := hsrc.newsLen
  exact ⟨a', c', w', hr, OwnL.snoc h2 h3 (by omega) h5⟩

theorem wp_append_one {P : Program} {α : Type} {o : Oper} {a : Act} {K : Act → World → Prop} {Q : Exit → Act → World → Prop} (s x : Operand) (t tx : TypeId)
    (ho : o.op = .call { callee := .builtin .append, args := #[s, x], argTypes := #[t, tx] })
    {e : TypeId} {i : TypeInfo} {z : Value} {sz bytes : Nat} (ht : P.underlying t = some (.slice e)) (hi : P.info? e = some i) (hz : i.zero = some z)
    (hsize : i.size = sz) (hby : i.bytes = bytes) (hzs : z.cells.size = sz) {El : α → List Value → Assn} {v vx : Value} {l : List α} (y : α) {cs : List Value} (hv : a.eval s = v)
    (hs : Sat w0 w (OwnL e sz El v l :: El y cs :: L)) (hx : a.eval x = vx) (hsrc : Src P sz tx vx 1 cs w) (h63 : l.length + 1 ≤ maxLen) (hbytes : (l.length + 1) * bytes ≤ 140737488355328)
    (h : ∀ a' c' w', Sat w0 w' (OwnL e sz El (.slice a' (l.length + 1) c') (l ++ [y]) :: L) → K (a.put o.dst (.slice a' (l.length + 1) c')) w') : o.wp P a w K Q := by
  obtain ⟨a', c', w', hr, h2⟩ := run_append_one (P := P) (ty := o.type) ht hi hz hsize hby hzs hs hsrc h63 hbytes
  unfold Oper.wp execOp
  simp only [ho, resolve, invoke, builtin, Sem.run_bind, Sem.run_pure, Result.andThen_ok, List.map_toArray, List.map_cons, List.map_nil, hv, hx, hr]
  exact h a' c' w' h2

theorem wpList_append_one {P : Program} {α : Type} {ops : Array Oper} {rest : List Oper} {o : Oper} {a : Act} {Q : Exit → Act → World → Prop} (hgd : o.guard = none) (s x : Operand) (t tx : TypeId)
    (ho : o.op = .call { callee := .builtin .append, args := #[s, x], argTypes := #[t, tx] })
    {e : TypeId} {i : TypeInfo} {z : Value} {sz bytes : Nat} (ht : P.underlying t = some (.slice e)) (hi : P.info? e = some i) (hz : i.zero = some z)
    (hsize : i.size = sz) (hby : i.bytes = bytes) (hzs : z.cells.size = sz) {El : α → List Value → Assn} {v vx : Value} {l : List α} (y : α) {cs : List Value} (hv : a.eval s = v)
    (hs : Sat w0 w (OwnL e sz El v l :: El y cs :: L)) (hx : a.eval x = vx) (hsrc : Src P sz tx vx 1 cs w) (h63 : l.length + 1 ≤ maxLen) (hbytes : (l.length + 1) * bytes ≤ 140737488355328)
    (h : ∀ a' c' w', Sat w0 w' (OwnL e sz El (.slice a' (l.length + 1) c') (l ++ [y]) :: L) → wpList P ops Q rest (a.put o.dst (.slice a' (l.length + 1) c')) w') : wpList P ops Q (o :: rest) a w :=
  wpList_plain hgd fun K hK => wp_append_one s x t tx ho ht hi hz hsize hby hzs y hv hs hx hsrc h63 hbytes (fun a' c' w' h2 => hK _ _ (h a' c' w' h2))

/-- The same in a region that draws its order. -/
theorem step_append_one {P : Program} {α : Type} {ops : Array Oper} {o : Oper} {a : Act} {K : Act → World → Prop} {Q : Exit → Act → World → Prop} (hgd : o.guard = none) (s x : Operand) (t tx : TypeId)
    (ho : o.op = .call { callee := .builtin .append, args := #[s, x], argTypes := #[t, tx] })
    {e : TypeId} {i : TypeInfo} {z : Value} {sz bytes : Nat} (ht : P.underlying t = some (.slice e)) (hi : P.info? e = some i) (hz : i.zero = some z)
    (hsize : i.size = sz) (hby : i.bytes = bytes) (hzs : z.cells.size = sz) {El : α → List Value → Assn} {v vx : Value} {l : List α} (y : α) {cs : List Value} (hv : a.eval s = v)
    (hs : Sat w0 w (OwnL e sz El v l :: El y cs :: L)) (hx : a.eval x = vx) (hsrc : Src P sz tx vx 1 cs w) (h63 : l.length + 1 ≤ maxLen) (hbytes : (l.length + 1) * bytes ≤ 140737488355328)
    (h : ∀ a' c' w', Sat w0 w' (OwnL e sz El (.slice a' (l.length + 1) c') (l ++ [y]) :: L) → K (a.put o.dst (.slice a' (l.length + 1) c')) w') :
    if Region.wanted o (yielded ops a.tmps) = true then o.wp P a w K Q else K (a.put o.dst undef) w := by
  rw [if_pos (by simp [Region.wanted, hgd])]
  exact wp_append_one s x t tx ho ht hi hz hsize hby hzs y hv hs hx hsrc h63 hbytes h

/-- One element in a block of its own, as what an append takes. -/
theorem src_blk {P : Program} {tx e' : TypeId} (hk : P.underlying tx = some (.slice e')) {g c sz : Nat} {t : TypeId} {cs : List Value} (hb : w.heap[g]? = some (.cells cs.toArray t (0, 0))) (hl : cs.length = sz) (h1 : ∀ u ∈ cs, u.oneCell' = true) :
    Src P sz tx (.slice (some ⟨g, 0, none⟩) 1 c) 1 cs w := by
  refine Src.ofSlice w hk _ 1 c cs (by omega) (fun j u hj => ?_) h1
  rw [addr_add, cell_at hb]
  simpa using hj

/-- Element i of a list of elements: its cells, and what it owns. -/
theorem OwnL.at {α : Type} {e : TypeId} {sz : Nat} {El : α → List Value → Assn} {v : Value} {l : List α} (h : Sat w0 w (OwnL e sz El v l :: L)) {i : Nat} {x : α} (hi : l[i]? = some x) :
    ∃ b off cap cs L', v = .slice (some ⟨b, off, none⟩) l.length cap ∧ w0.heap.size ≤ b ∧ cs.length = sz ∧ (∀ j u, cs[j]? = some u → w.cell? ⟨b, off + i * sz + j, none⟩ = some u) ∧ Sat w0 w (El x cs :: L') := by
  obtain ⟨css, h2, h3, h4⟩ := OwnL.opn h
  have hil : i < l.length := (List.getElem?_eq_some_iff.1 hi).1
  obtain ⟨b, off, cap, rfl, hb, _, hc, _⟩ := OwnS.cells h4 (by omega)
  have hci : css[i]? = some css[i] := List.getElem?_eq_getElem (by omega)
  refine ⟨b, off, cap, css[i], ((List.zipWith El l css).take i ++ (List.zipWith El l css).drop (i + 1)) ++ L, rfl, hb, h3 _ (List.getElem_mem _), fun j u hj => ?_, ?_⟩
  · have hjl : j < sz := by
      have := (List.getElem?_eq_some_iff.1 hj).1
      rw [h3 _ (List.getElem_mem _)] at this
      exact this
    rw [Nat.add_assoc]
    exact hc _ u ((flatten_get h3 hci hjl).trans hj)
  · have h5 := h4.drop
    have hz : (List.zipWith El l css)[i]? = some (El x css[i]) := by
      rw [List.getElem?_zipWith, hi, hci]
    have hzl : i < (List.zipWith El l css).length := (List.getElem?_eq_some_iff.1 hz).1
    have hsp : List.zipWith El l css = (List.zipWith El l css).take i ++ El x css[i] :: (List.zipWith El l css).drop (i + 1) := by
      have hz2 : (List.zipWith El l css)[i] = El x css[i] := (List.getElem?_eq_some_iff.1 hz).2
      rw [← hz2, List.getElem_cons_drop, List.take_append_drop]
    rw [hsp] at h5
    simp only [List.append_assoc, List.cons_append] at h5 ⊢
    exact Sat.front _ h5
end

theorem info_at {P : Program} {e : TypeId} {z : Value} {sz bytes : Nat} (h : (P.info? e).map (fun i => (i.zero, i.size, i.bytes)) = some (some z, sz, bytes)) :
    ∃ i, P.info? e = some i ∧ i.zero = some z ∧ i.size = sz ∧ i.bytes = bytes := by
  cases hi : P.info? e with
  | none => rw [hi] at h; cases h
  | some i =>
    rw [hi] at h
    simp at h
    exact ⟨i, rfl, h.1, h.2.1, h.2.2⟩
end Go.Proofs.Ytkejadhkebjdcaa
