/- The document's Mux as a piece of the heap; one value appended to a slice that is owned. -/
import Derived.Deep.LoopGhost
import Derived.Test.YtkejadhkebjdcaaRsg
import Derived.Test.YtkejadhkebjdcaaMxT
namespace Go.Proofs.Ytkejadhkebjdcaa
open Go Go.RowKit Go.Maps
set_option linter.unusedVariables false
set_option linter.unusedSimpArgs false

def rsP (l : List (Nat × StM)) : List Assn := l.map fun e => RSt e.1 e.2
def ptrC (l : List (Nat × StM)) : List Value := l.map fun e => .pointer (some ⟨e.1, 0, none⟩)
theorem ptrC_app (l r : List (Nat × StM)) : ptrC (l ++ r) = ptrC l ++ ptrC r := List.map_append
theorem rsP_app (l r : List (Nat × StM)) : rsP (l ++ r) = rsP l ++ rsP r := List.map_append
theorem ptrC_len (l : List (Nat × StM)) : (ptrC l).length = l.length := List.length_map _
def RMx (g : Nat) (cr mo : Int) (l : List (Nat × StM)) : Assn := fun h => ∃ v : Value, Star (Blk g (.cells #[.int .i64 cr, .int .i64 mo, v] 86 (0, 0)) :: OwnS 56 1 v l.length (ptrC l) :: rsP l) h
theorem pinfo : ∃ i, Try.prog.info? 56 = some i ∧ i.zero = some (.pointer none) ∧ i.size = 1 ∧ i.bytes = 8 := info_at (by kernel_rfl)
theorem iinfo : ∃ i, Try.prog.info? 3 = some i ∧ i.zero = some (.int .i64 0) ∧ i.size = 1 ∧ i.bytes = 8 := info_at (by kernel_rfl)

section
variable {w0 w : World} {L : List Assn}
theorem RMx.opn {g : Nat} {cr mo : Int} {l : List (Nat × StM)} (h : Sat w0 w (RMx g cr mo l :: L)) : ∃ a c, l.length ≤ c ∧ c ≤ maxLen ∧
    Sat w0 w (Blk g (.cells #[.int .i64 cr, .int .i64 mo, .slice a l.length c] 86 (0, 0)) :: OwnS 56 1 (.slice a l.length c) l.length (ptrC l) :: (rsP l ++ L)) := by
  obtain ⟨v, h1⟩ := Sat.ex h
  have h2 := Sat.unstar h1
  obtain ⟨a, c, rfl, h3, h4⟩ := OwnS.form h2.swap
  exact ⟨a, c, h3, h4, h2⟩
theorem RMx.shut {g : Nat} {cr mo : Int} {l : List (Nat × StM)} {v : Value}
    (h : Sat w0 w (Blk g (.cells #[.int .i64 cr, .int .i64 mo, v] 86 (0, 0)) :: OwnS 56 1 v l.length (ptrC l) :: (rsP l ++ L))) : Sat w0 w (RMx g cr mo l :: L) :=
  (Sat.star (L1 := _ :: _ :: rsP l) h).imp (fun _ hh => ⟨v, hh⟩)
/-- What is read at one place of the row. -/
theorem rm_at {a : Option Addr} {n c : Nat} {l : List (Nat × StM)} (hp : Sat w0 w (OwnS 56 1 (.slice a n c) n (ptrC l) :: (rsP l ++ L))) {i : Nat} {e : Nat × StM} (he : l[i]? = some e) (hi : i < n) :
    ∃ b o, a = some ⟨b, o, none⟩ ∧ w.cell? ⟨b, o + i, none⟩ = some (.pointer (some ⟨e.1, 0, none⟩)) ∧ w.cell? ⟨e.1, 0, none⟩ = some (.int .i64 e.2.id) := by
  obtain ⟨b, o, cap, e1, _, _, hc, _⟩ := OwnS.cells hp (by omega)
  injection e1 with ea _ _
  refine ⟨b, o, ea, hc i _ (by unfold ptrC; rw [List.getElem?_map, he]; rfl), ?_⟩
  obtain ⟨hk, rfl⟩ := List.getElem?_eq_some_iff.1 he
  have hsp : rsP l = rsP (l.take i) ++ RSt (l[i]).1 (l[i]).2 :: rsP (l.drop (i + 1)) := by
    have : l = l.take i ++ l[i] :: l.drop (i + 1) := by rw [List.getElem_cons_drop, List.take_append_drop]
    unfold rsP
    conv => lhs; rw [this]
    rw [List.map_append, List.map_cons]
  rw [hsp] at hp
  exact RCell0.of (Sat.front (OwnS 56 1 (.slice a n c) n (ptrC l) :: rsP (l.take i)) (L2 := rsP (l.drop (i + 1)) ++ L) (by simpa only [List.cons_append, List.append_assoc, List.nil_append] using hp))
/-- append of one value of one cell, in the text's order. -/
theorem wpList_append_v {ops : Array Oper} {rest : List Oper} {o : Oper} {a : Act} {Q : Exit → Act → World → Prop} (hgd : o.guard = none) (s x : Operand) (t : TypeId)
    (ho : o.op = .call { callee := .builtin .append, args := #[s, x], argTypes := #[t, t] })
    {e : TypeId} {i : TypeInfo} {z : Value} (ht : Try.prog.underlying t = some (.slice e)) (hi : Try.prog.info? e = some i) (hz : i.zero = some z) (hsize : i.size = 1) (hby : i.bytes = 8) (hzs : z.cells.size = 1)
    {v u : Value} {n g cap : Nat} {xs : List Value} {et : TypeId} (hv : a.eval s = v) (hx : a.eval x = .slice (some ⟨g, 0, none⟩) 1 cap) (h1 : u.oneCell' = true)
    (hs : Sat w0 w (Blk g (.cells #[u] et (0, 0)) :: OwnS e 1 v n xs :: L)) (hn : n ≤ 100000000)
    (h : ∀ a' c' w', Sat w0 w' (OwnS e 1 (.slice a' (n + 1) c') (n + 1) (xs ++ [u]) :: L) → wpList Try.prog ops Q rest (a.put o.dst (.slice a' (n + 1) c')) w') : wpList Try.prog ops Q (o :: rest) a w :=
  wpList_append_sat hgd s x t t ho ht hi hz hsize hby hzs hv hs.drop hx (src_blk (cs := [u]) ht hs.blk.1 rfl (by intro y hy; simp at hy; subst hy; exact h1)) (by simp only [maxLen]; omega) (by omega) (fun a' c' w' h2 _ => h a' c' w' h2)
/-! ### The document's Mux, walked -/
theorem rm_New (cr mo : Int) (hs : Sat w0 w L) :
    Calls Try.prog 26 #[.int .i64 cr, .int .i64 mo] w fun e w' => ∃ g, e = .returned (.pointer (some ⟨g, 0, none⟩)) ∧ Sat w0 w' (RMx g (max 1 (min cr 65536)) (max 1 (min mo 64)) [] :: L) := by
  go_enter Try.func26, Try.ntmps26
  go_wp2_with fail
  go_ret
  refine ⟨_, rfl, RMx.shut (l := []) (v := .slice none 0 0) ?_⟩
  exact (OwnS.nilI (e := 56) (sz := 1) hs).alloc _
set_option maxRecDepth 100000 in
theorem rm_Get {g : Nat} {cr mo : Int} {l : List (Nat × StM)} (id : Int) (hs : Sat w0 w (RMx g cr mo l :: L)) :
    Calls Try.prog 27 #[.pointer (some ⟨g, 0, none⟩), .int .i64 id] w fun e w' => e = .returned (.pointer ((getM l id).map fun e => ⟨e.1, 0, none⟩)) ∧ w = w' := by
  obtain ⟨a, c, hc1, hc2, h1⟩ := RMx.opn hs
  unfold maxLen at hc2
  have c2 : w.cell? ⟨g, 2, none⟩ = some (.slice a l.length c) := h1.cell 2 rfl
  obtain ⟨n, hn⟩ : ∃ n, l.length = n := ⟨_, rfl⟩
  have HN := hid_ hn
  have h2 := h1.drop
  rw [hn] at c2 h2 hc1
  have h2 := hid_ h2
  clear h1 hs hn
  go_enter Try.func27, Try.ntmps27
  go_wp2_with fail
  go_loopg [12] n (fun gg v12 wr => ∃ i : Nat, i ≤ n ∧ n - i ≤ gg ∧ v12 = .int .i64 i ∧ wr = w ∧ getM (l.drop i) id = getM l id)
  case atStart => exact ⟨0, by omega, by omega, rfl, rfl, rfl⟩
  case round =>
    obtain ⟨i, hi, hgg, rfl, rfl, hgm⟩ := hrel
    by_cases hlt : i < n
    · obtain ⟨e, he⟩ : ∃ e, l[i]? = some e := ⟨_, List.getElem?_eq_getElem (by rw [HN.out]; exact hlt)⟩
      obtain ⟨b, o, rfl, c0, d0⟩ := rm_at h2.out he hlt
      have hdr : l.drop i = e :: l.drop (i + 1) := by
        obtain ⟨hk, rfl⟩ := List.getElem?_eq_some_iff.1 he
        rw [List.getElem_cons_drop]
      rw [hdr] at hgm
      have z1 : (i : Int) < (n : Int) := by omega
      clear he hdr
      by_cases hid : e.2.id = id
      · have q1 : (e.2.id == id) = true := by simp [hid]
        have hg2 := hid_ (show getM l id = some e by rw [← hgm]; unfold getM; rw [List.find?_cons, q1])
        clear hid hgm
        go_wp2_with fail
        go_ret
        exact ⟨by rw [hg2.out]; rfl, rfl⟩
      · have q1 : (e.2.id == id) = false := by simp [hid]
        have hg2 := hid_ (show getM (l.drop (i + 1)) id = getM l id by rw [← hgm]; unfold getM; rw [List.find?_cons, q1])
        clear hid hgm
        go_wp2_with fail
        go_roundg (n - (i + 1))
        case measure => omega
        case rel => exact ⟨i + 1, by omega, by omega, by go_num, rfl, hg2.out⟩
    · obtain rfl : i = n := by omega
      have hg2 := hid_ (show getM l id = none by rw [← hgm, List.drop_of_length_le (by rw [HN.out]; omega)]; rfl)
      clear hgm
      go_wp2_with fail
      go_ret
      exact ⟨by rw [hg2.out]; rfl, rfl⟩
end
end Go.Proofs.Ytkejadhkebjdcaa
