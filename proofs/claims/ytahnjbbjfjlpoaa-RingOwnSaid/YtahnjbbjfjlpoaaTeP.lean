/- The law RingForms' own 'has', walked. -/
import Derived.Deep.RegionLaw
import Derived.Test.YtahnjbbjfjlpoaaTeN
namespace Go.Proofs.Ytahnjbbjfjlpoaa
open Go Go.RowKit Go.Shelf
set_option linter.unusedVariables false
set_option linter.unusedSimpArgs false
theorem TenM.eq_of_id {us : List TenM} (hp : us.Pairwise (fun x y => x.id < y.id)) {s t : TenM} (hs : s ∈ us) (ht : t ∈ us) (he : s.id = t.id) : s = t := by
  obtain ⟨i, hi, rfl⟩ := List.getElem_of_mem hs
  obtain ⟨j, hj, rfl⟩ := List.getElem_of_mem ht
  rw [List.pairwise_iff_getElem] at hp
  rcases Nat.lt_trichotomy i j with h | h | h
  · have := hp i j hi hj h
    omega
  · subst h
    rfl
  · have := hp j i hj hi h
    omega
section
variable {w0 w : World} {L : List Assn}
/-- Get of a ring that holds the id. -/
theorem get_have (R : Nat) (us : List TenM) (hts : ∀ t ∈ us, t.may = true) (hp : us.Pairwise (fun x y => x.id < y.id)) (t : TenM) (ht : t ∈ us) (hr : RdRing w R us) :
    Calls Try.prog 17 #[.pointer (some ⟨R, 0, none⟩), .int .i64 t.id] w fun e W => ∃ kx kc rx rc, e = .returned (.tuple #[.agg #[.int .i64 t.id, .slice kx t.key.length kc, .int .i64 t.streams, .slice rx t.rules.length rc], .bool true]) ∧ Below w.heap.size w W ∧ TenV.inn w.heap.size W ⟨t, kx, kc, rx, rc⟩ := by
  refine (get_ring 4 (by omega) R us hts t.id hr).mono ?_
  rintro e W ⟨hb, ⟨s, kx, kc, rx, rc, hs, hi, rfl, hin⟩ | ⟨hno, _⟩⟩
  · obtain rfl := TenM.eq_of_id hp hs ht hi
    exact ⟨kx, kc, rx, rc, rfl, hb, hin⟩
  · exact absurd rfl (hno t ht)
/-- Get of a ring that does not hold the id. -/
theorem get_havent (R : Nat) (us : List TenM) (hts : ∀ t ∈ us, t.may = true) (id : Int) (hno : ∀ t ∈ us, t.id ≠ id) (hr : RdRing w R us) :
    Calls Try.prog 17 #[.pointer (some ⟨R, 0, none⟩), .int .i64 id] w fun e W => e = .returned (.tuple #[.agg #[.int .i64 0, .slice none 0 0, .int .i64 0, .slice none 0 0], .bool false]) ∧ Below w.heap.size w W := by
  refine (get_ring 4 (by omega) R us hts id hr).mono ?_
  rintro e W ⟨hb, ⟨s, kx, kc, rx, rc, hs, hi, _, _⟩ | ⟨_, rfl⟩⟩
  · exact absurd hi (hno s hs)
  · exact ⟨rfl, hb⟩
set_option maxRecDepth 100000 in
set_option maxHeartbeats 4000000 in
theorem ref_has (R : Nat) (ma : Option Addr) (mc : Nat) (ms : List TenV) (id : Int) (hts : ∀ t ∈ ms.map (·.t), t.may = true) (hp : (ms.map (·.t)).Pairwise (fun x y => x.id < y.id))
    (hr : RdRing w R (ms.map (·.t))) (hrow : RowT w ma mc ms) (hv : ∀ v ∈ ms, v.rd w) :
    Calls Try.prog 16 #[.pointer (some ⟨R, 0, none⟩), .slice ma ms.length mc, .int .i64 id] w fun e w' => e = .returned (.bool true) ∧ Below w.heap.size w w' := by
  have hcap := hrow.cap
  have hle := hrow.le
  unfold maxLen at hcap
  obtain ⟨n, hn⟩ : ∃ n, ms.length = n := ⟨_, rfl⟩
  have HN := hid_ hn
  have HP := hid_ hp
  have HTS := hid_ hts
  rw [hn] at hle ⊢
  clear hn hp hts
  go_enter Try.func16, Try.ntmps16
  go_wp2_with fail
  go_loopg [8, 9, 10, 15] n (fun gg _ _ _ v15 wr => ∃ i : Nat, i ≤ n ∧ n - i ≤ gg ∧ v15 = .int .i64 i ∧ Hid (∀ x ∈ ms.take i, x.t.id ≠ id) ∧ Below w.heap.size w wr)
  case atStart => exact ⟨0, Nat.zero_le _, by omega, rfl, hid_ (by simp), Below.refl _ _⟩
  case round =>
    obtain ⟨i, hi, hgg, rfl, hno, hb1⟩ := hrel
    by_cases hlt : i < n
    · obtain ⟨v, hvi⟩ : ∃ v, ms[i]? = some v := ⟨_, List.getElem?_eq_getElem (by rw [HN.out]; exact hlt)⟩
      have hmem : v ∈ ms := List.mem_of_getElem? hvi
      obtain ⟨b, off, rfl, hbl, hc⟩ := (hrow.mono hb1).at_ i v hvi
      have c0 : wr.cell? ⟨b, off + i * 4, none⟩ = some (.int .i64 v.t.id) := hc 0 _ rfl
      have c1 : wr.cell? ⟨b, off + i * 4 + 1, none⟩ = some (.slice v.kx v.t.key.length v.kc) := hc 1 _ rfl
      have c2 : wr.cell? ⟨b, off + i * 4 + 2, none⟩ = some (.int .i64 v.t.streams) := hc 2 _ rfl
      have c3 : wr.cell? ⟨b, off + i * 4 + 3, none⟩ = some (.slice v.rx v.t.rules.length v.rc) := hc 3 _ rfl
      have h2 := (show Sat w wr [] from ⟨hb1, trivial⟩).alloc (.cells #[.int .i64 v.t.id, .slice v.kx v.t.key.length v.kc, .int .i64 v.t.streams, .slice v.rx v.t.rules.length v.rc] 28 (0, 0))
      have z1 : 0 ≤ (i : Int) ∧ (i : Int) < (n : Int) := by omega
      have hget := get_have R _ HTS.out HP.out v.t (List.mem_map_of_mem hmem) (hr.mono h2.below)
      have HVI := hid_ hvi
      clear hvi hc
      go_wp2_with fail
      refine hget.mono ?_
      rintro _ w2 ⟨kx, kc, rx, rc, rfl, hb2, hin⟩
      have h3 := (h2.under hb2).alloc (.cells #[.int .i64 v.t.id, .slice kx v.t.key.length kc, .int .i64 v.t.streams, .slice rx v.t.rules.length rc] 28 (0, 0))
      have hsame := ref_SameTenant v.t kx v.kx rx v.rx kc v.kc rc v.rc (hin.rd.mono ((Below.refl _ w2).alloc (Nat.le_refl _) _)) ((hv v hmem).mono h3.below)
      have e0 := h3.drop.cell 0 (v := .int .i64 v.t.id) rfl
      have e1 := h3.drop.cell 1 (v := .slice v.kx v.t.key.length v.kc) rfl
      have e2 := h3.drop.cell 2 (v := .int .i64 v.t.streams) rfl
      have e3 := h3.drop.cell 3 (v := .slice v.rx v.t.rules.length v.rc) rfl
      clear c0 c1 c2 c3 hget hin
      go_wp2_with fail
      refine hsame.mono ?_
      rintro _ w3 ⟨rfl, hb3⟩
      have h4 := h3.under hb3
      have f0 := h4.drop.cell 0 (v := .int .i64 v.t.id) rfl
      clear e0 e1 e2 e3 hsame
      by_cases hid2 : v.t.id = id
      · have qi : (v.t.id == id) = true := by simp [hid2]
        clear hid2
        go_wp2_with fail
        go_ret
        exact ⟨rfl, h4.below⟩
      · have qi : (v.t.id == id) = false := by simp [hid2]
        have HI := hid_ hid2
        clear hid2
        go_wp2_with fail
        go_roundg (n - (i + 1))
        case measure => omega
        case rel =>
          refine ⟨i + 1, by omega, by omega, by go_num, hid_ ?_, h4.below⟩
          intro y hy
          rw [List.take_add_one, HVI.out] at hy
          simp only [Option.toList, List.mem_append, List.mem_singleton] at hy
          rcases hy with hy | rfl
          · exact hno.out y hy
          · exact HI.out
    · obtain rfl : i = n := by omega
      have hno2 : ∀ t ∈ ms.map (·.t), t.id ≠ id := by
        intro t ht
        obtain ⟨v, hv2, rfl⟩ := List.mem_map.1 ht
        have := hno.out
        rw [List.take_of_length_le (by rw [HN.out]; exact Nat.le_refl _)] at this
        exact this v hv2
      have hget := get_havent R _ HTS.out id hno2 (hr.mono hb1)
      clear hno2
      go_wp2_with fail
      refine hget.mono ?_
      rintro _ w2 ⟨rfl, hb2⟩
      have h3 := (show Sat w w2 [] from ⟨hb1.trans (hb2.mono hb1.size), trivial⟩).alloc (.cells #[.int .i64 0, .slice none 0 0, .int .i64 0, .slice none 0 0] 28 (0, 0))
      have hsame := ref_SameTenant (w := w2.alloc (.cells #[.int .i64 0, .slice none 0 0, .int .i64 0, .slice none 0 0] 28 (0, 0))) ⟨0, [], 0, []⟩ none none none none 0 0 0 0 ⟨RdB.nil _, rdRus_nil⟩ ⟨RdB.nil _, rdRus_nil⟩
      simp only [List.length_nil] at hsame
      clear hget
      go_wp2_with fail
      refine hsame.mono ?_
      rintro _ w3 ⟨rfl, hb3⟩
      go_wp2_with fail
      go_ret
      exact ⟨rfl, (h3.under hb3).below⟩
end
end Go.Proofs.Ytahnjbbjfjlpoaa
