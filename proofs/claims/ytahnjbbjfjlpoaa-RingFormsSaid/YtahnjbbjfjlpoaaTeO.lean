/- The document's Ring, walked. -/
import Derived.Deep.RegionLaw
import Derived.Test.YtahnjbbjfjlpoaaTeN
namespace Go.Proofs.Ytahnjbbjfjlpoaa
open Go Go.RowKit Go.Shelf
set_option linter.unusedVariables false
set_option linter.unusedSimpArgs false

theorem ins_perm (ms : List TenV) (v : TenV) (k : Nat) : (ms.take k ++ [v] ++ ms.drop k).Perm (ms ++ [v]) := by
  have h1 : (ms.take k ++ [v] ++ ms.drop k).Perm (ms.take k ++ ms.drop k ++ [v]) := by
    rw [List.append_assoc, List.append_assoc]
    exact List.Perm.append_left _ List.perm_append_comm
  rwa [List.take_append_drop] at h1
theorem ins_gt {ms : List TenV} {v : TenV} {k : Nat} (hp : ms.Pairwise (fun x y => x.t.id < y.t.id)) (hne : ∀ x ∈ ms, x.t.id ≠ v.t.id) (h : ms.length ≤ k ∨ ∃ p, ms[k]? = some p ∧ v.t.id ≤ p.t.id) : ∀ x ∈ ms.drop k, v.t.id < x.t.id := by
  intro x hx
  rcases h with h | ⟨p, hk, hle⟩
  · rw [List.drop_of_length_le h] at hx
    cases hx
  · obtain ⟨j, hj, rfl⟩ := List.getElem_of_mem hx
    rw [List.length_drop] at hj
    rw [List.getElem_drop]
    obtain ⟨hkl, hk⟩ := List.getElem?_eq_some_iff.1 hk
    have h0 := hne p (hk ▸ List.getElem_mem hkl)
    rcases Nat.eq_zero_or_pos j with rfl | hj0
    · simp only [Nat.add_zero, hk]
      omega
    · rw [List.pairwise_iff_getElem] at hp
      have h2 := hp k (k + j) hkl (by omega) (by omega)
      rw [hk] at h2
      omega
theorem ins_pw {ms : List TenV} {v : TenV} {k : Nat} (hp : ms.Pairwise (fun x y => x.t.id < y.t.id)) (h1 : ∀ x ∈ ms.take k, x.t.id < v.t.id) (h2 : ∀ x ∈ ms.drop k, v.t.id < x.t.id) : (ms.take k ++ [v] ++ ms.drop k).Pairwise (fun x y => x.t.id < y.t.id) := by
  refine List.pairwise_append.2 ⟨List.pairwise_append.2 ⟨hp.take, List.pairwise_singleton _ _, fun x hx y hy => ?_⟩, hp.drop, fun x hx y hy => ?_⟩
  · rw [List.mem_singleton.1 hy]
    exact h1 x hx
  · rcases List.mem_append.1 hx with hx | hx
    · have := h1 x hx
      have := h2 y hy
      omega
    · rw [List.mem_singleton.1 hx]
      exact h2 y hy
theorem pw_ok {ms vs : List TenV} (hp : ms.Perm vs) (hs : ms.Pairwise (fun x y => x.t.id < y.t.id)) (h16 : vs.length ≤ 16) (hm : ∀ v ∈ vs, v.t.may = true) : okT (vs.map (·.t)) := by
  refine ⟨by rw [List.length_map]; exact h16, fun t ht => ?_, ?_⟩
  · obtain ⟨v, hv, rfl⟩ := List.mem_map.1 ht
    exact hm v hv
  · rw [List.map_map]
    refine (hp.map _).nodup_iff.1 ?_
    unfold List.Nodup
    rw [List.pairwise_map]
    exact hs.imp (fun {a b} h => by simp only [Function.comp]; omega)
/-- What the document's Ring answers. -/
def RefRingOk (w : World) (vs : List TenV) (e : Ending) (w' : World) : Prop := Below w.heap.size w w' ∧
  ((¬ okT (vs.map (·.t)) ∧ e = .returned (.tuple #[.slice none 0 0, .int .i64 1])) ∨
   (okT (vs.map (·.t)) ∧ ∃ (a : Option Addr) (c : Nat) (ms : List TenV), e = .returned (.tuple #[.slice a vs.length c, .int .i64 0]) ∧ RowT w' a c ms ∧ ms.Perm vs ∧ ms.Pairwise (fun x y => x.t.id < y.t.id)))
section
variable {w0 w : World} {L : List Assn}
theorem Sat.d1 {A B C D : Assn} (h : Sat w0 w [A, B, C, D]) : Sat w0 w [A] := h.d2.d2.d2
theorem RowT.empty (w : World) (ad : Addr) : RowT w (some ad) 0 [] := ⟨Nat.le_refl _, (fun e => nomatch e), Nat.zero_le _, fun i v h => by simp at h⟩
/-- A row, cut before and behind its k-th: whatever the addresses are. -/
theorem row_cuts {a : Option Addr} {c j k : Nat} {ms : List TenV} (hl : ms.length = j) (hk : k ≤ j) (hr : RowT w a c ms) :
    ∃ V1 V3, (∀ W : World, (Instr.slice 22 (.slice a j c) none (some (.int .i64 (k : Int))) none).run Try.prog W = .ok V1 W) ∧
      (∀ W : World, (Instr.slice 22 (.slice a j c) (some (.int .i64 (k : Int))) none none).run Try.prog W = .ok V3 W) ∧
      (∀ W : World, RowT W a c ms → Src Try.prog 4 22 V1 k (flatT (ms.take k)) W) ∧
      (∀ W : World, RowT W a c ms → Src Try.prog 4 22 V3 (j - k) (flatT (ms.drop k)) W) := by
  have hle := hr.le
  have e : Try.prog.elem 22 = 28 := rfl
  have hs : ∀ W : World, (sizeOf 28).run Try.prog W = .ok 4 W := fun W => by kernel_rfl
  refine ⟨sliced a 0 k c 4, sliced a k j c 4, fun W => ?_, fun W => ?_, fun W h => ?_, fun W h => ?_⟩
  · rw [run_slice_h (P := Try.prog) (w := W) (t := 22) (ht := Try.underlying22) (h0 := by omega) (h2 := by omega), e, hs]
    simp only [Result.andThen_ok, Int.toNat_natCast]
  · rw [run_slice_l (P := Try.prog) (w := W) (t := 22) (ht := Try.underlying22) (h0 := by omega) (h1 := by omega), e, hs]
    simp only [Result.andThen_ok, Int.toNat_natCast]
  · have h1 := (RowT.cutTo h (k := k) (by omega)).src
    rw [List.length_take, Nat.min_eq_left (by omega)] at h1
    unfold sliced
    rw [Nat.sub_zero, Nat.sub_zero]
    have : (if c = 0 then a else a.map (·.add (0 * 4))) = a := by
      split
      · rfl
      · cases a with
        | none => rfl
        | some ad => rw [Option.map_some, Nat.zero_mul]; first | rfl | (cases ad; simp [Addr.add]) | (cases ad; rfl)
    rw [this]
    exact h1
  · unfold sliced
    by_cases hc : c = k
    · obtain rfl : k = j := by omega
      rw [if_pos hc, Nat.sub_self, show ms.drop k = [] from List.drop_of_length_le (by omega), hc, Nat.sub_self]
      cases a with
      | none => exact Src.ofNil W Try.underlying22 0
      | some ad => exact (RowT.empty W ad).src
    · rw [if_neg hc]
      cases a with
      | none =>
        have := h.nil rfl
        omega
      | some ad =>
        rcases Nat.eq_zero_or_pos ms.length with h0 | h0
        · obtain rfl : k = j := by omega
          rw [Nat.sub_self, show ms.drop k = [] from List.drop_of_length_le (by omega)]
          have h1 := (⟨Nat.zero_le _, (fun e => nomatch e), (by have := hr.cap; omega), fun i v h => by simp at h⟩ : RowT W (some (ad.add (k * 4))) (c - k) [])
          exact h1.src
        · obtain ⟨b, off, he, _, _⟩ := h.at_ 0 ms[0] (List.getElem?_eq_getElem h0)
          injection he with he
          subst he
          have h1 := (RowT.cutFrom h (k := k) (by omega)).src
          rw [List.length_drop, hl] at h1
          rw [Option.map_some, addr_add]
          exact h1
theorem ref_MayV {v : TenV} {b : Bool} (hm : Hid (v.t.may = b)) (hv : v.rd w) : Calls Try.prog 10 #[.agg #[.int .i64 v.t.id, .slice v.kx v.t.key.length v.kc, .int .i64 v.t.streams, .slice v.rx v.t.rules.length v.rc]] w fun e w' => e = .returned (.bool b) ∧ Below w.heap.size w w' := by
  rw [← hm.out]
  exact ref_MayTenant v hv
set_option maxRecDepth 100000 in
set_option maxHeartbeats 16000000 in
theorem ref_Ring (la : Option Addr) (cap : Nat) (vs : List TenV) (hr : RowT w la cap vs) (hv : ∀ v ∈ vs, v.rd w) : Calls Try.prog 12 #[.slice la vs.length cap] w (RefRingOk w vs) := by
  have hcap := hr.cap
  have hle := hr.le
  unfold maxLen at hcap
  obtain ⟨n, hn⟩ : ∃ n, vs.length = n := ⟨_, rfl⟩
  have HN := hid_ hn
  rw [hn] at hle ⊢
  by_cases h16 : 16 < n
  · have E := hid_ (show ¬ okT (vs.map (·.t)) by rintro ⟨h, _⟩; rw [List.length_map] at h; omega)
    have q : decide ((16 : Int) < (n : Int)) = true := by simp; omega
    clear hn
    go_enter Try.func12, Try.ntmps12
    go_wp2_with fail
    go_ret2
    exact ⟨Below.refl _ _, .inl ⟨E.out, rfl⟩⟩
  have q : decide ((16 : Int) < (n : Int)) = false := by simp; omega
  have H16 := hid_ h16
  have s0 : Sat w w [OwnS 28 4 (.slice none 0 0) 0 (flatT [])] := OwnS.nilI (Sat.refl w)
  clear hn h16
  go_enter Try.func12, Try.ntmps12
  go_wp2_with fail
  go_loopg [4, 5, 6, 8, 9, 15] n (fun gg v4 _ _ _ _ v15 wr => ∃ (i : Nat) (a : Option Addr) (c : Nat) (ms : List TenV), i ≤ n ∧ n - i ≤ gg ∧ v15 = .int .i64 i ∧ v4 = .slice a i c ∧ Hid (ms.length = i) ∧ Hid (ms.Perm (vs.take i)) ∧ Hid (ms.Pairwise (fun x y => x.t.id < y.t.id)) ∧ Hid (∀ v ∈ vs.take i, v.t.may = true) ∧
    Sat w wr [OwnS 28 4 (.slice a i c) i (flatT ms)])
  case atStart => exact ⟨0, none, 0, [], Nat.zero_le _, by omega, rfl, rfl, hid_ rfl, hid_ (by simp), hid_ List.Pairwise.nil, hid_ (by simp), s0⟩
  case round =>
    obtain ⟨i, a, c, ms, hi, hgg, rfl, rfl, hml, hpm, hpw, hmay, h1⟩ := hrel
    obtain ⟨w1, rfl⟩ : ∃ w1, w1 = wr := ⟨wr, rfl⟩
    clear s0 q
    by_cases hlt : i < n
    · obtain ⟨v, hvi⟩ : ∃ v, vs[i]? = some v := ⟨_, List.getElem?_eq_getElem (by rw [HN.out]; exact hlt)⟩
      have hmem : v ∈ vs := List.mem_of_getElem? hvi
      obtain ⟨b, off, rfl, hbl, hc⟩ := (hr.mono h1.below).at_ i v hvi
      have c0 : w1.cell? ⟨b, off + i * 4, none⟩ = some (.int .i64 v.t.id) := hc 0 _ rfl
      have c1 : w1.cell? ⟨b, off + i * 4 + 1, none⟩ = some (.slice v.kx v.t.key.length v.kc) := hc 1 _ rfl
      have c2 : w1.cell? ⟨b, off + i * 4 + 2, none⟩ = some (.int .i64 v.t.streams) := hc 2 _ rfl
      have c3 : w1.cell? ⟨b, off + i * 4 + 3, none⟩ = some (.slice v.rx v.t.rules.length v.rc) := hc 3 _ rfl
      have h2 := h1.alloc (.cells #[.int .i64 v.t.id, .slice v.kx v.t.key.length v.kc, .int .i64 v.t.streams, .slice v.rx v.t.rules.length v.rc] 28 (0, 0))
      have z1 : 0 ≤ (i : Int) ∧ (i : Int) < (n : Int) := by omega
      have HVI := hid_ hvi
      clear hvi hc
      have hcall := fun b (hm : Hid (v.t.may = b)) => ref_MayV hm ((hv v hmem).mono h2.below)
      cases hm : v.t.may
      · have hcall := hcall _ (hid_ hm)
        have E := hid_ (show ¬ okT (vs.map (·.t)) by rintro ⟨_, h, _⟩; have := h _ (List.mem_map_of_mem hmem); rw [hm] at this; cases this)
        clear hm
        go_wp2_with fail
        refine hcall.mono ?_
        rintro _ w2 ⟨rfl, hb2⟩
        go_wp2_with fail
        go_ret2
        exact ⟨(h2.under hb2).below, .inl ⟨E.out, rfl⟩⟩
      have hcall := hcall _ (hid_ hm)
      have HM := hid_ hm
      clear hm
      have z2 : 0 ≤ (i : Int) ∧ (i : Int) ≤ (n : Int) ∧ (i : Int) ≤ (cap : Int) := by omega
      go_wp2_with fail
      refine hcall.mono ?_
      rintro _ w2 ⟨rfl, hb2⟩
      go_wp2_with fail
      have h3 := (h2.under hb2).swap
      clear c0 c1 c2 c3 hcall h1 h2 hb2
      go_loopg [8, 27] i (fun gg _ v27 wr => ∃ j : Nat, j ≤ i ∧ i - j ≤ gg ∧ v27 = .int .i64 j ∧ Hid (∀ x ∈ vs.take j, x.t.id ≠ v.t.id) ∧
        Sat w wr [OwnS 28 4 (.slice a i c) i (flatT ms), Blk w1.heap.size (.cells #[.int .i64 v.t.id, .slice v.kx v.t.key.length v.kc, .int .i64 v.t.streams, .slice v.rx v.t.rules.length v.rc] 28 (0, 0))])
      case atStart => exact ⟨0, Nat.zero_le _, by omega, rfl, hid_ (by simp), h3⟩
      case round =>
        obtain ⟨j, hj, hgj, rfl, hno, h4⟩ := hrel
        clear h3
        by_cases hjl : j < i
        · obtain ⟨x, hxj⟩ : ∃ x, vs[j]? = some x := ⟨_, List.getElem?_eq_getElem (by rw [HN.out]; omega)⟩
          obtain ⟨b', off', he, _, hc⟩ := (hr.mono h4.below).at_ j x hxj
          injection he with he
          injection he with e1 e2 _
          subst e1 e2
          have c0 : wr.cell? ⟨b, off + j * 4, none⟩ = some (.int .i64 x.t.id) := hc 0 _ rfl
          have c1 : wr.cell? ⟨b, off + j * 4 + 1, none⟩ = some (.slice x.kx x.t.key.length x.kc) := hc 1 _ rfl
          have c2 : wr.cell? ⟨b, off + j * 4 + 2, none⟩ = some (.int .i64 x.t.streams) := hc 2 _ rfl
          have c3 : wr.cell? ⟨b, off + j * 4 + 3, none⟩ = some (.slice x.rx x.t.rules.length x.rc) := hc 3 _ rfl
          have h5 := h4.alloc (.cells #[.int .i64 x.t.id, .slice x.kx x.t.key.length x.kc, .int .i64 x.t.streams, .slice x.rx x.t.rules.length x.rc] 28 (0, 0))
          have d0 := (Sat.front [_, _] h5).cell 0 (v := .int .i64 v.t.id) rfl
          have z3 : 0 ≤ (j : Int) ∧ (j : Int) < (i : Int) := by omega
          have HXJ := hid_ hxj
          clear hc hxj
          by_cases hid2 : x.t.id = v.t.id
          · have qi : (x.t.id == v.t.id) = true := by simp [hid2]
            have HI := hid_ hid2
            clear hid2
            go_wp2_with fail
            go_ret2
            exact ⟨h5.below, .inl ⟨not_ok (List.Perm.refl _) HXJ.out HVI.out hjl HI.out, rfl⟩⟩
          · have qi : (x.t.id == v.t.id) = false := by simp [hid2]
            have HI := hid_ hid2
            clear hid2
            go_wp2_with fail
            go_roundg (i - (j + 1))
            case measure => omega
            case rel =>
              refine ⟨j + 1, by omega, by omega, by go_num, hid_ ?_, h5.drop⟩
              intro y hy
              rw [List.take_add_one, HXJ.out] at hy
              simp only [Option.toList, List.mem_append, List.mem_singleton] at hy
              rcases hy with hy | rfl
              · exact hno.out y hy
              · exact HI.out
        obtain rfl : j = i := by omega
        go_wp2_with fail
        go_loopg [9] j (fun gg v9 wr => ∃ k : Nat, k ≤ j ∧ j - k ≤ gg ∧ v9 = .int .i64 k ∧ Hid (∀ x ∈ ms.take k, x.t.id < v.t.id) ∧
          Sat w wr [OwnS 28 4 (.slice a j c) j (flatT ms), Blk w1.heap.size (.cells #[.int .i64 v.t.id, .slice v.kx v.t.key.length v.kc, .int .i64 v.t.streams, .slice v.rx v.t.rules.length v.rc] 28 (0, 0))])
        case atStart => exact ⟨0, Nat.zero_le _, by omega, rfl, hid_ (by simp), h4⟩
        case round =>
          obtain ⟨k, hk, hgk, rfl, hlow, h6⟩ := hrel
          clear h4
          obtain ⟨V1, V3, hV1, hV3, hT, hD⟩ := row_cuts (k := k) hml.out hk (OwnS.rowT h6 hml.out)
          by_cases hgo : ∃ p, ms[k]? = some p ∧ p.t.id < v.t.id
          · obtain ⟨p, hp, hpl⟩ := hgo
            have hkj : k < j := by rw [← hml.out]; exact (List.getElem?_eq_some_iff.1 hp).1
            obtain ⟨g, o, rfl, _, hc⟩ := (OwnS.rowT h6 hml.out).at_ k p hp
            have c0 : wr.cell? ⟨g, o + k * 4, none⟩ = some (.int .i64 p.t.id) := hc 0 _ rfl
            have d0 := (Sat.swap h6).cell 0 (v := .int .i64 v.t.id) rfl
            have q1 : decide (k < j) = true := by simp; omega
            have q1' : decide ((k : Int) < (j : Int)) = true := by simp; omega
            have q2 : decide (p.t.id < v.t.id) = true := by simp; omega
            have z5 : 0 ≤ (k : Int) ∧ (k : Int) < (j : Int) := by omega
            have HP := hid_ hp
            have HPL := hid_ hpl
            clear hc hp hpl hV1 hV3 hT hD
            go_upto_region 16 with fail
            go_quiet (fail)
            go_wp2_with fail
            go_roundg (j - (k + 1))
            case measure => omega
            case rel =>
              refine ⟨k + 1, by omega, by omega, by go_num, hid_ ?_, h6.drewN _⟩
              intro y hy
              rw [List.take_add_one, HP.out] at hy
              simp only [Option.toList, List.mem_append, List.mem_singleton] at hy
              rcases hy with hy | rfl
              · exact hlow.out y hy
              · exact HPL.out
          by_cases hkj2 : k < j
          · obtain ⟨p, hp⟩ : ∃ p, ms[k]? = some p := ⟨_, List.getElem?_eq_getElem (by rw [hml.out]; exact hkj2)⟩
            have hpl : v.t.id ≤ p.t.id := by
              have : ¬ p.t.id < v.t.id := fun h => hgo ⟨p, hp, h⟩
              omega
            have HGT := hid_ (ins_gt (k := k) hpw.out (fun x hx => hno.out x (hpm.out.mem_iff.1 hx)) (.inr ⟨p, hp, hpl⟩))
            obtain ⟨g, o, rfl, _, hc⟩ := (OwnS.rowT h6 hml.out).at_ k p hp
            have c0 : wr.cell? ⟨g, o + k * 4, none⟩ = some (.int .i64 p.t.id) := hc 0 _ rfl
            have d0 := (Sat.swap h6).cell 0 (v := .int .i64 v.t.id) rfl
            have q1 : decide (k < j) = true := by simp; omega
            have q1' : decide ((k : Int) < (j : Int)) = true := by simp; omega
            have q2 : decide (p.t.id < v.t.id) = false := by simp; omega
            have z5 : 0 ≤ (k : Int) ∧ (k : Int) < (j : Int) := by omega
            clear hc hp hpl hgo
            go_upto_region 16 with fail
            go_quiet (fail)
            go_upto_region 18 with fail
            obtain ⟨w2, hw2⟩ : ∃ w2, wr.drewN nq = w2 := ⟨_, rfl⟩
            have h7 := h6.drewN nq
            rw [hw2] at h7 ⊢
            have hA : Sat w w2.drew (OwnS 28 4 (.slice none 0 0) 0 (flatT []) :: [OwnS 28 4 (.slice (some ⟨g, o, none⟩) j c) j (flatT ms), Blk w1.heap.size (.cells #[.int .i64 v.t.id, .slice v.kx v.t.key.length v.kc, .int .i64 v.t.streams, .slice v.rx v.t.rules.length v.rc] 28 (0, 0))]) := OwnS.nilI h7.drew
            have hB : Sat w (w2.alloc (.cells #[.int .i64 v.t.id, .slice v.kx v.t.key.length v.kc, .int .i64 v.t.streams, .slice v.rx v.t.rules.length v.rc] 28 (0, 0))).drew (OwnS 28 4 (.slice none 0 0) 0 (flatT []) :: [Blk w2.heap.size (.cells #[.int .i64 v.t.id, .slice v.kx v.t.key.length v.kc, .int .i64 v.t.streams, .slice v.rx v.t.rules.length v.rc] 28 (0, 0)), OwnS 28 4 (.slice (some ⟨g, o, none⟩) j c) j (flatT ms), Blk w1.heap.size (.cells #[.int .i64 v.t.id, .slice v.kx v.t.key.length v.kc, .int .i64 v.t.streams, .slice v.rx v.t.rules.length v.rc] 28 (0, 0))]) := OwnS.nilI (h7.alloc (.cells #[.int .i64 v.t.id, .slice v.kx v.t.key.length v.kc, .int .i64 v.t.streams, .slice v.rx v.t.rules.length v.rc] 28 (0, 0))).drew
            have hTA : Src Try.prog 4 22 V1 k (flatT (ms.take k)) w2.drew := hT _ (OwnS.rowT hA.swap hml.out)
            have hTB : Src Try.prog 4 22 V1 k (flatT (ms.take k)) (w2.alloc (.cells #[.int .i64 v.t.id, .slice v.kx v.t.key.length v.kc, .int .i64 v.t.streams, .slice v.rx v.t.rules.length v.rc] 28 (0, 0))).drew := hT _ (OwnS.rowT (Sat.front [_, _] hB) hml.out)
            have b0 := (Sat.swap h7).cell 0 (v := .int .i64 v.t.id) rfl
            have b1 := (Sat.swap h7).cell 1 (v := .slice v.kx v.t.key.length v.kc) rfl
            have b2 := (Sat.swap h7).cell 2 (v := .int .i64 v.t.streams) rfl
            have b3 := (Sat.swap h7).cell 3 (v := .slice v.rx v.t.rules.length v.rc) rfl
            have hD2 := fun (W : World) (U : Assn) (nb : Nat) (h : Sat w W [U, Blk nb (.cells #[.int .i64 v.t.id, .slice v.kx v.t.key.length v.kc, .int .i64 v.t.streams, .slice v.rx v.t.rules.length v.rc] 28 (0, 0)), OwnS 28 4 (.slice (some ⟨g, o, none⟩) j c) j (flatT ms), Blk w1.heap.size (.cells #[.int .i64 v.t.id, .slice v.kx v.t.key.length v.kc, .int .i64 v.t.streams, .slice v.rx v.t.rules.length v.rc] 28 (0, 0))]) => hD W (OwnS.rowT (Sat.front [_, _] h) hml.out)
            have ef : flatT [v] = v.c := by simp [flatT]
            have hj16 : j < 17 := by have := H16.out; omega
            have qj : k + 1 + (j - k) = j + 1 := by omega
            clear hw2 hT hD
            go_region_law (first
              | (refine step_append_row (w0 := w) (v := .slice none 0 0) (us := []) (xs := ms.take k) (r := ms.take k) (n := 0) (m := k) (q := k) rfl _ _ rfl rfl hA rfl hTA (by omega) (by simp) (by omega) ?_; intro a5 c5 w5 h5; have b0' := (Sat.front [_, _] h5).cell 0 (v := .int .i64 v.t.id) rfl; have b1' := (Sat.front [_, _] h5).cell 1 (v := .slice v.kx v.t.key.length v.kc) rfl; have b2' := (Sat.front [_, _] h5).cell 2 (v := .int .i64 v.t.streams) rfl; have b3' := (Sat.front [_, _] h5).cell 3 (v := .slice v.rx v.t.rules.length v.rc) rfl; have h5z := h5.alloc (.cells #[.int .i64 v.t.id, .slice v.kx v.t.key.length v.kc, .int .i64 v.t.streams, .slice v.rx v.t.rules.length v.rc] 28 (0, 0)))
              | (refine step_append_row (w0 := w) (v := .slice none 0 0) (us := []) (xs := ms.take k) (r := ms.take k) (n := 0) (m := k) (q := k) rfl _ _ rfl rfl hB rfl hTB (by omega) (by simp) (by omega) ?_; intro a5 c5 w5 h5)
              | (refine step_append_row (w0 := w) (v := .slice a5 k c5) (us := ms.take k) (xs := [v]) (r := ms.take k ++ [v]) (n := k) (m := 1) (q := k + 1) rfl _ _ rfl rfl h5z.swap rfl (by rw [ef]; exact src_blk Try.underlying22 (Sat.blk h5z).1 rfl v.c_one) (by omega) rfl (by omega) ?_; intro a6 c6 w6 h6')
              | (refine step_append_row (w0 := w) (v := .slice a5 k c5) (us := ms.take k) (xs := [v]) (r := ms.take k ++ [v]) (n := k) (m := 1) (q := k + 1) rfl _ _ rfl rfl h5 rfl (by rw [ef]; exact src_blk Try.underlying22 (Sat.blk h5.swap).1 rfl v.c_one) (by omega) rfl (by omega) ?_; intro a6 c6 w6 h6')
              | (refine step_append_row (w0 := w) (v := .slice a6 (k + 1) c6) (us := ms.take k ++ [v]) (xs := ms.drop k) (r := ms.take k ++ [v] ++ ms.drop k) (n := k + 1) (m := j - k) (q := j + 1) rfl _ _ rfl rfl h6' rfl (hD2 _ _ _ h6') (by omega) rfl (by omega) ?_; intro a7 c7 w7 h7'))
            all_goals
              go_wp2_with fail
              go_roundg (n - (j + 1))
              case measure => omega
              case rel =>
                refine ⟨j + 1, a7, c7, ms.take k ++ [v] ++ ms.drop k, by omega, by omega, by go_num, rfl, hid_ ?_, hid_ ?_, hid_ (ins_pw hpw.out hlow.out HGT.out), hid_ ?_, Sat.d1 h7'⟩
                · rw [(ins_perm ms v k).length_eq, List.length_append, hml.out]; rfl
                · rw [List.take_add_one, HVI.out]
                  exact (ins_perm ms v k).trans (hpm.out.append_right _)
                · intro y hy
                  rw [List.take_add_one, HVI.out] at hy
                  simp only [Option.toList, List.mem_append, List.mem_singleton] at hy
                  rcases hy with hy | rfl
                  · exact hmay.out y hy
                  · exact HM.out
          · have HGT := hid_ (ins_gt (k := k) hpw.out (fun x hx => hno.out x (hpm.out.mem_iff.1 hx)) (.inl (by rw [hml.out]; omega)))
            have q1 : decide (k < j) = false := by simp; omega
            have q1' : decide ((k : Int) < (j : Int)) = false := by simp; omega
            clear hgo
            go_upto_region 16 with fail
            go_quiet (fail)
            go_upto_region 18 with fail
            obtain ⟨w2, hw2⟩ : ∃ w2, wr.drewN nq = w2 := ⟨_, rfl⟩
            have h7 := h6.drewN nq
            rw [hw2] at h7 ⊢
            have hA : Sat w w2.drew (OwnS 28 4 (.slice none 0 0) 0 (flatT []) :: [OwnS 28 4 (.slice a j c) j (flatT ms), Blk w1.heap.size (.cells #[.int .i64 v.t.id, .slice v.kx v.t.key.length v.kc, .int .i64 v.t.streams, .slice v.rx v.t.rules.length v.rc] 28 (0, 0))]) := OwnS.nilI h7.drew
            have hB : Sat w (w2.alloc (.cells #[.int .i64 v.t.id, .slice v.kx v.t.key.length v.kc, .int .i64 v.t.streams, .slice v.rx v.t.rules.length v.rc] 28 (0, 0))).drew (OwnS 28 4 (.slice none 0 0) 0 (flatT []) :: [Blk w2.heap.size (.cells #[.int .i64 v.t.id, .slice v.kx v.t.key.length v.kc, .int .i64 v.t.streams, .slice v.rx v.t.rules.length v.rc] 28 (0, 0)), OwnS 28 4 (.slice a j c) j (flatT ms), Blk w1.heap.size (.cells #[.int .i64 v.t.id, .slice v.kx v.t.key.length v.kc, .int .i64 v.t.streams, .slice v.rx v.t.rules.length v.rc] 28 (0, 0))]) := OwnS.nilI (h7.alloc (.cells #[.int .i64 v.t.id, .slice v.kx v.t.key.length v.kc, .int .i64 v.t.streams, .slice v.rx v.t.rules.length v.rc] 28 (0, 0))).drew
            have hTA : Src Try.prog 4 22 V1 k (flatT (ms.take k)) w2.drew := hT _ (OwnS.rowT hA.swap hml.out)
            have hTB : Src Try.prog 4 22 V1 k (flatT (ms.take k)) (w2.alloc (.cells #[.int .i64 v.t.id, .slice v.kx v.t.key.length v.kc, .int .i64 v.t.streams, .slice v.rx v.t.rules.length v.rc] 28 (0, 0))).drew := hT _ (OwnS.rowT (Sat.front [_, _] hB) hml.out)
            have b0 := (Sat.swap h7).cell 0 (v := .int .i64 v.t.id) rfl
            have b1 := (Sat.swap h7).cell 1 (v := .slice v.kx v.t.key.length v.kc) rfl
            have b2 := (Sat.swap h7).cell 2 (v := .int .i64 v.t.streams) rfl
            have b3 := (Sat.swap h7).cell 3 (v := .slice v.rx v.t.rules.length v.rc) rfl
            have hD2 := fun (W : World) (U : Assn) (nb : Nat) (h : Sat w W [U, Blk nb (.cells #[.int .i64 v.t.id, .slice v.kx v.t.key.length v.kc, .int .i64 v.t.streams, .slice v.rx v.t.rules.length v.rc] 28 (0, 0)), OwnS 28 4 (.slice a j c) j (flatT ms), Blk w1.heap.size (.cells #[.int .i64 v.t.id, .slice v.kx v.t.key.length v.kc, .int .i64 v.t.streams, .slice v.rx v.t.rules.length v.rc] 28 (0, 0))]) => hD W (OwnS.rowT (Sat.front [_, _] h) hml.out)
            have ef : flatT [v] = v.c := by simp [flatT]
            have hj16 : j < 17 := by have := H16.out; omega
            have qj : k + 1 + (j - k) = j + 1 := by omega
            clear hw2 hT hD
            go_region_law (first
              | (refine step_append_row (w0 := w) (v := .slice none 0 0) (us := []) (xs := ms.take k) (r := ms.take k) (n := 0) (m := k) (q := k) rfl _ _ rfl rfl hA rfl hTA (by omega) (by simp) (by omega) ?_; intro a5 c5 w5 h5; have b0' := (Sat.front [_, _] h5).cell 0 (v := .int .i64 v.t.id) rfl; have b1' := (Sat.front [_, _] h5).cell 1 (v := .slice v.kx v.t.key.length v.kc) rfl; have b2' := (Sat.front [_, _] h5).cell 2 (v := .int .i64 v.t.streams) rfl; have b3' := (Sat.front [_, _] h5).cell 3 (v := .slice v.rx v.t.rules.length v.rc) rfl; have h5z := h5.alloc (.cells #[.int .i64 v.t.id, .slice v.kx v.t.key.length v.kc, .int .i64 v.t.streams, .slice v.rx v.t.rules.length v.rc] 28 (0, 0)))
              | (refine step_append_row (w0 := w) (v := .slice none 0 0) (us := []) (xs := ms.take k) (r := ms.take k) (n := 0) (m := k) (q := k) rfl _ _ rfl rfl hB rfl hTB (by omega) (by simp) (by omega) ?_; intro a5 c5 w5 h5)
              | (refine step_append_row (w0 := w) (v := .slice a5 k c5) (us := ms.take k) (xs := [v]) (r := ms.take k ++ [v]) (n := k) (m := 1) (q := k + 1) rfl _ _ rfl rfl h5z.swap rfl (by rw [ef]; exact src_blk Try.underlying22 (Sat.blk h5z).1 rfl v.c_one) (by omega) rfl (by omega) ?_; intro a6 c6 w6 h6')
              | (refine step_append_row (w0 := w) (v := .slice a5 k c5) (us := ms.take k) (xs := [v]) (r := ms.take k ++ [v]) (n := k) (m := 1) (q := k + 1) rfl _ _ rfl rfl h5 rfl (by rw [ef]; exact src_blk Try.underlying22 (Sat.blk h5.swap).1 rfl v.c_one) (by omega) rfl (by omega) ?_; intro a6 c6 w6 h6')
              | (refine step_append_row (w0 := w) (v := .slice a6 (k + 1) c6) (us := ms.take k ++ [v]) (xs := ms.drop k) (r := ms.take k ++ [v] ++ ms.drop k) (n := k + 1) (m := j - k) (q := j + 1) rfl _ _ rfl rfl h6' rfl (hD2 _ _ _ h6') (by omega) rfl (by omega) ?_; intro a7 c7 w7 h7'))
            all_goals
              go_wp2_with fail
              go_roundg (n - (j + 1))
              case measure => omega
              case rel =>
                refine ⟨j + 1, a7, c7, ms.take k ++ [v] ++ ms.drop k, by omega, by omega, by go_num, rfl, hid_ ?_, hid_ ?_, hid_ (ins_pw hpw.out hlow.out HGT.out), hid_ ?_, Sat.d1 h7'⟩
                · rw [(ins_perm ms v k).length_eq, List.length_append, hml.out]; rfl
                · rw [List.take_add_one, HVI.out]
                  exact (ins_perm ms v k).trans (hpm.out.append_right _)
                · intro y hy
                  rw [List.take_add_one, HVI.out] at hy
                  simp only [Option.toList, List.mem_append, List.mem_singleton] at hy
                  rcases hy with hy | rfl
                  · exact hmay.out y hy
                  · exact HM.out
    · obtain rfl : i = n := by omega
      go_wp2_with fail
      go_ret2
      have hp := hpm.out
      rw [List.take_of_length_le (by rw [HN.out]; exact Nat.le_refl _)] at hp
      have hm := hmay.out
      rw [List.take_of_length_le (by rw [HN.out]; exact Nat.le_refl _)] at hm
      exact ⟨h1.below, .inr ⟨pw_ok hp hpw.out (by have := H16.out; rw [HN.out]; omega) hm, a, c, ms, by rw [HN.out]; rfl, OwnS.rowT h1 hml.out, hp, hpw.out⟩⟩
end
end Go.Proofs.Ytahnjbbjfjlpoaa
