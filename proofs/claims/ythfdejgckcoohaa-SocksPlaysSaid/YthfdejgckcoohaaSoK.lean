/- The law SocksAsks, walked. -/
import Derived.Deep.RegionHeld3
import Derived.Test.YthfdejgckcoohaaAdF
import Derived.Test.YthfdejgckcoohaaSoQ
namespace Go.Proofs.Ythfdejgckcoohaa
open Go Go.RowKit
set_option linter.unusedVariables false
set_option linter.unusedSimpArgs false

theorem SoM.run_on {n : Nat} {s t : SoM} (h : s.step = (true, t)) : SoM.run (n + 1) s = SoM.run n t := by
  show (if s.step.1 then _ else _) = _
  rw [h]
  rfl
theorem greet_few {s : SoM} (h0 : s.state = 0) (hw : s.wait = []) : s.step = (false, s) := by
  rw [SoM.step_of0 h0]
  unfold SoM.greet
  rw [hw, if_neg (by simp), if_neg (by simp)]
theorem SoM.step_of1 {s : SoM} (h : s.state = 1) : s.step = s.name := by unfold SoM.step; rw [if_neg (by omega), if_pos h]
theorem name_few {s : SoM} (h0 : s.state = 1) (hw : s.wait = []) : s.step = (false, s) := by
  rw [SoM.step_of1 h0]
  unfold SoM.name
  rw [hw]
  rfl
theorem ask_few {s : SoM} (h0 : s.state = 2) (hw : s.wait = []) : s.step = (false, s) := by
  rw [SoM.step_of2 h0]
  unfold SoM.ask
  rw [hw, if_neg (by simp), if_pos (by simp)]
theorem hello_greet (u q : ByteArray) : (SoM.fed u q [5, 2, 0, 2]).step = (true, ⟨u, q, if u.size = 0 then 2 else 1, [], AdM.zero, [5, if u.size = 0 then 0 else 2]⟩) := by
  rw [SoM.step_of0 rfl]
  unfold SoM.greet
  have em : (SoM.fed u q [5, 2, 0, 2]).method = if u.size = 0 then 0 else 2 := rfl
  have ew : (SoM.fed u q [5, 2, 0, 2]).wait = [5, 2, 0, 2] := rfl
  have eu : (SoM.fed u q [5, 2, 0, 2]).user = u := rfl
  rw [ew, em, eu, show bAt [5, 2, 0, 2] 0 = 5 from rfl, show bAt [5, 2, 0, 2] 1 = 2 from rfl, if_neg (by decide), if_pos (by decide), if_pos]
  · rfl
  · split <;> decide
theorem hello_plain0 {u q : ByteArray} (h : u.size = 0) : (SoM.fresh u q).feed [5, 2, 0, 2] = ⟨u, q, 2, [], AdM.zero, [5, 0]⟩ := by
  have h1 := hello_greet u q
  rw [if_pos h, if_pos h] at h1
  rw [fresh_fed, SoM.run_on h1, SoM.run_stop (ask_few rfl rfl)]
theorem hello_plain1 {u q : ByteArray} (h : u.size ≠ 0) : (SoM.fresh u q).feed [5, 2, 0, 2] = ⟨u, q, 1, [], AdM.zero, [5, 2]⟩ := by
  have h1 := hello_greet u q
  rw [if_neg h, if_neg h] at h1
  rw [fresh_fed, SoM.run_on h1, SoM.run_stop (name_few rfl rfl)]
theorem field_len {l r : List UInt8} (h : l.length ≤ 255) : fieldM (UInt8.ofNat l.length :: (l ++ r)) = some (l, 1 + l.length) := by
  have h1 : bAt (UInt8.ofNat l.length :: (l ++ r)) 0 = l.length := toNat_of (by omega)
  unfold fieldM
  rw [h1, if_neg (by simp; omega), List.drop_succ_cons, List.drop_zero, List.take_left]
def nameB (u q r : List UInt8) : List UInt8 := 1 :: UInt8.ofNat u.length :: (u ++ UInt8.ofNat q.length :: (q ++ r))
theorem nameB_len (u q r : List UInt8) : (nameB u q r).length = 3 + u.length + q.length + r.length := by unfold nameB; simp; omega
theorem name_step (u q : ByteArray) (p r k : List UInt8) (hu : u.size ≤ 255) (hp : p.length ≤ 255) (hl : p.length = q.size) :
    (⟨u, q, 1, nameB u.data.toList p r, AdM.zero, k⟩ : SoM).step = if p = q.data.toList then (true, ⟨u, q, 2, r, AdM.zero, k ++ [1, 0]⟩) else (false, ⟨u, q, 5, [], AdM.zero, k ++ [1, 1]⟩) := by
  have hul : u.data.toList.length = u.size := size_data u
  rw [SoM.step_of1 rfl]
  unfold SoM.name
  have e0 : bAt (nameB u.data.toList p r) 0 = 1 := rfl
  have el := nameB_len u.data.toList p r
  have d1 : (nameB u.data.toList p r).drop 1 = UInt8.ofNat u.data.toList.length :: (u.data.toList ++ UInt8.ofNat p.length :: (p ++ r)) := rfl
  have f1 := field_len (l := u.data.toList) (r := UInt8.ofNat p.length :: (p ++ r)) (by omega)
  have d2 : (nameB u.data.toList p r).drop (1 + (1 + u.data.toList.length)) = UInt8.ofNat p.length :: (p ++ r) := by
    rw [show 1 + (1 + u.data.toList.length) = u.data.toList.length + 1 + 1 by omega]
    unfold nameB
    rw [List.drop_succ_cons, List.drop_succ_cons, List.drop_left]
  have f2 := field_len (l := p) (r := r) hp
  have d3 : (nameB u.data.toList p r).drop (1 + (1 + u.data.toList.length) + (1 + p.length)) = r := by
    rw [← List.drop_drop, d2, show 1 + p.length = p.length + 1 by omega, List.drop_succ_cons, List.drop_left]
  rw [if_neg (by rw [el]; omega), e0, if_neg (by omega), d1, f1]
  simp only
  rw [d2, f2]
  simp only
  by_cases h : p = q.data.toList
  · rw [if_pos h, if_neg (by simp [h])]
    unfold SoM.goes
    simp only
    rw [d3]
  · rw [if_neg h, if_pos (.inr h)]
    rfl
theorem name_ok {u q : ByteArray} (k : List UInt8) (hu : u.size ≤ 255) (hq : q.size ≤ 255) : (⟨u, q, 1, [], AdM.zero, k⟩ : SoM).feed (nameB u.data.toList q.data.toList []) = ⟨u, q, 2, [], AdM.zero, [1, 0]⟩ := by
  have h := name_step u q q.data.toList [] [] hu (by rw [size_data]; exact hq) (size_data q)
  rw [if_pos rfl] at h
  show SoM.run 4 (⟨u, q, 1, nameB u.data.toList q.data.toList [], AdM.zero, []⟩ : SoM) = _
  rw [SoM.run_on h, SoM.run_stop (ask_few rfl rfl)]
  rfl
theorem name_bad {u q : ByteArray} {p : List UInt8} (r k : List UInt8) (hu : u.size ≤ 255) (hq : q.size ≤ 255) (hl : p.length = q.size) (hp : p ≠ q.data.toList) : (⟨u, q, 1, [], AdM.zero, k⟩ : SoM).feed (nameB u.data.toList p r) = ⟨u, q, 5, [], AdM.zero, [1, 1]⟩ := by
  have h := name_step u q p r [] hu (by omega) hl
  rw [if_neg hp] at h
  show SoM.run 4 (⟨u, q, 1, nameB u.data.toList p r, AdM.zero, []⟩ : SoM) = _
  rw [SoM.run_stop h]
  rfl
theorem ask_ok {u q : ByteArray} {a : AdM} (k m : List UInt8) (ha : a.may = true) (hm : m.length ≤ 4096) : (⟨u, q, 2, [], AdM.zero, k⟩ : SoM).feed (5 :: 1 :: 0 :: (a.enc ++ m)) = ⟨u, q, 3, m, a, []⟩ := by
  show SoM.run 4 (⟨u, q, 2, 5 :: 1 :: 0 :: (a.enc ++ m), AdM.zero, []⟩ : SoM) = _
  have h : (⟨u, q, 2, 5 :: 1 :: 0 :: (a.enc ++ m), AdM.zero, []⟩ : SoM).step = (true, ⟨u, q, 3, m, a, []⟩) := by
    rw [SoM.step_of2 rfl]
    unfold SoM.ask
    have e0 : bAt (5 :: 1 :: 0 :: (a.enc ++ m)) 0 = 5 := rfl
    have e1 : bAt (5 :: 1 :: 0 :: (a.enc ++ m)) 1 = 1 := rfl
    have e2 : bAt (5 :: 1 :: 0 :: (a.enc ++ m)) 2 = 0 := rfl
    have ed : (5 :: 1 :: 0 :: (a.enc ++ m)).drop 3 = a.enc ++ m := rfl
    have el : 3 ≤ (5 :: 1 :: 0 :: (a.enc ++ m)).length := by simp
    simp only [e0, e1, e2, ed, dec_enc ha]
    rw [if_neg (by omega), if_neg (by omega), if_neg (by omega), if_neg (by omega), if_neg (by decide), if_neg (by simp)]
    unfold SoM.goes
    simp only
    rw [show 3 + a.enc.length = a.enc.length + 1 + 1 + 1 by omega, List.drop_succ_cons, List.drop_succ_cons, List.drop_succ_cons, List.drop_left]
    rfl
  have h2 : (⟨u, q, 3, m, a, []⟩ : SoM).step = (false, ⟨u, q, 3, m, a, []⟩) := by
    unfold SoM.step
    rw [if_neg (by simp), if_neg (by simp), if_neg (by simp), if_pos rfl, if_neg (by simp; omega)]
  rw [SoM.run_on h, SoM.run_stop h2]
set_option maxRecDepth 100000 in
theorem xor1_bits : ∀ n : Fin 256, Go.bits .xor .u8 ((n.val : Nat) : Int) 1 = (((UInt8.ofNat n) ^^^ 1).toNat : Int) ∧ (UInt8.ofNat n) ^^^ 1 ≠ UInt8.ofNat n := by decide +kernel
theorem xor1 {x : UInt8} {y : Nat} (hy : x.toNat = y) : Go.bits .xor .u8 (y : Int) 1 = ((x ^^^ 1).toNat : Int) := by
  have h := (xor1_bits ⟨y, by rw [← hy]; exact x.toNat_lt⟩).1
  have e : UInt8.ofNat y = x := by rw [← hy]; simp
  simpa [e] using h
theorem xor1_ne (x : UInt8) : x ^^^ 1 ≠ x := by
  have h := (xor1_bits ⟨x.toNat, x.toNat_lt⟩).2
  simpa using h
/-- The last byte of a name turned. -/
theorem name_turn (u q : List UInt8) (x : UInt8) (hq : q.length ≠ 0) : (nameB u q []).set (u.length + q.length + 2) x = nameB u (q.set (q.length - 1) x) [] := by
  unfold nameB
  rw [List.append_nil, List.append_nil, List.length_set, show u.length + q.length + 2 = u.length + (q.length - 1 + 1) + 1 + 1 by omega, List.set_cons_succ, List.set_cons_succ, List.set_append_right _ _ (by omega), Nat.add_sub_cancel_left, List.set_cons_succ]
theorem name_app (u q r : List UInt8) : nameB u q [] ++ r = nameB u q r := by unfold nameB; simp
theorem set_ne {q : List UInt8} {x : UInt8} (hq : q.length ≠ 0) (hx : x ≠ q.getD (q.length - 1) 0) : q.set (q.length - 1) x ≠ q := by
  intro h
  apply hx
  have h2 : (q.set (q.length - 1) x).getD (q.length - 1) 0 = q.getD (q.length - 1) 0 := by rw [h]
  rw [← h2]
  have hl : q.length - 1 < q.length := by omega
  simp [List.getD, hl]
theorem sl_bytes (l : List UInt8) (k : Nat) (b : UInt8) (hk : k < l.length) : (bytesC l).take k ++ [Value.int .u8 b.toNat] ++ (bytesC l).drop (k + 1) = bytesC (l.set k b) := by
  rw [List.set_eq_take_append_cons_drop, if_pos hk]
  simp [bytesC, List.map_take, List.map_drop]
section
variable {w0 w w' : World} {L M : List Assn} {g : Nat} {s : SoM}
theorem SoS.drew (h : SoS w0 w L g s) : SoS w0 w.drew L g s := by
  obtain ⟨a, b, c, d, e, f, h⟩ := h
  exact ⟨a, b, c, d, e, f, h.drew⟩
theorem box4 {n : Nat} {a : AdM} {v : Value} (h : Sat w0 w (Blk n (.cells #[.int .i64 a.kind, v, .string a.name, .int .i64 a.port] 33 (0, 0)) :: L)) :
    w.cell? ⟨n, 0, none⟩ = some (.int .i64 a.kind) ∧ w.cell? ⟨n, 1, none⟩ = some v ∧ w.cell? ⟨n, 2, none⟩ = some (.string a.name) ∧ w.cell? ⟨n, 3, none⟩ = some (.int .i64 a.port) := ⟨h.cell 0 rfl, h.cell 1 rfl, h.cell 2 rfl, h.cell 3 rfl⟩
end
set_option maxRecDepth 100000 in
set_option maxHeartbeats 16000000 in
theorem socks_asks_law (v0 v1 v2 v3 v4 v5 : Value) (w : World) (h0 : IsStr w v0) (h1 : IsStr w v1) (h2 : IsAddr w v2) (h3 : IsInt w v3) (h4 : IsBytes w v4) (h5 : IsBool w v5) :
    Calls Try.prog 9 #[v0, v1, v2, v3, v4, v5] w fun e w' => e = .returned (.bool true) ∧ Below w.heap.size w w' := by
  obtain ⟨u, rfl, hu⟩ := h0
  obtain ⟨q, rfl, hq⟩ := h1
  obtain ⟨a, ax, ac, rfl, hra⟩ := h2
  obtain ⟨code, rfl, -⟩ := h3
  obtain ⟨more, hrm⟩ := h4
  obtain ⟨wrong, rfl⟩ := h5
  obtain ⟨am, cm, rfl, -, -, -⟩ := hrm.form
  have hCb := um_bd code (m := 9) (by omega) (by omega)
  obtain ⟨C, hC⟩ : ∃ C, wrap64 ((IntKind.u64.wrap code).tmod 9) = C := ⟨_, rfl⟩
  rw [hC] at hCb
  unfold adA
  have hs := (Sat.refl w).alloc (.cells #[.int .i64 a.kind, .slice ax a.ip.length ac, .string a.name, .int .i64 a.port] 33 (0, 0))
  by_cases hm : a.may = true
  case neg =>
    have hm0 : a.may = false := by simpa using hm
    have hE := addr_Encode_no a ax ac hra.name hra.ip.len hm0 hs
    clear hm hm0
    by_cases l1 : 255 < u.size
    · have z : (255 : Int) < (u.size : Int) := by omega
      clear l1
      go_enter Try.func9, Try.ntmps9
      go_wp2_with fail
      refine hE.mono ?_
      rintro _ w1 ⟨rfl, s1⟩
      go_wp2_with fail
      refine (so_awake s1).mono ?_
      rintro _ wz ⟨rfl, hz⟩
      go_wp2_with fail
      go_ret
      exact ⟨rfl, hz.below⟩
    have z1 : (u.size : Int) ≤ 255 := by omega
    by_cases l2 : 255 < q.size
    · have z : (255 : Int) < (q.size : Int) := by omega
      clear l1 l2
      go_enter Try.func9, Try.ntmps9
      go_wp2_with fail
      refine hE.mono ?_
      rintro _ w1 ⟨rfl, s1⟩
      go_wp2_with fail
      refine (so_awake s1).mono ?_
      rintro _ wz ⟨rfl, hz⟩
      go_wp2_with fail
      go_ret
      exact ⟨rfl, hz.below⟩
    have z2 : (q.size : Int) ≤ 255 := by omega
    clear l1 l2
    go_enter Try.func9, Try.ntmps9
    go_wp2_with fail
    refine hE.mono ?_
    rintro _ w1 ⟨rfl, s1⟩
    go_wp2_with fail
    refine (so_awake s1).mono ?_
    rintro _ wz ⟨rfl, hz⟩
    go_wp2_with fail
    go_ret
    exact ⟨rfl, hz.below⟩
  have hE := addr_Encode_yes a ax ac hm hs (fun W L' h => hra.ip.mono (h.below.trans (Below.refl _ _)))
  have hel := enc_four a hm
  by_cases l1 : 255 < u.size
  · have z : (255 : Int) < (u.size : Int) := by omega
    clear l1
    go_enter Try.func9, Try.ntmps9
    go_wp2_with fail
    refine hE.mono ?_
    rintro _ w1 ⟨pe, ke, rfl, s1⟩
    go_wp2_with fail
    refine (so_awake s1).mono ?_
    rintro _ wz ⟨rfl, hz⟩
    go_wp2_with fail
    go_ret
    exact ⟨rfl, hz.below⟩
  have z1 : (u.size : Int) ≤ 255 := by omega
  by_cases l2 : 255 < q.size
  · have z : (255 : Int) < (q.size : Int) := by omega
    clear l1 l2
    go_enter Try.func9, Try.ntmps9
    go_wp2_with fail
    refine hE.mono ?_
    rintro _ w1 ⟨pe, ke, rfl, s1⟩
    go_wp2_with fail
    refine (so_awake s1).mono ?_
    rintro _ wz ⟨rfl, hz⟩
    go_wp2_with fail
    go_ret
    exact ⟨rfl, hz.below⟩
  have z2 : (q.size : Int) ≤ 255 := by omega
  by_cases l4 : 2000 < more.length
  · have z : (2000 : Int) < (more.length : Int) := by omega
    clear l1 l2 l4
    go_enter Try.func9, Try.ntmps9
    go_wp2_with fail
    refine hE.mono ?_
    rintro _ w1 ⟨pe, ke, rfl, s1⟩
    go_wp2_with fail
    refine (so_awake s1).mono ?_
    rintro _ wz ⟨rfl, hz⟩
    go_wp2_with fail
    go_ret
    exact ⟨rfl, hz.below⟩
  have z4 : (more.length : Int) ≤ 2000 := by omega
  have hul : u.size ≤ 255 := by omega
  have hql : q.size ≤ 255 := by omega
  have hml : more.length ≤ 2000 := by omega
  clear l1 l2 l4
  have haip : a.ip.length ≤ 1000000 := by have := enc_len a; omega
  have HM := hid_ hm
  clear hm hs
  by_cases hu0 : u.size = 0
  · have hu1 : u.toList.isEmpty = true := by
      rw [empty_of_size hu0]
      decide +kernel
    have HH := hid_ (hello_plain0 (q := q) hu0)
    clear hu0
    go_enter Try.func9, Try.ntmps9
    go_wp2_with fail
    refine hE.mono ?_
    rintro _ w1 ⟨pe, ke, rfl, s1⟩
    go_wp2_with fail
    refine (so_New u q s1).mono ?_
    rintro _ w2 ⟨g, rfl, s2⟩
    obtain ⟨bv, s3⟩ := SoB.of (s2.add (OwnB.ofNew (l := [5, 2, 0, 2]) (n := 4) ((Sat.refl w2).alloc (.cells #[.int .u8 5, .int .u8 2, .int .u8 0, .int .u8 2] 5 (0, 0))) rfl rfl (by omega)))
    clear s1 s2
    go_wp2_with fail
    refine (so_feed_on (fresh_state _ _).1 (fresh_state _ _).2 (by show 0 + 4 ≤ 1000000; omega) s3 (Vw.own (L := _) [])).mono ?_
    rintro _ w3 ⟨b1, rfl, s4⟩
    rw [HH.out] at s4
    replace s4 := s4.drop.drop
    clear s3
    obtain ⟨a1, c1, hf⟩ := s4.form
    replace hf : b1 = .slice a1 2 c1 := hf
    subst hf
    have k1 := str_conv s4.back
    have e50 : ((strOf [5, 0]).toList == [5, 0]) = true := by decide +kernel
    go_upto_region 22 with fail
    clear k1 e50
    have t1 : Sat w3 (w3.alloc (.cells #[.int .u8 5, .int .u8 1, .int .u8 0] 5 (0, 0))) [OwnB 5 (.slice (some ⟨w3.heap.size, 0, none⟩) 3 3) [5, 1, 0]] := OwnB.ofNew (l := [5, 1, 0]) (n := 3) ((Sat.refl w3).alloc (.cells #[.int .u8 5, .int .u8 1, .int .u8 0] 5 (0, 0))) rfl rfl (by omega)
    have re1 := (s4.rd).mono t1.below
    go_wp2_with (at_builtin; refine wpList_append_b (w0 := w3) rfl _ _ 22 rfl rfl t1 rfl (slSrc re1) (5 :: 1 :: 0 :: a.enc) (3 + a.enc.length) rfl (by simp; omega) (by omega) ?_)
    intro x5 y5 w5 t2
    have re2 := (hrm.mono s4.to.rest.below).mono t2.below
    go_wp2_with (at_builtin; refine wpList_append_b (w0 := w3) rfl _ _ 22 rfl rfl t2 rfl (slSrc re2) (5 :: 1 :: 0 :: (a.enc ++ more)) (3 + a.enc.length + more.length) rfl (by simp; omega) (by omega) ?_)
    intro x6 y6 w6 t3
    have t4 := s4.add t3
    clear t1 t2 t3 re1 re2 s4
    go_wp2_with fail
    refine (so_feed_on (by show (0 : Int) ≤ 2; decide) (by show (2 : Int) ≤ 3; decide) (by show 0 + (5 :: 1 :: 0 :: (a.enc ++ more)).length ≤ _; simp; omega) t4 (Vw.own (L := _) [])).mono ?_
    rintro _ w7 ⟨b3, rfl, t5⟩
    rw [ask_ok _ _ HM.out (by omega)] at t5
    replace t5 := t5.drop.drop
    clear t4
    obtain ⟨a3, c3, hf⟩ := t5.form
    replace hf : b3 = .slice a3 0 c3 := hf
    subst hf
    replace t5 := t5.to
    have hSt := so_State t5.drew
    have hAd := so_Addr haip t5.drew
    dsimp only at hSt hAd
    have hb7 := t5.rest
    go_upto_region 23 with fail
    go_region_held3 (fun W => W.cell? ⟨w.heap.size, 0, none⟩ = some (.int .i64 a.kind) ∧ W.cell? ⟨w.heap.size, 1, none⟩ = some (.slice ax a.ip.length ac) ∧ W.cell? ⟨w.heap.size, 2, none⟩ = some (.string a.name) ∧ W.cell? ⟨w.heap.size, 3, none⟩ = some (.int .i64 a.port))
      (first | exact box4 (hb9.under hb10).drop.drop | exact box4 hb9.drop.drop | exact box4 hb7.drew.drop)
      (first | (go_at_call 13; refine hSt.mono ?_; rintro _ _ ⟨rfl, rfl⟩) | (go_at_call 15; refine hAd.mono ?_; rintro _ w9 ⟨x9, y9, rfl, t6⟩; have hb9 := hb7.drew.trans t6) | (go_at_call 14; have hN := ref_SameAddr a a x9 ax y9 ac (OwnB.rd t6) (hra.ip.mono hb9.below); rw [sameAd_self] at hN; refine hN.mono ?_; rintro _ w10 ⟨rfl, hb10⟩))
    all_goals
      have t7 := (t5.drew.add t6).under hb10
      clear hSt hAd hb7 hb9 t5 t6 hb10
      by_cases hC0 : C = 0
      · subst hC0
        go_wp2_with fail
        refine (so_reply_done rfl t7).mono ?_
        rintro _ w11 ⟨x11, y11, x12, y12, rfl, t8⟩
        have hB := t8.rdb
        obtain ⟨b', o', c', he, _, _, qq⟩ := hB.at0 (by decide)
        injection he with he e10 he'
        clear e10
        subst he he'
        have q0 : w11.cell? ⟨b', o', none⟩ = some (.int .u8 5) := qq 0 (by decide)
        have q1 : w11.cell? ⟨b', o' + 1, none⟩ = some (.int .u8 0) := qq 1 (by decide)
        have q2 : w11.cell? ⟨b', o' + 2, none⟩ = some (.int .u8 0) := qq 2 (by decide)
        have q3 : w11.cell? ⟨b', o' + 3, none⟩ = some (.int .u8 1) := qq 3 (by decide)
        have k3 := str_conv t8.drop.rdb
        have k4 := str_conv (hrm.mono t8.rest.below)
        have hSt := so_State t8
        dsimp only at hSt k3
        have hA := so_awake t8.rest
        clear qq hB t7 t8
        go_wp2_with fail
        refine hSt.mono ?_
        rintro _ _ ⟨rfl, rfl⟩
        go_wp2_with fail
        refine hA.mono ?_
        rintro _ wz ⟨rfl, hz⟩
        go_wp2_with fail
        go_ret
        exact ⟨rfl, hz.below⟩
      · obtain ⟨k, hk⟩ := Int.eq_ofNat_of_zero_le hCb.1
        have z0 : (C == 0) = false := by rw [beq_eq_false_iff_ne]; exact hC0
        have z9 : (C != 0) = true := by rw [bne_iff_ne]; exact hC0
        have hR := so_reply_shut (c := C) hk rfl hC0 hCb.1 (by omega) (by show (0 : Nat) ≤ 90000; omega) t7
        subst hk
        have hk8 : (UInt8.ofNat k).toNat = k := toNat_of (by omega)
        go_wp2_with fail
        refine hR.mono ?_
        rintro _ w11 ⟨x11, y11, rfl, t8⟩
        have hB := t8.rdb
        obtain ⟨b', o', c', he, _, _, qq⟩ := hB.at0 (by show 0 < 10; decide)
        injection he with he e10 he'
        clear e10
        subst he he'
        have q0 : w11.cell? ⟨b', o', none⟩ = some (.int .u8 5) := qq 0 (by show 0 < 10; decide)
        have q1 : w11.cell? ⟨b', o' + 1, none⟩ = some (.int .u8 k) := by rw [← hk8]; exact qq 1 (by show 1 < 10; decide)
        have q2 : w11.cell? ⟨b', o' + 2, none⟩ = some (.int .u8 0) := qq 2 (by show 2 < 10; decide)
        have q3 : w11.cell? ⟨b', o' + 3, none⟩ = some (.int .u8 1) := qq 3 (by show 3 < 10; decide)
        have hSt := so_State t8
        rw [show (SoM.close ⟨u, q, 3, more, a, []⟩ []).state = 5 from rfl] at hSt
        have hA := so_awake t8.rest
        clear qq hB t7 t8 hk8 hR
        go_wp2_with fail
        refine hSt.mono ?_
        rintro _ _ ⟨rfl, rfl⟩
        go_wp2_with fail
        refine hA.mono ?_
        rintro _ wz ⟨rfl, hz⟩
        go_wp2_with fail
        go_ret
        exact ⟨rfl, hz.below⟩
  · have hu1 : u.toList.isEmpty = false := by
      rw [Bool.eq_false_iff]
      intro h
      have h5 := isEmpty_size u
      rw [h] at h5
      exact hu0 (by simpa using h5.symm)
    have HH := hid_ (hello_plain1 (q := q) hu0)
    clear hu0
    cases wrong
    · skip
      go_enter Try.func9, Try.ntmps9
      go_wp2_with fail
      refine hE.mono ?_
      rintro _ w1 ⟨pe, ke, rfl, s1⟩
      go_wp2_with fail
      refine (so_New u q s1).mono ?_
      rintro _ w2 ⟨g, rfl, s2⟩
      obtain ⟨bv, s3⟩ := SoB.of (s2.add (OwnB.ofNew (l := [5, 2, 0, 2]) (n := 4) ((Sat.refl w2).alloc (.cells #[.int .u8 5, .int .u8 2, .int .u8 0, .int .u8 2] 5 (0, 0))) rfl rfl (by omega)))
      clear s1 s2
      go_wp2_with fail
      refine (so_feed_on (fresh_state _ _).1 (fresh_state _ _).2 (by show 0 + 4 ≤ 1000000; omega) s3 (Vw.own (L := _) [])).mono ?_
      rintro _ w3 ⟨b1, rfl, s4⟩
      rw [HH.out] at s4
      replace s4 := s4.drop.drop
      clear s3
      obtain ⟨a1, c1, hf⟩ := s4.form
      replace hf : b1 = .slice a1 2 c1 := hf
      subst hf
      have e8u : IntKind.u8.wrap (u.size : Int) = (u.size : Int) := by rw [u8_wrap_mod]; omega
      have e8q : IntKind.u8.wrap (q.size : Int) = (q.size : Int) := by rw [u8_wrap_mod]; omega
      have n8u := hid_ (show ((UInt8.ofNat u.size).toNat : Int) = (u.size : Int) by rw [toNat_of (by omega)])
      have n8q := hid_ (show ((UInt8.ofNat q.size).toNat : Int) = (q.size : Int) by rw [toNat_of (by omega)])
      have r1 : Sat w3 (w3.alloc (.cells #[.int .u8 1, .int .u8 u.size] 5 (0, 0))) [OwnB 5 (.slice (some ⟨w3.heap.size, 0, none⟩) 2 2) [1, UInt8.ofNat u.size]] := OwnB.ofNew (l := [1, UInt8.ofNat u.size]) (n := 2) ((Sat.refl w3).alloc (.cells #[.int .u8 1, .int .u8 u.size] 5 (0, 0))) (by rw [← n8u.out]; rfl) rfl (by omega)
      obtain ⟨N, hN⟩ : ∃ N, 3 + u.size + q.size = N := ⟨_, rfl⟩
      obtain ⟨N2, hN2⟩ : ∃ N, 2 + u.size = N := ⟨_, rfl⟩
      obtain ⟨N3, hN3⟩ : ∃ N, 3 + u.size = N := ⟨_, rfl⟩
      have HN := hid_ hN
      have HN2 := hid_ hN2
      have HN3 := hid_ hN3
      have hsu := size_data u
      have hsq := size_data q
      have HSU := hid_ hsu
      have HSQ := hid_ hsq
      clear hN hN2 hN3 hsu hsq
      go_wp2_with (at_builtin; refine wpList_append_b (w0 := w3) rfl _ _ 9 rfl rfl r1 rfl (strSrc Try.underlying9 u) (1 :: UInt8.ofNat u.size :: u.data.toList) N2 rfl (by rw [← HN2.out, List.length_cons, List.length_cons, HSU.out]; omega) (by have := HN2.out; omega) ?_)
      intro x4 y4 w4 r2
      have r3 := OwnB.ofNew (l := [UInt8.ofNat q.size]) (n := 1) (r2.alloc (.cells #[.int .u8 q.size] 5 (0, 0))) (by rw [← n8q.out]; rfl) rfl (by omega)
      have rd3 := OwnB.rd r3
      go_wp2_with (at_builtin; refine wpList_append_b (w0 := w3) rfl _ _ 22 rfl rfl r3.swap rfl (slSrc rd3) (1 :: UInt8.ofNat u.size :: u.data.toList ++ [UInt8.ofNat q.size]) N3 rfl (by rw [← HN3.out, List.length_append, List.length_cons, List.length_cons, HSU.out]; simp only [List.length_cons, List.length_nil]; omega) (by have := HN3.out; omega) ?_)
      intro x5' y5' w5' r4
      have hL := hid_ (show (1 :: UInt8.ofNat u.size :: u.data.toList ++ [UInt8.ofNat q.size]) ++ q.data.toList = nameB u.data.toList q.data.toList [] by unfold nameB; rw [HSU.out, HSQ.out]; simp)
      have hLl := hid_ (nameB_len u.data.toList q.data.toList [])
      go_wp2_with (at_builtin; refine wpList_append_b (w0 := w3) rfl _ _ 9 rfl rfl r4 rfl (strSrc Try.underlying9 q) (nameB u.data.toList q.data.toList []) N hL.out (by rw [hLl.out, HSU.out, HSQ.out, ← HN.out]; rfl) (by have := HN.out; omega) ?_)
      intro x6' y6' w6' r5
      clear r1 r2 r3 r4 rd3
      have r6 := s4.add r5
      have hD := name_ok [5, 2] hul hql
      clear s4 r5
      go_wp2_with fail
      refine (so_feed_on (by show (0 : Int) ≤ 1; decide) (by show (1 : Int) ≤ 3; decide) (by show 0 + (nameB u.data.toList q.data.toList []).length ≤ _; rw [hLl.out, HSU.out, HSQ.out]; simp only [List.length_nil]; omega) r6 (Vw.own (L := _) [])).mono ?_
      rintro _ w8 ⟨b2, rfl, s8⟩
      rw [hD] at s8
      clear hD r6
      obtain ⟨a2, c2, hf⟩ := s8.form
      replace hf : b2 = .slice a2 2 c2 := hf
      subst hf
      have k1 := str_conv s8.rd
      have k2 := str_conv s8.back
      dsimp only at k1 k2
      have e52 : ((strOf [5, 2]).toList == [5, 2]) = true := by decide +kernel
      have e10 : ((strOf [1, 0]).toList == [1, 0]) = true := by decide +kernel
      replace s8 := s8.drop.drop.drop
      go_upto_region 22 with fail
      clear k1 k2 e52 e10
      have t1 : Sat w8 (w8.alloc (.cells #[.int .u8 5, .int .u8 1, .int .u8 0] 5 (0, 0))) [OwnB 5 (.slice (some ⟨w8.heap.size, 0, none⟩) 3 3) [5, 1, 0]] := OwnB.ofNew (l := [5, 1, 0]) (n := 3) ((Sat.refl w8).alloc (.cells #[.int .u8 5, .int .u8 1, .int .u8 0] 5 (0, 0))) rfl rfl (by omega)
      have re1 := (s8.rd).mono t1.below
      go_wp2_with (at_builtin; refine wpList_append_b (w0 := w8) rfl _ _ 22 rfl rfl t1 rfl (slSrc re1) (5 :: 1 :: 0 :: a.enc) (3 + a.enc.length) rfl (by simp; omega) (by omega) ?_)
      intro x5 y5 w5 t2
      have re2 := (hrm.mono s8.to.rest.below).mono t2.below
      go_wp2_with (at_builtin; refine wpList_append_b (w0 := w8) rfl _ _ 22 rfl rfl t2 rfl (slSrc re2) (5 :: 1 :: 0 :: (a.enc ++ more)) (3 + a.enc.length + more.length) rfl (by simp; omega) (by omega) ?_)
      intro x6 y6 w6 t3
      have t4 := s8.add t3
      clear t1 t2 t3 re1 re2 s8
      go_wp2_with fail
      refine (so_feed_on (by show (0 : Int) ≤ 2; decide) (by show (2 : Int) ≤ 3; decide) (by show 0 + (5 :: 1 :: 0 :: (a.enc ++ more)).length ≤ _; simp; omega) t4 (Vw.own (L := _) [])).mono ?_
      rintro _ w7 ⟨b3, rfl, t5⟩
      rw [ask_ok _ _ HM.out (by omega)] at t5
      replace t5 := t5.drop.drop
      clear t4
      obtain ⟨a3, c3, hf⟩ := t5.form
      replace hf : b3 = .slice a3 0 c3 := hf
      subst hf
      replace t5 := t5.to
      have hSt := so_State t5.drew
      have hAd := so_Addr haip t5.drew
      dsimp only at hSt hAd
      have hb7 := t5.rest
      go_upto_region 23 with fail
      go_region_held3 (fun W => W.cell? ⟨w.heap.size, 0, none⟩ = some (.int .i64 a.kind) ∧ W.cell? ⟨w.heap.size, 1, none⟩ = some (.slice ax a.ip.length ac) ∧ W.cell? ⟨w.heap.size, 2, none⟩ = some (.string a.name) ∧ W.cell? ⟨w.heap.size, 3, none⟩ = some (.int .i64 a.port))
        (first | exact box4 (hb9.under hb10).drop.drop | exact box4 hb9.drop.drop | exact box4 hb7.drew.drop)
        (first | (go_at_call 13; refine hSt.mono ?_; rintro _ _ ⟨rfl, rfl⟩) | (go_at_call 15; refine hAd.mono ?_; rintro _ w9 ⟨x9, y9, rfl, t6⟩; have hb9 := hb7.drew.trans t6) | (go_at_call 14; have hN := ref_SameAddr a a x9 ax y9 ac (OwnB.rd t6) (hra.ip.mono hb9.below); rw [sameAd_self] at hN; refine hN.mono ?_; rintro _ w10 ⟨rfl, hb10⟩))
      all_goals
        have t7 := (t5.drew.add t6).under hb10
        clear hSt hAd hb7 hb9 t5 t6 hb10
        by_cases hC0 : C = 0
        · subst hC0
          go_wp2_with fail
          refine (so_reply_done rfl t7).mono ?_
          rintro _ w11 ⟨x11, y11, x12, y12, rfl, t8⟩
          have hB := t8.rdb
          obtain ⟨b', o', c', he, _, _, qq⟩ := hB.at0 (by decide)
          injection he with he e10 he'
          clear e10
          subst he he'
          have q0 : w11.cell? ⟨b', o', none⟩ = some (.int .u8 5) := qq 0 (by decide)
          have q1 : w11.cell? ⟨b', o' + 1, none⟩ = some (.int .u8 0) := qq 1 (by decide)
          have q2 : w11.cell? ⟨b', o' + 2, none⟩ = some (.int .u8 0) := qq 2 (by decide)
          have q3 : w11.cell? ⟨b', o' + 3, none⟩ = some (.int .u8 1) := qq 3 (by decide)
          have k3 := str_conv t8.drop.rdb
          have k4 := str_conv (hrm.mono t8.rest.below)
          have hSt := so_State t8
          dsimp only at hSt k3
          have hA := so_awake t8.rest
          clear qq hB t7 t8
          go_wp2_with fail
          refine hSt.mono ?_
          rintro _ _ ⟨rfl, rfl⟩
          go_wp2_with fail
          refine hA.mono ?_
          rintro _ wz ⟨rfl, hz⟩
          go_wp2_with fail
          go_ret
          exact ⟨rfl, hz.below⟩
        · obtain ⟨k, hk⟩ := Int.eq_ofNat_of_zero_le hCb.1
          have z0 : (C == 0) = false := by rw [beq_eq_false_iff_ne]; exact hC0
          have z9 : (C != 0) = true := by rw [bne_iff_ne]; exact hC0
          have hR := so_reply_shut (c := C) hk rfl hC0 hCb.1 (by omega) (by show (0 : Nat) ≤ 90000; omega) t7
          subst hk
          have hk8 : (UInt8.ofNat k).toNat = k := toNat_of (by omega)
          go_wp2_with fail
          refine hR.mono ?_
          rintro _ w11 ⟨x11, y11, rfl, t8⟩
          have hB := t8.rdb
          obtain ⟨b', o', c', he, _, _, qq⟩ := hB.at0 (by show 0 < 10; decide)
          injection he with he e10 he'
          clear e10
          subst he he'
          have q0 : w11.cell? ⟨b', o', none⟩ = some (.int .u8 5) := qq 0 (by show 0 < 10; decide)
          have q1 : w11.cell? ⟨b', o' + 1, none⟩ = some (.int .u8 k) := by rw [← hk8]; exact qq 1 (by show 1 < 10; decide)
          have q2 : w11.cell? ⟨b', o' + 2, none⟩ = some (.int .u8 0) := qq 2 (by show 2 < 10; decide)
          have q3 : w11.cell? ⟨b', o' + 3, none⟩ = some (.int .u8 1) := qq 3 (by show 3 < 10; decide)
          have hSt := so_State t8
          rw [show (SoM.close ⟨u, q, 3, more, a, []⟩ []).state = 5 from rfl] at hSt
          have hA := so_awake t8.rest
          clear qq hB t7 t8 hk8 hR
          go_wp2_with fail
          refine hSt.mono ?_
          rintro _ _ ⟨rfl, rfl⟩
          go_wp2_with fail
          refine hA.mono ?_
          rintro _ wz ⟨rfl, hz⟩
          go_wp2_with fail
          go_ret
          exact ⟨rfl, hz.below⟩
    · skip
      go_enter Try.func9, Try.ntmps9
      go_wp2_with fail
      refine hE.mono ?_
      rintro _ w1 ⟨pe, ke, rfl, s1⟩
      go_wp2_with fail
      refine (so_New u q s1).mono ?_
      rintro _ w2 ⟨g, rfl, s2⟩
      obtain ⟨bv, s3⟩ := SoB.of (s2.add (OwnB.ofNew (l := [5, 2, 0, 2]) (n := 4) ((Sat.refl w2).alloc (.cells #[.int .u8 5, .int .u8 2, .int .u8 0, .int .u8 2] 5 (0, 0))) rfl rfl (by omega)))
      clear s1 s2
      go_wp2_with fail
      refine (so_feed_on (fresh_state _ _).1 (fresh_state _ _).2 (by show 0 + 4 ≤ 1000000; omega) s3 (Vw.own (L := _) [])).mono ?_
      rintro _ w3 ⟨b1, rfl, s4⟩
      rw [HH.out] at s4
      replace s4 := s4.drop.drop
      clear s3
      obtain ⟨a1, c1, hf⟩ := s4.form
      replace hf : b1 = .slice a1 2 c1 := hf
      subst hf
      have e8u : IntKind.u8.wrap (u.size : Int) = (u.size : Int) := by rw [u8_wrap_mod]; omega
      have e8q : IntKind.u8.wrap (q.size : Int) = (q.size : Int) := by rw [u8_wrap_mod]; omega
      have n8u := hid_ (show ((UInt8.ofNat u.size).toNat : Int) = (u.size : Int) by rw [toNat_of (by omega)])
      have n8q := hid_ (show ((UInt8.ofNat q.size).toNat : Int) = (q.size : Int) by rw [toNat_of (by omega)])
      have r1 : Sat w3 (w3.alloc (.cells #[.int .u8 1, .int .u8 u.size] 5 (0, 0))) [OwnB 5 (.slice (some ⟨w3.heap.size, 0, none⟩) 2 2) [1, UInt8.ofNat u.size]] := OwnB.ofNew (l := [1, UInt8.ofNat u.size]) (n := 2) ((Sat.refl w3).alloc (.cells #[.int .u8 1, .int .u8 u.size] 5 (0, 0))) (by rw [← n8u.out]; rfl) rfl (by omega)
      obtain ⟨N, hN⟩ : ∃ N, 3 + u.size + q.size = N := ⟨_, rfl⟩
      obtain ⟨N2, hN2⟩ : ∃ N, 2 + u.size = N := ⟨_, rfl⟩
      obtain ⟨N3, hN3⟩ : ∃ N, 3 + u.size = N := ⟨_, rfl⟩
      have HN := hid_ hN
      have HN2 := hid_ hN2
      have HN3 := hid_ hN3
      have hsu := size_data u
      have hsq := size_data q
      have HSU := hid_ hsu
      have HSQ := hid_ hsq
      clear hN hN2 hN3 hsu hsq
      go_wp2_with (at_builtin; refine wpList_append_b (w0 := w3) rfl _ _ 9 rfl rfl r1 rfl (strSrc Try.underlying9 u) (1 :: UInt8.ofNat u.size :: u.data.toList) N2 rfl (by rw [← HN2.out, List.length_cons, List.length_cons, HSU.out]; omega) (by have := HN2.out; omega) ?_)
      intro x4 y4 w4 r2
      have r3 := OwnB.ofNew (l := [UInt8.ofNat q.size]) (n := 1) (r2.alloc (.cells #[.int .u8 q.size] 5 (0, 0))) (by rw [← n8q.out]; rfl) rfl (by omega)
      have rd3 := OwnB.rd r3
      go_wp2_with (at_builtin; refine wpList_append_b (w0 := w3) rfl _ _ 22 rfl rfl r3.swap rfl (slSrc rd3) (1 :: UInt8.ofNat u.size :: u.data.toList ++ [UInt8.ofNat q.size]) N3 rfl (by rw [← HN3.out, List.length_append, List.length_cons, List.length_cons, HSU.out]; simp only [List.length_cons, List.length_nil]; omega) (by have := HN3.out; omega) ?_)
      intro x5' y5' w5' r4
      have hL := hid_ (show (1 :: UInt8.ofNat u.size :: u.data.toList ++ [UInt8.ofNat q.size]) ++ q.data.toList = nameB u.data.toList q.data.toList [] by unfold nameB; rw [HSU.out, HSQ.out]; simp)
      have hLl := hid_ (nameB_len u.data.toList q.data.toList [])
      go_wp2_with (at_builtin; refine wpList_append_b (w0 := w3) rfl _ _ 9 rfl rfl r4 rfl (strSrc Try.underlying9 q) (nameB u.data.toList q.data.toList []) N hL.out (by rw [hLl.out, HSU.out, HSQ.out, ← HN.out]; rfl) (by have := HN.out; omega) ?_)
      intro x6' y6' w6' r5
      clear r1 r2 r3 r4 rd3
      obtain ⟨K, hK⟩ : ∃ K, u.data.toList.length + q.data.toList.length + 2 = K := ⟨_, rfl⟩
      have HK := hid_ hK
      have hKn : K + 1 = N := by rw [← hK, HSU.out, HSQ.out, ← HN.out]; omega
      clear hK
      have eK : IntKind.i64.wrap ((N : Int) - 1) = (K : Int) := by rw [i64_in (by omega) (by have := HN.out; omega)]; omega
      have zK : (K : Int) < (N : Int) := by omega
      have hNl : (nameB u.data.toList q.data.toList []).length = N := by rw [hLl.out, HSU.out, HSQ.out, ← HN.out]; rfl
      have HNl := hid_ hNl
      have r5' := r5
      unfold OwnB at r5'
      rw [hNl] at r5'
      obtain ⟨b, o, cc, he, hge, hlt2, hcc, hff⟩ := OwnS.cells r5' (by omega)
      injection he with e1 e2 e3
      clear e2
      subst e1 e3
      have cx : w6'.cell? ⟨b, o + K, none⟩ = some (.int .u8 ((nameB u.data.toList q.data.toList []).getD K 0).toNat) := hcc K _ (bytesC_get (by rw [hNl]; omega))
      have fx := hff (o + K)
      obtain ⟨x, hx⟩ : ∃ x, (nameB u.data.toList q.data.toList []).getD K 0 = x := ⟨_, rfl⟩
      have HX := hid_ hx
      rw [hx] at cx
      obtain ⟨y, hy⟩ : ∃ y : Nat, x.toNat = y := ⟨_, rfl⟩
      rw [hy] at cx
      have hz := xor1 hy
      have hput := OwnS.put (o := K) r5' (vs := [.int .u8 ((x ^^^ 1).toNat : Int)]) (by show K + 1 ≤ N * 1; omega)
      have hset := sl_bytes (nameB u.data.toList q.data.toList []) K (x ^^^ 1) (by rw [hNl]; omega)
      rw [show K + [(Value.int .u8 ((x ^^^ 1).toNat : Int))].length = K + 1 from rfl, hset] at hput
      obtain ⟨z, hzz⟩ : ∃ z : Nat, (x ^^^ 1).toNat = z := ⟨_, rfl⟩
      rw [hzz] at hz hput
      obtain ⟨L6, hL6⟩ : ∃ L6, (nameB u.data.toList q.data.toList []).set K (x ^^^ 1) = L6 := ⟨_, rfl⟩
      have hl6 : L6.length = N := by rw [← hL6, List.length_set, hNl]
      have HL6 := hid_ hL6
      rw [hL6] at hput
      clear hcc hff hx hy hset hzz r5 r5' hL6 hNl hKn
      have hh : OwnB 5 (.slice (some ⟨b, o, none⟩) N y6') L6 = OwnS 5 1 (.slice (some ⟨b, o, none⟩) N y6') N (bytesC L6) := by
        unfold OwnB
        rw [hl6]
      rw [← hh] at hput
      have r6 : Sat w3 (w6'.setCell ⟨b, o + K, none⟩ (.int .u8 z)) [OwnB 5 (.slice (some ⟨b, o, none⟩) N y6') L6, OwnB 5 (.slice (some ⟨w4.heap.size, 0, none⟩) 1 1) [UInt8.ofNat q.size]] := hput
      have HL6l := hid_ hl6
      clear hput hl6 hh
      go_upto_region 12 with fail
      generalize w6'.setCell ⟨b, o + K, none⟩ (.int .u8 z) = w7 at *
      clear cx fx hge hlt2 hz
      obtain ⟨N5, hN5⟩ : ∃ n, N + 2 = n := ⟨_, rfl⟩
      have HN5 := hid_ hN5
      clear hN5
      have r7 := OwnB.ofNew (l := [0, 0]) (n := 2) (r6.alloc (.cells #[.int .u8 0, .int .u8 0] 5 (0, 0))) rfl rfl (by omega)
      have rd7 := OwnB.rd r7
      go_wp2_with (at_builtin; refine wpList_append_b (w0 := w3) rfl _ _ 22 rfl rfl r7.swap rfl (slSrc rd7) (L6 ++ [0, 0]) N5 rfl (by rw [List.length_append, HL6l.out, ← HN5.out]; rfl) (by have := HN5.out; have := HN.out; omega) ?_)
      intro x8 y8 w8 r8
      clear r6 r7 rd7
      by_cases hq0 : q.size = 0
      · have zq : ((q.size : Int) == 0) = true := by rw [hq0]; rfl
        have hA := so_awake (s4.to.rest.under r8.below)
        clear hq0
        go_wp2_with fail
        refine hA.mono ?_
        rintro _ wz ⟨rfl, hz⟩
        go_wp2_with fail
        go_ret
        exact ⟨rfl, hz.below⟩
      · have zq : ((q.size : Int) == 0) = false := by rw [beq_eq_false_iff_ne]; omega
        have hL8 : L6 ++ [0, 0] = nameB u.data.toList (q.data.toList.set (q.data.toList.length - 1) (x ^^^ 1)) [0, 0] := by
          rw [← HL6.out, ← HK.out, name_turn _ _ _ (by rw [HSQ.out]; exact hq0), name_app]
        have hxe : x = q.data.toList.getD (q.data.toList.length - 1) 0 := by
          rw [← HX.out, ← HK.out]
          unfold nameB
          rw [show u.data.toList.length + q.data.toList.length + 2 = u.data.toList.length + (q.data.toList.length - 1 + 1) + 1 + 1 by have := HSQ.out; omega]
          simp [List.getD, List.getElem?_append_right]
        have hD := name_bad (u := u) (q := q) (p := q.data.toList.set (q.data.toList.length - 1) (x ^^^ 1)) [0, 0] [5, 2] hul hql (by rw [List.length_set, HSQ.out]) (set_ne (by rw [HSQ.out]; exact hq0) (by rw [← hxe]; exact xor1_ne x))
        rw [← hL8] at hD
        have s9 := s4.add r8
        clear hxe hL8 r8 s4 hq0
        go_wp2_with fail
        refine (so_feed_on (by show (0 : Int) ≤ 1; decide) (by show (1 : Int) ≤ 3; decide) (by show 0 + (L6 ++ [0, 0]).length ≤ _; rw [List.length_append, HL6l.out]; have := HN.out; simp only [List.length_cons, List.length_nil]; omega) s9 (Vw.own (L := _) [])).mono ?_
        rintro _ w10 ⟨b2, rfl, s10⟩
        rw [hD] at s10
        clear hD s9
        obtain ⟨a2, c2, hf⟩ := s10.form
        replace hf : b2 = .slice a2 2 c2 := hf
        subst hf
        have k1 := str_conv s10.rd
        have k2 := str_conv s10.back
        dsimp only at k1 k2
        have e52 : ((strOf [5, 2]).toList == [5, 2]) = true := by decide +kernel
        have e11 : ((strOf [1, 1]).toList == [1, 1]) = true := by decide +kernel
        have hSt := so_State s10.to
        dsimp only at hSt
        have hA := so_awake s10.to.rest
        go_wp2_with fail
        refine hSt.mono ?_
        rintro _ _ ⟨rfl, rfl⟩
        go_wp2_with fail
        refine hA.mono ?_
        rintro _ wz ⟨rfl, hz⟩
        go_wp2_with fail
        go_ret
        exact ⟨rfl, hz.below⟩
end Go.Proofs.Ythfdejgckcoohaa
