/- The law FrameMany, walked (its two loops printed by gen_frm.py). -/
import Derived.Test.YtlkkmnbglememaaFrB
import Derived.Test.YtlkkmnbglememaaApk
namespace Go.Proofs.Ytlkkmnbglememaa
open Go Go.RowKit
set_option linter.unusedVariables false
set_option linter.unusedSimpArgs false

/-- A frame's nine cells in a box. -/
abbrev Bx9 (w : World) (b : Nat) (f : FrM) (ip d : Value) : Prop :=
  w.cell? ⟨b, 0, none⟩ = some (.int .i64 f.kind) ∧ w.cell? ⟨b, 1, none⟩ = some (.int .i64 f.stream) ∧ w.cell? ⟨b, 2, none⟩ = some (.int .i64 f.code) ∧ w.cell? ⟨b, 3, none⟩ = some (.int .i64 f.n) ∧
    w.cell? ⟨b, 4, none⟩ = some (.int .i64 f.addr.kind) ∧ w.cell? ⟨b, 5, none⟩ = some ip ∧ w.cell? ⟨b, 6, none⟩ = some (.string f.addr.name) ∧ w.cell? ⟨b, 7, none⟩ = some (.int .i64 f.addr.port) ∧ w.cell? ⟨b, 8, none⟩ = some d
section
variable {w0 w : World} {L : List Assn}
theorem Sat.k2 {A B C D E : Assn} (h : Sat w0 w (A :: B :: C :: D :: E :: L)) : Sat w0 w (A :: B :: L) := (Sat.front [_, _] (Sat.front [_, _] (Sat.front [_, _] h).drop).drop).drop
set_option maxRecDepth 100000 in
set_option maxHeartbeats 4000000 in
theorem frame_many_law (v u t : Value) (w : World) (hv : IsFrames w v) (hu : IsFrames w u) (ht : IsByte w t) :
    Calls Try.prog 8 #[v, u, t] w fun e w' => e = .returned (.bool true) ∧ Below w.heap.size w w' := by
  obtain ⟨al, cl, a, rfl, ha⟩ := hv
  obtain ⟨bl, dl, b, rfl, hb⟩ := hu
  obtain ⟨xb, rfl, hxb⟩ := ht
  have hs := Sat.refl w
  have hln : a.length ≤ maxLen := Nat.le_trans ha.1 ha.2.1
  obtain ⟨n, hn⟩ : ∃ n, a.length = n := ⟨_, rfl⟩
  have HAN := hid_ hn
  rw [hn] at hln ⊢
  clear hn
  have hlm : b.length ≤ maxLen := Nat.le_trans hb.1 hb.2.1
  obtain ⟨m, hm⟩ : ∃ m, b.length = m := ⟨_, rfl⟩
  have HBN := hid_ hm
  rw [hm] at hlm ⊢
  clear hm
  unfold maxLen at hln hlm
  have hL := hid_ (frame_Light (a := al) (n := n) (c := cl) (by unfold maxLen; exact hln) hs (fun W L' h i hi => by
    obtain ⟨y, hy⟩ : ∃ y, a[i]? = some y := ⟨_, List.getElem?_eq_getElem (by rw [HAN.out]; exact hi)⟩
    obtain ⟨b, o, e, h1, _⟩ := RdL.at (RdFrames.mono ha h.below) hy
    exact ⟨b, o, y.f, _, _, e, h1⟩))
  go_enter Try.func8, Try.ntmps8
  go_wp2_with fail
  refine hL.out.mono ?_
  rintro _ w1 ⟨k, rfl, hk0, hk60, h1⟩
  clear hL
  by_cases hk : 0 < k
  · have q : decide (0 < k) = true := by simpa using hk
    go_wp2_with fail
    refine (frame_awake h1).mono ?_
    rintro _ w2 ⟨rfl, h2⟩
    go_wp2_with fail
    go_ret
    exact ⟨rfl, h2.below⟩
  obtain rfl : k = 0 := by omega
  have hn60 := hk60 rfl
  clear hk hk0 hk60
  have hL := hid_ (frame_Light (a := bl) (n := m) (c := dl) (by unfold maxLen; exact hlm) h1 (fun W L' h i hi => by
    obtain ⟨y, hy⟩ : ∃ y, b[i]? = some y := ⟨_, List.getElem?_eq_getElem (by rw [HBN.out]; exact hi)⟩
    obtain ⟨b, o, e, h1, _⟩ := RdL.at (RdFrames.mono hb h.below) hy
    exact ⟨b, o, y.f, _, _, e, h1⟩))
  go_wp2_with fail
  refine hL.out.mono ?_
  rintro _ w1' ⟨k, rfl, hk0, hk60, h1⟩
  clear hL
  by_cases hk : 0 < k
  · have q : decide (0 < k) = true := by simpa using hk
    go_wp2_with fail
    refine (frame_awake h1).mono ?_
    rintro _ w2 ⟨rfl, h2⟩
    go_wp2_with fail
    go_ret
    exact ⟨rfl, h2.below⟩
  obtain rfl : k = 0 := by omega
  have hm60 := hk60 rfl
  clear hk hk0 hk60
  go_wp2_with fail
  go_loopg [7, 9, 36] n (fun gg v7 v9 v36 wr => ∃ i : Nat, i ≤ n ∧ n - i ≤ gg ∧ v36 = .int .i64 i ∧ Sat w wr [OwnB 5 v7 (encM (a.take i)), FramesS w v9 (mayL (a.take i))])
  case atStart => exact ⟨0, Nat.zero_le _, by omega, rfl, OwnB.nilI (OwnL.nilI h1)⟩
  case round =>
    obtain ⟨i, hi, hgg, rfl, h2⟩ := hrel
    clear h1
    obtain ⟨a5, c5, rfl, -⟩ := OwnB.slice h2
    obtain ⟨a6, c6, rfl, -, -⟩ := OwnL.form h2.drop
    by_cases hlt : i < n
    · obtain ⟨y, hy⟩ : ∃ y, a[i]? = some y := ⟨_, List.getElem?_eq_getElem (by rw [HAN.out]; exact hlt)⟩
      obtain ⟨bq, oq, rfl, hf, hrx⟩ := RdL.at (RdFrames.mono ha h2.below) hy
      have hrx0 : RdX w y := (RdL.at ha hy).choose_spec.choose_spec.2.2
      obtain ⟨x0, x1, x2, x3, x4, x5, x6, x7, x8⟩ := hf.nine
      have HT := hid_ (take_snoc_at hy)
      have hel := encM_len (a.take i)
      have hml := mayL_len (a.take i)
      have hti : (a.take i).length ≤ 60 := by rw [List.length_take]; omega
      have hb1 : (encM (a.take i)).length ≤ 240300 := Nat.le_trans hel (by omega)
      have hb2 : (mayL (a.take i)).length ≤ 120 := by omega
      have z1 : 0 ≤ (i : Int) ∧ (i : Int) < (n : Int) := by omega
      have h3 := h2.alloc (frO y.f y.ip y.d)
      clear hy hf hel hml hti
      obtain ⟨f, x, z, c, k⟩ := y
      unfold FrX.ip FrX.d at *
      dsimp only at *
      obtain ⟨P, hP⟩ : ∃ P, encM (a.take i) = P := ⟨_, rfl⟩
      obtain ⟨Q, hQ⟩ : ∃ Q, mayL (a.take i) = Q := ⟨_, rfl⟩
      rw [hP] at hb1 h3 ⊢
      rw [hQ] at hb2 h3 ⊢
      have HP := hid_ hP
      have HQ := hid_ hQ
      obtain ⟨mb, hmb⟩ : ∃ mb, f.may = mb := ⟨_, rfl⟩
      clear hP hQ h2
      unfold frO at h3
      cases mb
      · have HE := hid_ (frame_Encode_no f x z c k hmb (hrx0.mono h3.below) h3)
        have HX := hid_ (show encM (a.take (i + 1)) = P by rw [HT.out, encM_snoc, HP.out]; simp [hmb])
        have HY := hid_ (show mayL (a.take (i + 1)) = Q by rw [HT.out, mayL_snoc, ← HQ.out]; simp [hmb])
        unfold frV at HE
        clear hmb
        go_wp2_with fail
        refine HE.out.mono ?_
        rintro _ w4 ⟨rfl, h4⟩
        go_wp2_with fail
        go_roundg (n - (i + 1))
        case measure => omega
        case rel => exact ⟨i + 1, by omega, by omega, by go_num, by rw [HX.out, HY.out]; exact h4.drop⟩
      · have HE := hid_ (frame_Encode_yes f x z c k hmb h3 (fun W L' h => hrx0.mono h.below))
        have HX := hid_ (show encM (a.take (i + 1)) = P ++ f.enc by rw [HT.out, encM_snoc, HP.out]; simp [hmb])
        have HY := hid_ (show mayL (a.take (i + 1)) = Q ++ [⟨f, x, z, c, k⟩] by rw [HT.out, mayL_snoc, ← HQ.out]; simp [hmb])
        have hfl := tail_len hmb
        have hfl2 := enc_len3 f
        have hfl3 : f.enc.length ≤ 4005 := by omega
        unfold frV at HE
        clear hmb hfl hfl2
        obtain ⟨i0, hi0, hz0, hz1, hz2⟩ := finfo9
        go_wp2_with fail
        refine HE.out.mono ?_
        rintro _ w4 ⟨a4, k4, rfl, h4⟩
        generalize wr.heap.size = g at *
        have h4 : Sat w w4 [OwnB 5 (.slice a5 P.length c5) P, OwnB 5 (.slice a4 f.enc.length k4) f.enc, Blk g (frO f (.slice x f.addr.ip.length c) (.slice z f.data.length k)), FramesS w (.slice a6 Q.length c6) Q] := Sat.front [_, _] h4
        go_wp2_with fail
        unfold frO at h4
        have hD := h4.drew
        have hA := (h4.alloc (.cells #[.int .i64 f.kind, .int .i64 f.stream, .int .i64 f.code, .int .i64 f.n, .int .i64 f.addr.kind, .slice x f.addr.ip.length c, .string f.addr.name, .int .i64 f.addr.port, .slice z f.data.length k] 26 (0, 0))).drew
        have cD := (Sat.front [_, _] hD).cells9
        have cA := (Sat.front [_, _, _] hA).cells9
        have hAT := (FrS.mk (y := ⟨f, x, z, c, k⟩) hrx0 (Sat.front [_, _, _, _] hA)).swap
        have rA := OwnB.rd (Sat.front [_, _] hA)
        have rD := OwnB.rd hD.swap
        have bA := (Sat.blk hA).1
        go_region_held3 (fun w' => Bx9 w' g f (.slice x f.addr.ip.length c) (.slice z f.data.length k))
          (first | with_reducible exact cD | with_reducible exact cA | with_reducible exact cB | with_reducible exact cBA | with_reducible exact cAB | with_reducible exact cAF | with_reducible exact cBF | with_reducible exact cABF | with_reducible exact cAFB)
          (first | (refine step_append_b (w0 := w) rfl _ _ 22 rfl rfl hAFx rfl (slSrc rAF) _ (P.length + f.enc.length) rfl (by simp) (by omega) ?_; intro a9 c9 w9 hAFB; have cAFB := (Sat.front [_, _, _, _] hAFB).cells9)
                 | (refine step_append_b (w0 := w) rfl _ _ 22 rfl rfl (Sat.front [_] hA) rfl (slSrc rA) _ (P.length + f.enc.length) rfl (by simp) (by omega) ?_; intro a9 c9 w9 hAB; have cAB := (Sat.front [_, _, _] hAB).cells9; have bAB := (Sat.blk hAB.swap).1; have hABT := (FrS.mk (y := ⟨f, x, z, c, k⟩) hrx0 (Sat.front [_, _, _, _] hAB)).swap)
                 | (refine step_append_b (w0 := w) rfl _ _ 22 rfl rfl hD rfl (slSrc rD) _ (P.length + f.enc.length) rfl (by simp) (by omega) ?_; intro a9 c9 w9 hB; have cB := (Sat.front [_, _] hB).cells9; have hBA := hB.alloc (.cells #[.int .i64 f.kind, .int .i64 f.stream, .int .i64 f.code, .int .i64 f.n, .int .i64 f.addr.kind, .slice x f.addr.ip.length c, .string f.addr.name, .int .i64 f.addr.port, .slice z f.data.length k] 26 (0, 0)); have cBA := (Sat.front [_, _, _] hBA).cells9; have bBA := (Sat.blk hBA).1; have hBAT := (FrS.mk (y := ⟨f, x, z, c, k⟩) hrx0 (Sat.front [_, _, _, _] hBA)).swap)
                 | (refine step_append_one (w0 := w) (e := 26) (sz := 9) (El := FrS w) rfl _ _ 28 28 rfl Try.underlying28 hi0 hz0 hz1 hz2 rfl (⟨f, x, z, c, k⟩ : FrX) rfl hABT rfl (src_blk (t := 26) (cs := frXC ⟨f, x, z, c, k⟩) Try.underlying28 bAB rfl (frC_one _ rfl rfl)) (by simp only [maxLen]; omega) (by omega) ?_; intro a8 c8 w8 hABF; have cABF := (Sat.front [_, _, _, _] hABF).cells9)
                 | (refine step_append_one (w0 := w) (e := 26) (sz := 9) (El := FrS w) rfl _ _ 28 28 rfl Try.underlying28 hi0 hz0 hz1 hz2 rfl (⟨f, x, z, c, k⟩ : FrX) rfl hBAT rfl (src_blk (t := 26) (cs := frXC ⟨f, x, z, c, k⟩) Try.underlying28 bBA rfl (frC_one _ rfl rfl)) (by simp only [maxLen]; omega) (by omega) ?_; intro a8 c8 w8 hBF; have cBF := (Sat.front [_, _, _, _] hBF).cells9)
                 | (refine step_append_one (w0 := w) (e := 26) (sz := 9) (El := FrS w) rfl _ _ 28 28 rfl Try.underlying28 hi0 hz0 hz1 hz2 rfl (⟨f, x, z, c, k⟩ : FrX) rfl hAT rfl (src_blk (t := 26) (cs := frXC ⟨f, x, z, c, k⟩) Try.underlying28 bA rfl (frC_one _ rfl rfl)) (by simp only [maxLen]; omega) (by omega) ?_; intro a8 c8 w8 hAF; have cAF := (Sat.front [_, _, _, _] hAF).cells9; have hAFx := Sat.front [_, _] hAF; have rAF := OwnB.rd (Sat.front [_, _, _] hAF)))
        all_goals
          first
            | (have hEnd := Sat.k2 (Sat.re [1, 0, 2, 3, 4] [_, _, _, _, _] hABF))
            | (have hEnd := Sat.k2 hAFB)
            | (have hEnd := Sat.k2 (Sat.re [2, 0, 1, 3, 4] [_, _, _, _, _] hBF))
          go_wp2_with fail
          go_roundg (n - (i + 1))
          case measure => omega
          case rel => exact ⟨i + 1, by omega, by omega, by go_num, by rw [HX.out, HY.out]; exact hEnd⟩
    · obtain rfl : i = n := by omega
      have htl : a.take i = a := List.take_of_length_le (by rw [HAN.out]; exact Nat.le_refl _)
      rw [htl] at h2 ⊢
      have hQa := mayL_len a
      have hPa := encM_len a
      have hn2 : a.length ≤ 60 := by rw [HAN.out]; exact hn60
      have hqa : (mayL a).length ≤ 60 := by omega
      have hpa : (encM a).length ≤ 240300 := Nat.le_trans hPa (by omega)
      clear htl hlt hQa hPa hn2 hgg hi
      obtain ⟨av, rfl⟩ : ∃ x, x = a5 := ⟨_, rfl⟩
      obtain ⟨cv, rfl⟩ : ∃ x, x = c5 := ⟨_, rfl⟩
      have h1 := h2.swap
      clear h2
      go_wp2_with fail
      go_loopg [8, 9, 57] m (fun gg v8 v9 v57 wr => ∃ i : Nat, i ≤ m ∧ m - i ≤ gg ∧ v57 = .int .i64 i ∧ Sat w wr [OwnB 5 v8 (encM (b.take i)), FramesS w v9 (mayL a ++ mayL (b.take i)), OwnB 5 (.slice av (encM a).length cv) (encM a)])
      case atStart => exact ⟨0, Nat.zero_le _, by omega, rfl, OwnB.nilI (by rw [List.take_zero, show mayL ([] : List FrX) = [] from rfl, List.append_nil]; exact h1)⟩
      case round =>
        obtain ⟨i, hi, hgg, rfl, h2⟩ := hrel
        clear h1
        obtain ⟨a5, c5, rfl, -⟩ := OwnB.slice h2
        obtain ⟨a6, c6, rfl, -, -⟩ := OwnL.form h2.drop
        by_cases hlt : i < m
        · obtain ⟨y, hy⟩ : ∃ y, b[i]? = some y := ⟨_, List.getElem?_eq_getElem (by rw [HBN.out]; exact hlt)⟩
          obtain ⟨bq, oq, rfl, hf, hrx⟩ := RdL.at (RdFrames.mono hb h2.below) hy
          have hrx0 : RdX w y := (RdL.at hb hy).choose_spec.choose_spec.2.2
          obtain ⟨x0, x1, x2, x3, x4, x5, x6, x7, x8⟩ := hf.nine
          have HT := hid_ (take_snoc_at hy)
          have hel := encM_len (b.take i)
          have hml := mayL_len (b.take i)
          have hti : (b.take i).length ≤ 60 := by rw [List.length_take]; omega
          have hb1 : (encM (b.take i)).length ≤ 240300 := Nat.le_trans hel (by omega)
          have hb2 : (mayL a ++ mayL (b.take i)).length ≤ 120 := by rw [List.length_append]; omega
          have z1 : 0 ≤ (i : Int) ∧ (i : Int) < (m : Int) := by omega
          have h3 := h2.alloc (frO y.f y.ip y.d)
          clear hy hf hel hml hti
          obtain ⟨f, x, z, c, k⟩ := y
          unfold FrX.ip FrX.d at *
          dsimp only at *
          obtain ⟨P, hP⟩ : ∃ P, encM (b.take i) = P := ⟨_, rfl⟩
          obtain ⟨Q, hQ⟩ : ∃ Q, mayL a ++ mayL (b.take i) = Q := ⟨_, rfl⟩
          rw [hP] at hb1 h3 ⊢
          rw [hQ] at hb2 h3 ⊢
          have HP := hid_ hP
          have HQ := hid_ hQ
          obtain ⟨mb, hmb⟩ : ∃ mb, f.may = mb := ⟨_, rfl⟩
          clear hP hQ h2
          unfold frO at h3
          cases mb
          · have HE := hid_ (frame_Encode_no f x z c k hmb (hrx0.mono h3.below) h3)
            have HX := hid_ (show encM (b.take (i + 1)) = P by rw [HT.out, encM_snoc, HP.out]; simp [hmb])
            have HY := hid_ (show mayL a ++ mayL (b.take (i + 1)) = Q by rw [HT.out, mayL_snoc, ← HQ.out]; simp [hmb])
            unfold frV at HE
            clear hmb
            go_wp2_with fail
            refine HE.out.mono ?_
            rintro _ w4 ⟨rfl, h4⟩
            go_wp2_with fail
            go_roundg (m - (i + 1))
            case measure => omega
            case rel => exact ⟨i + 1, by omega, by omega, by go_num, by rw [HX.out, HY.out]; exact h4.drop⟩
          · have HE := hid_ (frame_Encode_yes f x z c k hmb h3 (fun W L' h => hrx0.mono h.below))
            have HX := hid_ (show encM (b.take (i + 1)) = P ++ f.enc by rw [HT.out, encM_snoc, HP.out]; simp [hmb])
            have HY := hid_ (show mayL a ++ mayL (b.take (i + 1)) = Q ++ [⟨f, x, z, c, k⟩] by rw [HT.out, mayL_snoc, ← HQ.out]; simp [hmb])
            have hfl := tail_len hmb
            have hfl2 := enc_len3 f
            have hfl3 : f.enc.length ≤ 4005 := by omega
            unfold frV at HE
            clear hmb hfl hfl2
            obtain ⟨i0, hi0, hz0, hz1, hz2⟩ := finfo9
            go_wp2_with fail
            refine HE.out.mono ?_
            rintro _ w4 ⟨a4, k4, rfl, h4⟩
            generalize wr.heap.size = g at *
            have h4 : Sat w w4 [OwnB 5 (.slice a5 P.length c5) P, OwnB 5 (.slice a4 f.enc.length k4) f.enc, Blk g (frO f (.slice x f.addr.ip.length c) (.slice z f.data.length k)), FramesS w (.slice a6 Q.length c6) Q, OwnB 5 (.slice av (encM a).length cv) (encM a)] := Sat.front [_, _] h4
            go_wp2_with fail
            unfold frO at h4
            have hD := h4.drew
            have hA := (h4.alloc (.cells #[.int .i64 f.kind, .int .i64 f.stream, .int .i64 f.code, .int .i64 f.n, .int .i64 f.addr.kind, .slice x f.addr.ip.length c, .string f.addr.name, .int .i64 f.addr.port, .slice z f.data.length k] 26 (0, 0))).drew
            have cD := (Sat.front [_, _] hD).cells9
            have cA := (Sat.front [_, _, _] hA).cells9
            have hAT := (FrS.mk (y := ⟨f, x, z, c, k⟩) hrx0 (Sat.front [_, _, _, _] hA)).swap
            have rA := OwnB.rd (Sat.front [_, _] hA)
            have rD := OwnB.rd hD.swap
            have bA := (Sat.blk hA).1
            go_region_held3 (fun w' => Bx9 w' g f (.slice x f.addr.ip.length c) (.slice z f.data.length k))
              (first | with_reducible exact cD | with_reducible exact cA | with_reducible exact cB | with_reducible exact cBA | with_reducible exact cAB | with_reducible exact cAF | with_reducible exact cBF | with_reducible exact cABF | with_reducible exact cAFB)
              (first | (refine step_append_b (w0 := w) rfl _ _ 22 rfl rfl hAFx rfl (slSrc rAF) _ (P.length + f.enc.length) rfl (by simp) (by omega) ?_; intro a9 c9 w9 hAFB; have cAFB := (Sat.front [_, _, _, _] hAFB).cells9)
                     | (refine step_append_b (w0 := w) rfl _ _ 22 rfl rfl (Sat.front [_] hA) rfl (slSrc rA) _ (P.length + f.enc.length) rfl (by simp) (by omega) ?_; intro a9 c9 w9 hAB; have cAB := (Sat.front [_, _, _] hAB).cells9; have bAB := (Sat.blk hAB.swap).1; have hABT := (FrS.mk (y := ⟨f, x, z, c, k⟩) hrx0 (Sat.front [_, _, _, _] hAB)).swap)
                     | (refine step_append_b (w0 := w) rfl _ _ 22 rfl rfl hD rfl (slSrc rD) _ (P.length + f.enc.length) rfl (by simp) (by omega) ?_; intro a9 c9 w9 hB; have cB := (Sat.front [_, _] hB).cells9; have hBA := hB.alloc (.cells #[.int .i64 f.kind, .int .i64 f.stream, .int .i64 f.code, .int .i64 f.n, .int .i64 f.addr.kind, .slice x f.addr.ip.length c, .string f.addr.name, .int .i64 f.addr.port, .slice z f.data.length k] 26 (0, 0)); have cBA := (Sat.front [_, _, _] hBA).cells9; have bBA := (Sat.blk hBA).1; have hBAT := (FrS.mk (y := ⟨f, x, z, c, k⟩) hrx0 (Sat.front [_, _, _, _] hBA)).swap)
                     | (refine step_append_one (w0 := w) (e := 26) (sz := 9) (El := FrS w) rfl _ _ 28 28 rfl Try.underlying28 hi0 hz0 hz1 hz2 rfl (⟨f, x, z, c, k⟩ : FrX) rfl hABT rfl (src_blk (t := 26) (cs := frXC ⟨f, x, z, c, k⟩) Try.underlying28 bAB rfl (frC_one _ rfl rfl)) (by simp only [maxLen]; omega) (by omega) ?_; intro a8 c8 w8 hABF; have cABF := (Sat.front [_, _, _, _] hABF).cells9)
                     | (refine step_append_one (w0 := w) (e := 26) (sz := 9) (El := FrS w) rfl _ _ 28 28 rfl Try.underlying28 hi0 hz0 hz1 hz2 rfl (⟨f, x, z, c, k⟩ : FrX) rfl hBAT rfl (src_blk (t := 26) (cs := frXC ⟨f, x, z, c, k⟩) Try.underlying28 bBA rfl (frC_one _ rfl rfl)) (by simp only [maxLen]; omega) (by omega) ?_; intro a8 c8 w8 hBF; have cBF := (Sat.front [_, _, _, _] hBF).cells9)
                     | (refine step_append_one (w0 := w) (e := 26) (sz := 9) (El := FrS w) rfl _ _ 28 28 rfl Try.underlying28 hi0 hz0 hz1 hz2 rfl (⟨f, x, z, c, k⟩ : FrX) rfl hAT rfl (src_blk (t := 26) (cs := frXC ⟨f, x, z, c, k⟩) Try.underlying28 bA rfl (frC_one _ rfl rfl)) (by simp only [maxLen]; omega) (by omega) ?_; intro a8 c8 w8 hAF; have cAF := (Sat.front [_, _, _, _] hAF).cells9; have hAFx := Sat.front [_, _] hAF; have rAF := OwnB.rd (Sat.front [_, _, _] hAF)))
            all_goals
              first
                | (have hEnd := Sat.k2 (Sat.re [1, 0, 2, 3, 4] [_, _, _, _, _] hABF))
                | (have hEnd := Sat.k2 hAFB)
                | (have hEnd := Sat.k2 (Sat.re [2, 0, 1, 3, 4] [_, _, _, _, _] hBF))
              go_wp2_with fail
              go_roundg (m - (i + 1))
              case measure => omega
              case rel => exact ⟨i + 1, by omega, by omega, by go_num, by rw [HX.out, HY.out]; exact hEnd⟩
        · obtain rfl : i = m := by omega
          have htl : b.take i = b := List.take_of_length_le (by rw [HBN.out]; exact Nat.le_refl _)
          rw [htl] at h2 ⊢
          have hQb := mayL_len b
          have hPb := encM_len b
          have hn3 : b.length ≤ 60 := by rw [HBN.out]; exact hm60
          have hqb : (mayL b).length ≤ 60 := by omega
          have hpb : (encM b).length ≤ 240300 := Nat.le_trans hPb (by omega)
          have hmayF : ∀ f ∈ (mayL a ++ mayL b).map FrX.f, f.may = true := by
            intro f hf
            rw [List.map_append, List.mem_append] at hf
            rcases hf with hf | hf
            · exact mayL_all a f hf
            · exact mayL_all b f hf
          have hencF : encL ((mayL a ++ mayL b).map FrX.f) = encM a ++ encM b := by rw [List.map_append, encL_append]; rfl
          have hFl : (mayL a ++ mayL b).length ≤ 120 := by rw [List.length_append]; omega
          obtain ⟨PA, hPA⟩ : ∃ x, encM a = x := ⟨_, rfl⟩
          obtain ⟨PB, hPB⟩ : ∃ x, encM b = x := ⟨_, rfl⟩
          obtain ⟨F, hF⟩ : ∃ x, mayL a ++ mayL b = x := ⟨_, rfl⟩
          rw [hPA, hPB] at h2 ⊢
          rw [hF] at h2 ⊢
          rw [hPA] at hpa
          rw [hPB] at hpb
          rw [hF] at hFl hmayF
          rw [hPA, hPB, hF] at hencF
          have HFM := hid_ hmayF
          have HEN := hid_ hencF
          clear hPA hPB hF hmayF hencF htl hlt hQb hPb hn3 hgg hi h1 hqa hqb
          obtain ⟨E, hE⟩ : ∃ x, PA ++ PB = x := ⟨_, rfl⟩
          have hEl : E.length ≤ 480600 := by rw [← hE, List.length_append]; omega
          rw [hE] at HEN
          have HE := hid_ hE
          clear hE
          have h3 := h2.alloc (.cells #[] 5 (0, 0))
          have h4 := OwnB.ofNew (l := []) (n := 0) h3 rfl rfl (by omega)
          have r4 := OwnB.rd (Sat.front [_, _, _] h4)
          go_wp2_with (at_builtin; refine wpList_append_b (w0 := w) rfl _ _ 22 rfl rfl h4 rfl (slSrc r4) PA PA.length rfl rfl (by omega) ?_)
          intro aE1 cE1 wE1 h5
          have r5 := OwnB.rd h5.swap
          go_wp2_with (at_builtin; refine wpList_append_b (w0 := w) rfl _ _ 22 rfl rfl h5 rfl (slSrc r5) E E.length HE.out rfl (by omega) ?_)
          intro aE cE wE h6
          clear r5 r4 h5 h4 h3 h2
          have hDec := frame_Decode (b := E) (by omega) h6 (fun W L' h => OwnB.rd (Sat.front L' h))
          have hD0 : decF E = (0, F.map FrX.f) := by rw [← HEN.out]; exact decF_all HFM.out
          rw [hD0] at hDec
          have HDec := hid_ hDec
          clear hDec hD0
          go_wp2_with fail
          refine HDec.out.mono ?_
          rintro _ w3 ⟨a3, c3, rfl, h7⟩
          dsimp only at h7
          have hqm : (F.map FrX.f).length = F.length := List.length_map _
          rw [hqm] at h7 ⊢
          have hSF := ref_SameFrames (w := w3) (a := a3) (b := a6) (n := F.length) (c := c3) (d := c6) (l := F.map FrX.f) hqm (by unfold maxLen; omega) (FramesA.rd h7) (FramesS.rd (Sat.front [_, _, _] h7))
          have HSF := hid_ hSF
          clear hSF HDec hqm h6
          go_wp2_with fail
          refine HSF.out.mono ?_
          rintro _ w4 ⟨rfl, hb4⟩
          have h8 := (h7.under hb4).drop
          clear h7 hb4 HSF
          obtain ⟨ch, hch⟩ : ∃ ch : UInt8, ch = UInt8.ofNat (9 + xb % 200) := ⟨_, rfl⟩
          have hcn : ch.toNat = 9 + xb % 200 := by rw [hch]; exact toNat_of (by omega)
          have h9 := h8.alloc (.cells #[.int .u8 (9 + (xb : Int) % 200)] 5 (0, 0))
          have r9 := OwnB.rd (OwnB.ofNew (l := [ch]) (n := 1) h9 (by simp only [bytesC, List.map_cons, List.map_nil, hcn]; congr 3) rfl (by omega))
          have hsp := decF_spoilt HFM.out (x := ch) (.inr (by omega))
          rw [HEN.out] at hsp
          obtain ⟨⟨eG, lG⟩, hxG⟩ : ∃ x, decF (E ++ [ch]) = x := ⟨_, rfl⟩
          rw [hxG] at hsp
          dsimp only at hsp
          subst hsp
          have HXG := hid_ hxG
          clear hch hcn hxG
          go_wp2_with (at_builtin; refine wpList_append_k (w0 := w) rfl _ _ 22 rfl rfl h9.swap rfl (slSrc r9) (E ++ [ch]) (E.length + 1) rfl (by simp) (by omega) ?_)
          intro aG cG wG N h10 hK
          have hgl : (E ++ [ch]).length = E.length + 1 := by simp
          have hDG := frame_Decode (b := E ++ [ch]) (by rw [hgl]; omega) (v := .slice aG (E.length + 1) cG) h10 (fun W L' h => by have := OwnB.rd (Sat.front L' h); exact this)
          rw [HXG.out] at hDG
          have HDG := hid_ hDG
          clear hDG r9 h9 h8 hgl
          go_wp2_with fail
          refine HDG.out.mono ?_
          rintro _ w11 ⟨a11, c11, rfl, h11⟩
          have h12 := OwnB.ofNew (l := []) (n := 0) (h11.alloc (.cells #[] 5 (0, 0))) rfl rfl (by omega)
          have r12 := hK.out _ [_, _] h12
          go_wp2_with (at_builtin; refine wpList_append_b (w0 := w) rfl _ _ 22 rfl rfl h12 rfl (slSrc r12) E E.length rfl rfl (by omega) ?_)
          intro aH cH wH h13
          clear r12 h12 h11
          have h14 := h13.alloc (.cells #[.int .u8 0] 5 (0, 0))
          have r14 := OwnB.rd (OwnB.ofNew (l := [0]) (n := 1) h14 rfl rfl (by omega))
          have hsp := decF_spoilt HFM.out (x := 0) (.inl (by decide))
          rw [HEN.out] at hsp
          obtain ⟨⟨eG, lG2⟩, hxG⟩ : ∃ x, decF (E ++ [0]) = x := ⟨_, rfl⟩
          rw [hxG] at hsp
          dsimp only at hsp
          subst hsp
          have HXG2 := hid_ hxG
          clear hxG
          go_wp2_with (at_builtin; refine wpList_append_b (w0 := w) rfl _ _ 22 rfl rfl h14.swap rfl (slSrc r14) (E ++ [0]) (E.length + 1) rfl (by simp) (by omega) ?_)
          intro aI cI wI h15
          have hgl : (E ++ [(0 : UInt8)]).length = E.length + 1 := by simp
          have hDH := frame_Decode (b := E ++ [0]) (by rw [hgl]; omega) (v := .slice aI (E.length + 1) cI) h15 (fun W L' h => by have := OwnB.rd (Sat.front L' h); exact this)
          rw [HXG2.out] at hDH
          have HDH := hid_ hDH
          clear hDH r14 h14 h13 hgl
          go_wp2_with fail
          refine HDH.out.mono ?_
          rintro _ w16 ⟨a16, c16, rfl, h16⟩
          go_wp2_with fail
          refine (frame_awake h16).mono ?_
          rintro _ w17 ⟨rfl, h17⟩
          go_wp2_with fail
          go_ret
          exact ⟨rfl, h17.below⟩
end
end Go.Proofs.Ytlkkmnbglememaa
