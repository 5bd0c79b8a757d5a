/- The law FrameBack, walked. -/
import Derived.Deep.DeepCutAuto
import Derived.Test.YtlkkmnbglememaaFrX
import Derived.Test.YtlkkmnbglememaaOpnF
import Derived.Test.YtlkkmnbglememaaFoc
namespace Go.Proofs.Ytlkkmnbglememaa
open Go Go.RowKit
set_option linter.unusedVariables false
set_option linter.unusedSimpArgs false

def mayL (l : List FrX) : List FrX := l.filter (fun y => y.f.may)
theorem mayL_snoc (l : List FrX) (y : FrX) : mayL (l ++ [y]) = mayL l ++ if y.f.may then [y] else [] := by
  unfold mayL
  rw [List.filter_append]
  cases h : y.f.may <;> simp [h]
theorem mayL_all (l : List FrX) : ∀ f ∈ (mayL l).map FrX.f, f.may = true := by
  intro f hf
  obtain ⟨y, hy, rfl⟩ := List.mem_map.1 hf
  exact (List.mem_filter.1 hy).2
theorem mayL_len (l : List FrX) : (mayL l).length ≤ l.length := List.length_filter_le _ _
theorem may_name {f : FrM} (h : f.may = true) : f.addr.name.size ≤ maxLen := by
  by_cases k1 : f.kind = 1
  · have h1 := ((may_iff f.addr).1 ((fmay_facts h).2.2.2.2.1 k1)).2.2
    unfold maxLen
    rcases h1 with ⟨_, _, h5⟩ | ⟨_, _, h5⟩ | ⟨_, h5, _⟩
    · omega
    · omega
    · have := nameOk_len h5; rw [size_data] at this; omega
  · rw [may_plain h]
    unfold FrM.plain
    rw [if_neg k1]
    split
    · exact Nat.zero_le _
    · split
      · exact Nat.zero_le _
      · split <;> exact Nat.zero_le _
theorem encL_count {l : List FrM} : l.length * 3 ≤ (encL l).length := by
  induction l with
  | nil => simp [encL]
  | cons f l ih =>
    rw [encL_cons, List.length_append, List.length_cons]
    have h2 := enc_len3 f
    omega
theorem encL_take {l : List FrM} (i : Nat) : (encL (l.take i)).length ≤ (encL l).length := by
  conv => rhs; rw [← List.take_append_drop i l]
  rw [encL_append, List.length_append]
  omega
theorem take_snoc_at {α : Type} {l : List α} {i : Nat} {y : α} (h : l[i]? = some y) : l.take (i + 1) = l.take i ++ [y] := by
  have hi : i < l.length := (List.getElem?_eq_some_iff.1 h).1
  rw [List.take_succ_eq_append_getElem hi]
  have h2 : l[i]? = some l[i] := List.getElem?_eq_getElem hi
  rw [h2] at h
  injection h with h
  rw [h]
theorem encL_len_le {l : List FrM} (h : ∀ f ∈ l, f.may = true) : (encL l).length ≤ l.length * 4005 := by
  induction l with
  | nil => simp [encL]
  | cons f l ih =>
    rw [encL_cons, List.length_append, List.length_cons]
    have h1 := tail_len (h f (by simp))
    have h2 := enc_len3 f
    have h3 := ih (fun g hg => h g (by simp [hg]))
    omega
/-- The bytes of those that may be. -/
def encM (l : List FrX) : List UInt8 := encL ((mayL l).map FrX.f)
theorem encM_snoc (l : List FrX) (y : FrX) : encM (l ++ [y]) = encM l ++ if y.f.may then y.f.enc else [] := by
  unfold encM
  rw [mayL_snoc, List.map_append, encL_append]
  cases h : y.f.may <;> simp [encL]
theorem encM_len (l : List FrX) : (encM l).length ≤ l.length * 4005 := by
  unfold encM
  have h1 := encL_len_le (mayL_all l)
  have h2 := mayL_len l
  rw [List.length_map] at h1
  exact Nat.le_trans h1 (Nat.mul_le_mul_right _ h2)

section
variable {w0 w : World} {L : List Assn}
theorem Sat.rot {A : Assn} (h : Sat w0 w (A :: L)) : Sat w0 w (L ++ [A]) := Sat.back L (by rw [List.append_nil]; exact h)
theorem Sat.d3 {A B C D : Assn} (h : Sat w0 w (A :: B :: C :: D :: L)) : Sat w0 w (A :: B :: L) := (Sat.front [_, _] (Sat.front [_, _, _] h).drop).drop
set_option maxRecDepth 100000 in
set_option maxHeartbeats 1600000 in
theorem frame_back_law (v u : Value) (w : World) (hv : IsFrames w v) (hu : IsBytes w u) :
    Calls Try.prog 5 #[v, u] w fun e w' => e = .returned (.bool true) ∧ Below w.heap.size w w' := by
  obtain ⟨al, cl, l, rfl, hl⟩ := hv
  obtain ⟨raw, hraw⟩ := hu
  obtain ⟨ar, cr, rfl, hcr, hcm, -⟩ := hraw.form
  have hs := Sat.refl w
  have hln : l.length ≤ maxLen := Nat.le_trans hl.1 hl.2.1
  obtain ⟨n, hn⟩ : ∃ n, l.length = n := ⟨_, rfl⟩
  have HN := hid_ hn
  rw [hn] at hln ⊢
  clear hn
  have hrl := hraw.len
  unfold maxLen at hrl hln
  have hL := hid_ (frame_Light (a := al) (n := n) (c := cl) (by unfold maxLen; exact hln) hs (fun W L' h i hi => by
    obtain ⟨y, hy⟩ : ∃ y, l[i]? = some y := ⟨_, List.getElem?_eq_getElem (by rw [HN.out]; exact hi)⟩
    obtain ⟨b, o, e, h1, _⟩ := RdL.at (RdFrames.mono hl h.below) hy
    exact ⟨b, o, y.f, _, _, e, h1⟩))
  go_enter Try.func5, Try.ntmps5
  go_wp2_with fail
  refine hL.out.mono ?_
  rintro _ w1 ⟨k, rfl, hk0, hk60, h1⟩
  clear hL
  by_cases hk : 0 < k
  · have q : decide (0 < k) = true := by simpa using hk
    go_wp2_with fail
    refine (frame_awake h1).mono ?_
    rintro _ w2 ⟨rfl, h2⟩
    go_wp2_with fail
    go_ret
    exact ⟨rfl, h2.below⟩
  obtain rfl : k = 0 := by omega
  have hn60 := hk60 rfl
  clear hk hk0 hk60
  by_cases hr5 : 500 < raw.length
  · have q : decide ((500 : Int) < (raw.length : Int)) = true := by simp; omega
    go_wp2_with fail
    refine (frame_awake h1).mono ?_
    rintro _ w2 ⟨rfl, h2⟩
    go_wp2_with fail
    go_ret
    exact ⟨rfl, h2.below⟩
  have q : decide ((500 : Int) < (raw.length : Int)) = false := by simp; omega
  go_wp2_with fail
  go_loopg [5, 6, 33] n (fun gg v5 v6 v33 wr => ∃ i : Nat, i ≤ n ∧ n - i ≤ gg ∧ v33 = .int .i64 i ∧ Sat w wr [OwnB 5 v5 (encM (l.take i)), FramesS w v6 (mayL (l.take i))])
  case atStart => exact ⟨0, Nat.zero_le _, by omega, rfl, OwnB.nilI (OwnL.nilI h1)⟩
  case round =>
    obtain ⟨i, hi, hgg, rfl, h2⟩ := hrel
    clear h1
    obtain ⟨a5, c5, rfl, -⟩ := OwnB.slice h2
    obtain ⟨a6, c6, rfl, -, -⟩ := OwnL.form h2.drop
    by_cases hlt : i < n
    · obtain ⟨y, hy⟩ : ∃ y, l[i]? = some y := ⟨_, List.getElem?_eq_getElem (by rw [HN.out]; exact hlt)⟩
      obtain ⟨b, o, rfl, hf, hrx⟩ := RdL.at (RdFrames.mono hl h2.below) hy
      have hrx0 : RdX w y := (RdL.at hl hy).choose_spec.choose_spec.2.2
      obtain ⟨x0, x1, x2, x3, x4, x5, x6, x7, x8⟩ := hf.nine
      have hts : l.take (i + 1) = l.take i ++ [y] := by
        have hli : i < l.length := by rw [HN.out]; exact hlt
        rw [List.take_succ_eq_append_getElem hli]
        have : l[i]? = some l[i] := List.getElem?_eq_getElem hli
        rw [this] at hy
        injection hy with hy
        rw [hy]
      have HT := hid_ hts
      have hel := encM_len (l.take i)
      have hml := mayL_len (l.take i)
      have hti : (l.take i).length ≤ 60 := by rw [List.length_take]; omega
      have hb1 : (encM (l.take i)).length ≤ 240300 := by omega
      have hb2 : (mayL (l.take i)).length ≤ 60 := by omega
      have z1 : 0 ≤ (i : Int) ∧ (i : Int) < (n : Int) := by omega
      have h3 := h2.alloc (frO y.f y.ip y.d)
      clear hy hf hts hel hml hti
      obtain ⟨f, x, z, c, k⟩ := y
      unfold FrX.ip FrX.d at *
      dsimp only at *
      obtain ⟨P, hP⟩ : ∃ P, encM (l.take i) = P := ⟨_, rfl⟩
      obtain ⟨Q, hQ⟩ : ∃ Q, mayL (l.take i) = Q := ⟨_, rfl⟩
      rw [hP] at hb1 h3 ⊢
      rw [hQ] at hb2 h3 ⊢
      have HP := hid_ hP
      have HQ := hid_ hQ
      obtain ⟨mb, hmb⟩ : ∃ mb, f.may = mb := ⟨_, rfl⟩
      clear hP hQ h2
      have hM := fun (W : World) (h : Below w.heap.size w W) => frame_May (w := W) f x z c k (hrx0.mono h)
      rw [hmb] at hM
      unfold frV at hM
      have HM := hid_ hM
      unfold frO at h3
      clear hM
      cases mb
      · have HE := hid_ (frame_Encode_no f x z c k hmb (hrx0.mono h3.below) h3)
        have HX := hid_ (show encM (l.take (i + 1)) = P by rw [HT.out, encM_snoc, HP.out]; simp [hmb])
        have HY := hid_ (show mayL (l.take (i + 1)) = Q by rw [HT.out, mayL_snoc, HQ.out]; simp [hmb])
        unfold frV at HE
        clear hmb
        go_wp2_with fail
        refine HE.out.mono ?_
        rintro _ w4 ⟨rfl, h4⟩
        obtain ⟨m0, m1, m2, m3, m4, m5, m6, m7, m8⟩ := h4.cells9
        go_wp2_with fail
        refine (HM.out _ h4.below).mono ?_
        rintro _ w5 ⟨rfl, hb5⟩
        have h5 := h4.under hb5
        go_wp2_with fail
        go_roundg (n - (i + 1))
        case measure => omega
        case rel => exact ⟨i + 1, by omega, by omega, by go_num, by rw [HX.out, HY.out]; exact h5.drop⟩
      · have HE := hid_ (frame_Encode_yes f x z c k hmb h3 (fun W L' h => hrx0.mono h.below))
        have HX := hid_ (show encM (l.take (i + 1)) = P ++ f.enc by rw [HT.out, encM_snoc, HP.out]; simp [hmb])
        have HY := hid_ (show mayL (l.take (i + 1)) = Q ++ [⟨f, x, z, c, k⟩] by rw [HT.out, mayL_snoc, HQ.out]; simp [hmb])
        have hfl := tail_len hmb
        have hfl2 := enc_len3 f
        have hfl3 : f.enc.length ≤ 4005 := by omega
        unfold frV at HE
        clear hmb hfl hfl2
        obtain ⟨i0, hi0, hz0, hz1, hz2⟩ := finfo9
        go_wp2_with fail
        refine HE.out.mono ?_
        rintro _ w4 ⟨a4, k4, rfl, h4⟩
        have h4' := h4.swap
        obtain ⟨m0, m1, m2, m3, m4, m5, m6, m7, m8⟩ := h4'.cells9
        go_wp2_with fail
        refine (HM.out _ h4.below).mono ?_
        rintro _ w5 ⟨rfl, hb5⟩
        have h5 := h4.under hb5
        clear m0 m1 m2 m3 m4 m5 m6 m7 m8
        go_wp2_with (at_builtin; refine wpList_append_b (w0 := w) rfl _ _ 22 rfl rfl (Sat.front [_, _] h5) rfl (slSrc (OwnB.rd h5)) _ (P.length + f.enc.length) rfl (by simp) (by omega) ?_)
        intro a6' k6 w6 h6
        have hB6 := Sat.front [_, _] h6
        obtain ⟨m0, m1, m2, m3, m4, m5, m6, m7, m8⟩ := hB6.cells9
        have hT : ∀ o, Sat w (w6.alloc o) (FramesS w (.slice a6 Q.length c6) Q :: FrS w ⟨f, x, z, c, k⟩ (frXC ⟨f, x, z, c, k⟩) :: OwnB 5 (.slice a6' (P.length + f.enc.length) k6) (P ++ f.enc) :: _) :=
          fun o => (FrS.mk (y := ⟨f, x, z, c, k⟩) hrx0 (Sat.front [_, _, _] (h6.alloc_ o))).swap
        go_wp2_with (at_builtin; go_must (refine wpList_append_one (w0 := w) (e := 26) (sz := 9) (El := FrS w) rfl _ _ 28 28 rfl Try.underlying28 hi0 hz0 hz1 hz2 rfl ⟨f, x, z, c, k⟩ rfl (hT _) rfl (src_blk (t := 26) (cs := frXC ⟨f, x, z, c, k⟩) Try.underlying28 ?c2 rfl ?c3) ?c4 ?c5 ?c6))
        case c2 => exact alloc_at rfl
        case c3 => exact frC_one _ rfl rfl
        case c4 => simp only [maxLen]; omega
        case c5 => omega
        intro a7 c7 w7 h7
        go_wp2_with fail
        go_roundg (n - (i + 1))
        case measure => omega
        case rel => exact ⟨i + 1, by omega, by omega, by go_num, by rw [HX.out, HY.out]; exact Sat.re [0, 1] [_, _] (Sat.re [1, 0, 2, 3] [_, _, _, _] h7).d3⟩
    · obtain rfl : i = n := by omega
      have htl : l.take i = l := List.take_of_length_le (by rw [HN.out]; exact Nat.le_refl _)
      rw [htl] at h2 ⊢
      have hPl := encM_len l
      have hQl := mayL_len l
      have hD := decF_all (mayL_all l)
      obtain ⟨P, hP⟩ : ∃ P, encM l = P := ⟨_, rfl⟩
      obtain ⟨Q, hQ⟩ : ∃ Q, mayL l = Q := ⟨_, rfl⟩
      have hless : 0 < P.length → (decF (P.take (P.length - 1))).1 = 2 := fun h => by rw [← hP] at h ⊢; exact decF_less (mayL_all l) h
      have hD2 : decF P = (0, Q.map FrX.f) := by rw [← hP, ← hQ]; exact hD
      rw [hP] at h2 hPl ⊢
      rw [hQ] at h2 hQl ⊢
      have hn2 : l.length ≤ 60 := by rw [HN.out]; exact hn60
      have hb1 : P.length ≤ 240300 := Nat.le_trans hPl (by omega)
      have hb2 : Q.length ≤ 60 := by omega
      have Hless := hid_ hless
      have HD := hid_ hD2
      clear hless hD hD2 hPl hQl hP hQ htl hn2 hlt hgg hi
      have hqm : (Q.map FrX.f).length = Q.length := List.length_map _
      have hDec := frame_Decode (b := P) (by omega) h2 (fun W L' h => OwnB.rd (Sat.front L' h))
      rw [HD.out] at hDec
      have HDec := hid_ hDec
      clear hDec
      go_wp2_with fail
      refine HDec.out.mono ?_
      rintro _ w3 ⟨a3, c3, rfl, h3⟩
      dsimp only at h3
      rw [hqm] at h3 ⊢
      have hSF := ref_SameFrames (w := w3) (a := a3) (b := a6) (n := Q.length) (c := c3) (d := c6) (l := Q.map FrX.f) hqm (by unfold maxLen; omega) (FramesA.rd h3) (FramesS.rd (Sat.front [_, _] h3))
      have HSF := hid_ hSF
      have Hqm := hid_ hqm
      clear hSF HDec hqm
      go_wp2_with fail
      refine HSF.out.mono ?_
      rintro _ w4 ⟨rfl, hb4⟩
      have h4 := (h3.under hb4).drop
      clear h3 hb4 HSF h2
      go_upto_if 72 with fail
      go_cut [] (fun wx => Sat w wx [])
      case first =>
        by_cases hp0 : 0 < P.length
        · obtain ⟨b5, o5, c5', he5, -, -, -, -⟩ := (OwnB.rd h4).at (i := 0) hp0
          injection he5 with he6 _ he7
          subst he6 he7
          obtain ⟨a0, c0, e0, hle, -⟩ := OwnS.form h4
          injection e0 with e1 _ e2
          subst e1 e2
          have t1 : ((P.length : Int) - 1).toNat = P.length - 1 := by omega
          have b0 : 1 ≤ (P.length : Int) ∧ 0 ≤ (P.length : Int) - 1 ∧ (P.length : Int) - 1 ≤ (c5 : Int) := by omega
          have q0 : decide ((0 : Int) < (P.length : Int)) = true := decide_eq_true (by omega)
          have q1 : decide (0 < P.length) = true := decide_eq_true hp0
          have hvP : Vw w [OwnB 5 (.slice (some ⟨b5, o5, none⟩) P.length c5) P, FramesS w (.slice a6 Q.length c6) Q] (.slice (some ⟨b5, o5, none⟩) P.length c5) P := fun W L' h => OwnB.rd (Sat.front L' h)
          have hD3 := frame_Decode (b := P.take (P.length - 1)) (by rw [List.length_take]; omega) h4 (hvP.take (by omega))
          have he2 := Hless.out hp0
          obtain ⟨⟨e2, l2⟩, hx2⟩ : ∃ x, decF (P.take (P.length - 1)) = x := ⟨_, rfl⟩
          rw [hx2] at hD3 he2
          dsimp only at he2
          subst he2
          have HD3 := hid_ hD3
          clear hD3 hx2
          go_wp2_with fail
          refine HD3.out.mono ?_
          rintro _ w5 ⟨a5', c5', rfl, h5⟩
          go_wp2_with fail
          go_meet
          exact h5.drop.drop.drop
        · have q0 : decide ((0 : Int) < (P.length : Int)) = false := decide_eq_false (by omega)
          have q1 : decide (0 < P.length) = false := decide_eq_false (by omega)
          go_wp2_with fail
          go_meet
          exact h4.drop.drop
      obtain ⟨⟨e2, m⟩, hx2⟩ : ∃ x, decF raw = x := ⟨_, rfl⟩
      have hD4 := frame_Decode (b := raw) (v := .slice ar raw.length cr) (by omega) hcut (fun W L' h => hraw.later h)
      rw [hx2] at hD4
      have HD4 := hid_ hD4
      have HX2 := hid_ hx2
      clear hD4 hx2 h4
      go_wp2_with fail
      refine HD4.out.mono ?_
      rintro _ w5 ⟨a8, c8, rfl, h5⟩
      dsimp only at h5
      by_cases he2 : e2 = 0
      · subst he2
        obtain ⟨hen, hma⟩ := decF_back HX2.out
        have HEN := hid_ hen
        have HMA := hid_ hma
        clear hen hma
        have hcn := encL_count (l := m)
        rw [HEN.out] at hcn
        have hm5 : m.length ≤ 166 := by omega
        clear hcn hcut
        go_wp2_with fail
        go_loopg [17, 99] m.length (fun gg v17 v99 wr => ∃ j : Nat, j ≤ m.length ∧ m.length - j ≤ gg ∧ v99 = .int .i64 j ∧ Sat w wr [OwnB 5 v17 (encL (m.take j)), FramesA (.slice a8 m.length c8) m])
        case atStart => exact ⟨0, Nat.zero_le _, by omega, rfl, OwnB.nilI h5⟩
        case round =>
          obtain ⟨j, hj, hgg, rfl, h6⟩ := hrel
          clear h5
          obtain ⟨a17, c17, rfl, -⟩ := OwnB.slice h6
          have hpl := encL_take (l := m) j
          rw [HEN.out] at hpl
          by_cases hlt : j < m.length
          · obtain ⟨f, hf⟩ : ∃ f, m[j]? = some f := ⟨_, List.getElem?_eq_getElem hlt⟩
            have hmay := HMA.out f (List.mem_of_getElem? hf)
            obtain ⟨b8, o8, c8', x, z, c, k, R, he8, hrd, h7, hun⟩ := FramesA.focus h6.swap hf
            injection he8 with he9 _ he10
            subst he9 he10
            have HT := hid_ (show encL (m.take (j + 1)) = encL (m.take j) ++ f.enc by rw [take_snoc_at hf, encL_snoc])
            obtain ⟨x0, x1, x2, x3, x4, x5, x6, x7, x8⟩ := (hrd _ [] h7).nine
            obtain ⟨P, hP⟩ : ∃ P, encL (m.take j) = P := ⟨_, rfl⟩
            rw [hP] at h7 hpl HT hrd ⊢
            have HRD := hid_ hrd
            have HUN := hid_ hun
            have hn0 := may_name hmay
            have h8 := h7.alloc (frO f (.slice x f.addr.ip.length c) (.slice z f.data.length k))
            have HE := hid_ (frame_Encode_yes f x z c k hmay h8 (fun W L' h => ⟨(HRD.out W (L' ++ [_]) (by rw [List.append_assoc]; exact h)).ip, (HRD.out W (L' ++ [_]) (by rw [List.append_assoc]; exact h)).data, hn0⟩))
            have hfl := tail_len hmay
            have hfl2 := enc_len3 f
            have hfl3 : f.enc.length ≤ 4005 := by omega
            have z1 : 0 ≤ (j : Int) ∧ (j : Int) < (m.length : Int) := by omega
            unfold frV frO at HE
            clear hmay hrd hun hf hP hfl hfl2 h8 h6
            go_wp2_with fail
            refine HE.out.mono ?_
            rintro _ w9 ⟨a9, k9, rfl, h9⟩
            have h10 : Sat w w9 [FramesA (.slice (some ⟨b8, o8, none⟩) m.length c8) m, OwnB 5 (.slice a17 P.length c17) P, OwnB 5 (.slice a9 f.enc.length k9) f.enc] := HUN.out w9 [_, _] (by simpa using (Sat.rot h9.d2))
            go_wp2_with (at_builtin; refine wpList_append_b (w0 := w) rfl _ _ 22 rfl rfl h10.swap rfl (slSrc (OwnB.rd (Sat.front [_, _] h10))) _ (P.length + f.enc.length) rfl (by simp) (by omega) ?_)
            intro a11 k11 w11 h11
            go_wp2_with fail
            go_roundg (m.length - (j + 1))
            case measure => omega
            case rel => exact ⟨j + 1, by omega, by omega, by go_num, by rw [HT.out]; exact (Sat.re [0, 1, 2] [_, _, _] h11 : Sat w w11 [_, _, _]) |> fun h => (Sat.front [_, _] h).drop⟩
          · obtain rfl : j = m.length := by omega
            have hE : encL (m.take m.length) = raw := by rw [List.take_length, HEN.out]
            rw [hE] at h6 ⊢
            have kc1 : (convert 22 9 (.slice a17 raw.length c17)).run Try.prog wr = .ok (.string (strOf raw)) wr := conv_rd Try.underlying22 Try.underlying5 Try.underlying9 (OwnB.rd h6)
            have kc2 : (convert 22 9 (.slice ar raw.length cr)).run Try.prog wr = .ok (.string (strOf raw)) wr := conv_rd Try.underlying22 Try.underlying5 Try.underlying9 (hraw.later h6)
            clear hE
            go_wp2_with fail
            refine (frame_awake h6).mono ?_
            rintro _ w12 ⟨rfl, h12⟩
            go_wp2_with fail
            go_ret
            exact ⟨rfl, h12.below⟩
      · have hm0 : m = [] := by
          have := decFn_inv raw.length raw (by rw [show decFn raw.length raw = decF raw from rfl, HX2.out]; exact he2)
          rw [show decFn raw.length raw = decF raw from rfl, HX2.out] at this
          exact this
        subst hm0
        have qe : (e2 != 0) = true := by simp [he2]
        go_wp2_with fail
        refine (frame_awake h5).mono ?_
        rintro _ w6 ⟨rfl, h6⟩
        go_wp2_with fail
        go_ret
        exact ⟨rfl, h6.below⟩
end
end Go.Proofs.Ytlkkmnbglememaa
