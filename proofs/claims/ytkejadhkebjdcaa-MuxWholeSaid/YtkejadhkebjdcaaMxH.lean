/- The law MuxWhole, walked. -/
import Derived.BigQuiet
import Derived.Test.YtkejadhkebjdcaaMxG
import Derived.Test.YtkejadhkebjdcaaFrQ
import Derived.Test.YtkejadhkebjdcaaMxK
namespace Go.Proofs.Ytkejadhkebjdcaa
open Go Go.RowKit
set_option linter.unusedVariables false
set_option linter.unusedSimpArgs false

def mayX (l : List FrX) : List FrX := l.filter (fun y => y.f.may)
theorem mayX_snoc (l : List FrX) (y : FrX) : mayX (l ++ [y]) = mayX l ++ if y.f.may then [y] else [] := by
  unfold mayX
  rw [List.filter_append]
  cases h : y.f.may <;> simp [h]
theorem mayX_map (l : List FrX) : (mayX l).map FrX.f = (l.map FrX.f).filter (fun f => f.may) := by
  unfold mayX
  rw [List.filter_map]
  rfl
theorem mayX_len (l : List FrX) : (mayX l).length ≤ l.length := List.length_filter_le _ _
theorem may_nameX {f : FrM} (h : f.may = true) : f.addr.name.size ≤ maxLen := by
  by_cases k1 : f.kind = 1
  · have h1 := ((may_iff f.addr).1 ((fmay_facts h).2.2.2.2.1 k1)).2.2
    unfold maxLen
    rcases h1 with ⟨_, _, h5⟩ | ⟨_, _, h5⟩ | ⟨_, h5, _⟩
    · omega
    · omega
    · have := nameOk_len h5; rw [size_data] at this; omega
  · rw [may_plain h]
    unfold FrM.plain
    rw [if_neg k1]
    split
    · exact Nat.zero_le _
    · split
      · exact Nat.zero_le _
      · split <;> exact Nat.zero_le _
theorem flat_le {α : Type} (gs : List (List α)) (j : Nat) : (gs.take j).flatten.length ≤ gs.flatten.length := by
  conv => rhs; rw [← List.take_append_drop j gs]
  rw [List.flatten_append, List.length_append]
  omega

set_option maxRecDepth 100000 in
set_option maxHeartbeats 4000000 in
theorem mux_whole_law (v : Value) (w : World) (hv : IsFrames w v) :
    Calls Try.prog 8 #[v] w fun e w' => e = .returned (.bool true) ∧ Below w.heap.size w w' := by
  obtain ⟨a, c, l, rfl, ha⟩ := hv
  have hs := Sat.refl w
  have hln : l.length ≤ maxLen := Nat.le_trans ha.1 ha.2.1
  obtain ⟨n, hn⟩ : ∃ n, l.length = n := ⟨_, rfl⟩
  have HN := hid_ hn
  rw [hn] at hln ⊢
  clear hn
  unfold maxLen at hln
  go_enter Try.func8, Try.ntmps8
  go_wp2_with fail
  go_loopg [3, 4, 17] 61 (fun gg v3 v4 v17 wr => ∃ (i : Nat) (N : Int), i ≤ n ∧ i ≤ 60 ∧ 61 - i ≤ gg ∧ v17 = .int .i64 i ∧ v3 = .int .i64 N ∧ Sat w wr [FramesS w v4 (mayX (l.take i))])
  case atStart => exact ⟨0, 0, Nat.zero_le _, Nat.zero_le _, by omega, rfl, rfl, OwnL.nilI hs⟩
  case round =>
    obtain ⟨i, N, hi, hi2, hgg, rfl, rfl, h1⟩ := hrel
    clear hs
    obtain ⟨a6, c6, rfl, -, -⟩ := OwnL.form h1
    by_cases hlt : i < n
    · obtain ⟨y, hy⟩ : ∃ y, l[i]? = some y := ⟨_, List.getElem?_eq_getElem (by rw [HN.out]; exact hlt)⟩
      obtain ⟨bq, oq, rfl, hf, hrx⟩ := RdL.at (RdFrames.mono ha h1.below) hy
      have hrx0 : RdX w y := (RdL.at ha hy).choose_spec.choose_spec.2.2
      obtain ⟨x0, x1, x2, x3, x4, x5, x6, x7, x8⟩ := hf.nine
      have HT := hid_ (take_snoc_mu hy)
      have z1 : 0 ≤ (i : Int) ∧ (i : Int) < (n : Int) := by omega
      have h2 := h1.alloc (frO y.f y.ip y.d)
      clear hy hf
      obtain ⟨f, x, z, c', k⟩ := y
      unfold FrX.ip FrX.d at *
      dsimp only at *
      obtain ⟨Q, hQ⟩ : ∃ Q, mayX (l.take i) = Q := ⟨_, rfl⟩
      have hq1 : Q.length ≤ 60 := by rw [← hQ]; exact Nat.le_trans (mayX_len _) (by rw [List.length_take]; omega)
      rw [hQ] at h2 ⊢
      have HQ := hid_ hQ
      clear hQ h1
      have HM := hid_ (frame_May (w := wr.alloc (frO f (.slice x f.addr.ip.length c') (.slice z f.data.length k))) f x z c' k (hrx.mono ((Below.refl _ _).alloc (Nat.le_refl _) _)))
      unfold frV at HM
      unfold frO at h2 HM
      by_cases h60 : 60 ≤ i
      · have q60 : decide ((60 : Int) ≤ (i : Int)) = true := by simp; omega
        go_wp2_with fail
        refine (mx_awake h2).mono ?_
        rintro _ w2 ⟨rfl, h3⟩
        go_wp2_with fail
        go_ret
        exact ⟨rfl, h3.below⟩
      · have q60 : decide ((60 : Int) ≤ (i : Int)) = false := by simp; omega
        go_wp2_with fail
        · refine (mx_awake h2).mono ?_
          rintro _ w2 ⟨rfl, h3⟩
          go_wp2_with fail
          go_ret
          exact ⟨rfl, h3.below⟩
        · refine HM.out.mono ?_
          rintro _ w3 ⟨rfl, hb3⟩
          have h3 := h2.under hb3
          clear h2
          obtain ⟨mb, hmb⟩ : ∃ mb, f.may = mb := ⟨_, rfl⟩
          rw [hmb]
          cases mb
          · have HX := hid_ (show mayX (l.take (i + 1)) = Q by rw [HT.out, mayX_snoc, HQ.out]; simp [hmb])
            clear hmb
            go_wp2_with fail
            go_roundg (61 - (i + 1))
            case measure => omega
            case rel => exact ⟨i + 1, _, by omega, by omega, by omega, by go_num, rfl, by rw [HX.out]; exact h3.drop⟩
          · have HX := hid_ (show mayX (l.take (i + 1)) = Q ++ [⟨f, x, z, c', k⟩] by rw [HT.out, mayX_snoc, HQ.out]; simp [hmb])
            clear hmb
            have h4 := h3.alloc (.cells #[.int .i64 f.kind, .int .i64 f.stream, .int .i64 f.code, .int .i64 f.n, .int .i64 f.addr.kind, .slice x f.addr.ip.length c', .string f.addr.name, .int .i64 f.addr.port, .slice z f.data.length k] 43 (0, 0))
            have b4 := (Sat.blk h4).1
            have h5 := (FrS.mk (y := ⟨f, x, z, c', k⟩) hrx0 h4.drop.drop).swap
            obtain ⟨c0, c1, c2, c3, c4, c5, c7, c8, c9⟩ := h3.cells9
            obtain ⟨i0, hi0, hz0, hz1, hz2⟩ := finfo9
            go_wp2_with (at_builtin; refine wpList_append_one (w0 := w) (e := 43) (sz := 9) (El := FrS w) rfl _ _ 34 34 rfl Try.underlying34 hi0 hz0 hz1 hz2 rfl (⟨f, x, z, c', k⟩ : FrX) rfl h5 rfl (src_blk (t := 43) (cs := frXC ⟨f, x, z, c', k⟩) Try.underlying34 b4 rfl (frC_one _ rfl rfl)) (by simp only [maxLen]; omega) (by omega) ?_)
            intro a8 c8 w8 h8
            go_wp2_with fail
            go_roundg (61 - (i + 1))
            case measure => omega
            case rel => exact ⟨i + 1, _, by omega, by omega, by omega, by go_num, rfl, by rw [HX.out]; simpa using h8⟩
    · obtain rfl : i = n := by omega
      have htl : l.take i = l := List.take_of_length_le (by rw [HN.out]; exact Nat.le_refl _)
      rw [htl] at h1 ⊢
      obtain ⟨gs, g1, g2, g3, g4⟩ := pack_groups (l.map FrX.f)
      have hfl : gs.flatten.length ≤ 60 := by rw [g2]; refine Nat.le_trans (List.length_filter_le _ _) ?_; rw [List.length_map, HN.out]; exact hi2
      have hmay : ∀ g ∈ gs, ∀ f ∈ g, f.may = true := fun g hg f hf => by
        have h : f ∈ gs.flatten := List.mem_flatten.2 ⟨g, hg, hf⟩
        rw [g2] at h
        exact (List.mem_filter.1 h).2
      have hxl := packM_len (l.map FrX.f)
      rw [g1, List.length_map, List.length_map, HN.out] at hxl
      have HP := mux_Pack HN.out hi2 ha h1
      rw [g1] at HP
      have HP := hid_ HP
      have HW := hid_ (show (mayX l).map FrX.f = gs.flatten by rw [mayX_map, g2])
      have HMAY := hid_ hmay
      have G3 := hid_ g3
      have G4 := hid_ g4
      clear ha htl g1 g2 hmay g3 g4 h1
      obtain ⟨W, hW⟩ : ∃ W, mayX l = W := ⟨_, rfl⟩
      rw [hW] at HP HW ⊢
      clear hW
      go_wp2_with fail
      refine HP.out.mono ?_
      rintro _ w2 ⟨a2, c2, rfl, h2⟩
      rw [List.length_map] at h2 ⊢
      obtain ⟨K, hK⟩ : ∃ K, gs.length = K := ⟨_, rfl⟩
      have HK := hid_ hK
      rw [hK] at h2 hxl ⊢
      clear hK HP hgg hlt
      go_wp2_with fail
      go_loopg [7, 8, 54] K (fun gg v7 v8 v54 wr => ∃ (j M : Nat), j ≤ K ∧ K - j ≤ gg ∧ v54 = .int .i64 j ∧ v8 = .int .i64 M ∧ M ≤ 4096 ∧ (∀ f r, gs[j]? = some (f :: r) → 0 < j → 4096 < M + f.enc.length) ∧ Sat w wr [FramesA v7 (gs.take j).flatten, Bodies (.slice a2 K c2) (gs.map encL), FramesS w (.slice a6 W.length c6) W])
      case atStart => exact ⟨0, 0, Nat.zero_le _, by omega, rfl, rfl, Nat.zero_le _, fun _ _ _ h => absurd h (Nat.lt_irrefl _), OwnL.nilI h2⟩
      case round =>
        obtain ⟨j, M, hj, hgg, rfl, rfl, hM, hch, h4⟩ := hrel
        clear h2
        obtain ⟨a7, c7, rfl, -, -⟩ := OwnL.form h4
        have hgl := flat_le gs j
        by_cases hlt : j < K
        · obtain ⟨g, hg⟩ : ∃ g, gs[j]? = some g := ⟨_, List.getElem?_eq_getElem (by rw [HK.out]; exact hlt)⟩
          obtain ⟨hne, hle⟩ := G3.out g (List.mem_of_getElem? hg)
          have hgm := HMAY.out g (List.mem_of_getElem? hg)
          have hgt := hid_ (show (gs.take (j + 1)).flatten = (gs.take j).flatten ++ g by rw [take_snoc_mu hg]; simp)
          have hgl2 := flat_le gs (j + 1)
          rw [hgt.out, List.length_append] at hgl2
          have HN1 := hid_ (fun f' r' (h : gs[j + 1]? = some (f' :: r')) => (by obtain ⟨f1, r1, e, h2⟩ := G4.out j g _ hg h; injection e with e1 _; rw [e1]; exact h2 : 4096 < (encL g).length + f'.enc.length))
          obtain ⟨b2, o2, k2, cs, R, he2, -, hcell, h5, hun⟩ := OwnL.focus h4.swap (show (gs.map encL)[j]? = some (encL g) by rw [List.getElem?_map, hg]; rfl)
          injection he2 with he2 hee he3
          clear hee
          subst he2 he3
          have hc0 := fun u hu => hcell wr [] h5 0 u hu
          obtain ⟨v, rfl, h6⟩ := BodE.opn h5
          obtain ⟨ab, cb, rfl, -⟩ := OwnB.slice h6
          have x0 := hc0 _ rfl
          rw [Nat.mul_one, Nat.add_zero] at x0
          have h7 := (Sat.star (Sat.back R h6)).swap
          have HD := frame_Decode (b := encL g) (by omega) h7 (fun W L' h => OwnB.rd (Sat.front L' h))
          rw [dec_group hgm] at HD
          have HD := hid_ HD
          have HUN := hid_ hun
          obtain ⟨f, r, hgfr⟩ : ∃ f r, g = f :: r := by
            cases g with
            | nil => exact absurd rfl hne
            | cons f r => exact ⟨f, r, rfl⟩
          have hf0 : g[0]? = some f := by rw [hgfr]; rfl
          have hmf := hgm f (List.mem_of_getElem? hf0)
          have hg0 : 0 < g.length := by rw [hgfr]; simp
          have HC := hid_ (hch f r (by rw [hg, hgfr]))
          obtain ⟨G, hG⟩ : ∃ G, (gs.take j).flatten = G := ⟨_, rfl⟩
          rw [hG] at h7 hgl hgl2 hgt HD ⊢
          obtain ⟨X, hX⟩ : ∃ X, encL g = X := ⟨_, rfl⟩
          rw [hX] at h7 hle HN1 HD HUN x0
          have z1 : 0 ≤ (j : Int) ∧ (j : Int) < (K : Int) := by omega
          clear h4 h5 h6 hcell hun hc0 hch hg hgm hgfr hne hG
          go_wp2_with fail
          refine HD.out.mono ?_
          rintro _ w5 ⟨a8, c8, rfl, h8⟩
          dsimp only at h8 ⊢
          obtain ⟨b8, o8, k8, x, z, c', k, R', he8, hrd, h9, hun8⟩ := FramesA.focus h8 hf0
          injection he8 with he8 hee he9
          clear hee
          subst he8 he9
          obtain ⟨x1, x2, x3, x4, x5, x6, x7, x8, x9⟩ := (hrd _ [] h9).nine
          rw [Nat.zero_mul, Nat.add_zero] at x1 x2 x3 x4 x5 x6 x7 x8 x9
          have hn0 := may_nameX hmf
          have HE := hid_ (frame_Encode_yes f x z c' k hmf h9 (fun W L' h => ⟨(hrd W L' h).ip, (hrd W L' h).data, hn0⟩))
          unfold frV at HE
          have HUN8 := hid_ hun8
          have q1 : ((g.length : Int) == 0) = false := by rw [beq_eq_false_iff_ne]; omega
          have q2 : decide ((4096 : Int) < (X.length : Int)) = false := decide_eq_false (by omega)
          have z2 : 0 ≤ (0 : Int) ∧ (0 : Int) < (g.length : Int) := by omega
          clear hrd hun8 h8 h7 hX hf0
          go_wp2_with fail
          refine HE.out.mono ?_
          rintro _ w9 ⟨a9, k9, rfl, h10⟩
          have h11 := HUN8.out w9 _ h10.drop
          obtain ⟨i0, hi0, hz0, hz1, hz2⟩ := finfo9
          have h12 : Sat w w9 [FramesA (.slice a7 G.length c7) G, FramesA (.slice (some ⟨b8, o8, none⟩) g.length c8) g, OwnB 5 (.slice ab X.length cb) X, Star R, FramesS w (.slice a6 W.length c6) W] := Sat.re [3, 0, 1, 2, 4] [_, _, _, _, _] (L := []) h11
          have hel := enc_le hmf
          clear h9 h10 h11 x1 x2 x3 x4 x5 x6 x7 x8 x9 HE HUN8
          by_cases hj0 : 0 < j
          · have q3 : decide ((0 : Int) < (j : Int)) = true := decide_eq_true (by omega)
            have q4 : decide ((M : Int) + (f.enc.length : Int) ≤ 4096) = false := decide_eq_false (by have := HC.out hj0; omega)
            go_wp2_with (at_builtin; refine wpList_append_all (w0 := w) (e := 43) (sz := 9) (El := FrE) rfl _ _ 34 34 rfl Try.underlying34 Try.underlying34 hi0 hz0 hz1 hz2 rfl FrE.ones rfl h12 rfl hg0 (by simp only [maxLen]; omega) (by omega) ?_)
            intro a13 c13 w13 h13
            have h14 := (Sat.re [1, 2, 0, 3] [_, _, _, _] (L := []) h13)
            have h15 : Sat w w13 [Bodies (.slice (some ⟨b2, o2, none⟩) K c2) (gs.map encL), _, _] := HUN.out w13 _ (BodE.mk (Sat.front R (Sat.unstar (Sat.swap h14))))
            go_wp2_with fail
            go_roundg (K - (j + 1))
            case measure => omega
            case rel => exact ⟨j + 1, X.length, by omega, by omega, by go_num, rfl, hle, fun f' r' h _ => HN1.out f' r' h, by rw [hgt.out]; exact h15.swap⟩
          · have q3 : decide ((0 : Int) < (j : Int)) = false := decide_eq_false (by omega)
            go_wp2_with (at_builtin; refine wpList_append_all (w0 := w) (e := 43) (sz := 9) (El := FrE) rfl _ _ 34 34 rfl Try.underlying34 Try.underlying34 hi0 hz0 hz1 hz2 rfl FrE.ones rfl h12 rfl hg0 (by simp only [maxLen]; omega) (by omega) ?_)
            intro a13 c13 w13 h13
            have h14 := (Sat.re [1, 2, 0, 3] [_, _, _, _] (L := []) h13)
            have h15 : Sat w w13 [Bodies (.slice (some ⟨b2, o2, none⟩) K c2) (gs.map encL), _, _] := HUN.out w13 _ (BodE.mk (Sat.front R (Sat.unstar (Sat.swap h14))))
            go_wp2_with fail
            go_roundg (K - (j + 1))
            case measure => omega
            case rel => exact ⟨j + 1, X.length, by omega, by omega, by go_num, rfl, hle, fun f' r' h _ => HN1.out f' r' h, by rw [hgt.out]; exact h15.swap⟩
        · obtain rfl : j = K := by omega
          have htk : gs.take j = gs := List.take_of_length_le (by rw [HK.out]; exact Nat.le_refl _)
          rw [htk] at h4 ⊢
          have hwl : W.length = gs.flatten.length := by rw [← HW.out, List.length_map]
          have r1 := FramesA.rd h4
          have r2 := FramesS.rd (Sat.front [_, _] h4)
          rw [HW.out] at r2
          have HS := hid_ (ref_SameFrames (n := gs.flatten.length) (c := c7) (d := c6) rfl (by unfold maxLen; omega) r1 r2)
          rw [hwl] at h4 ⊢
          obtain ⟨T, hT⟩ : ∃ T, gs.flatten.length = T := ⟨_, rfl⟩
          rw [hT] at HS h4 ⊢
          clear r1 r2 hwl htk hT
          go_wp2_with fail
          refine HS.out.mono ?_
          rintro _ w6 ⟨rfl, hb6⟩
          have h7 := h4.under hb6
          go_wp2_with fail
          refine (mx_awake h7).mono ?_
          rintro _ w8 ⟨rfl, h8⟩
          go_wp2_with fail
          go_ret
          exact ⟨rfl, h8.below⟩
end Go.Proofs.Ytkejadhkebjdcaa
