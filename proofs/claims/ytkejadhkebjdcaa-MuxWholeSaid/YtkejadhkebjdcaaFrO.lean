/- One frame read, walked. -/
import Derived.Deep.DeepCutAuto
import Derived.Deep.CutBlock
import Derived.Test.YtkejadhkebjdcaaFrR
import Derived.Test.YtkejadhkebjdcaaFr9
import Derived.Test.YtkejadhkebjdcaaSameW
import Derived.Outline
namespace Go.Proofs.Ytkejadhkebjdcaa
open Go Go.RowKit
set_option linter.unusedVariables false
set_option linter.unusedSimpArgs false

/-- What a frame has behind its kind and its stream, read. -/
def swB (k s : Int) (r : RdM) : Int × FrM × RdM :=
  if k = 1 then ((decA r.b).1, { FrM.of k s with addr := (decA r.b).2.1 }, if (decA r.b).1 = 0 then (r.bytes (decA r.b).2.2).2 else r)
  else if k = 2 ∨ k = 5 then (0, { FrM.of k s with code := (r.number 1).1 }, (r.number 1).2)
  else if k = 3 then (0, { FrM.of k s with data := ((r.number 2).2.bytes (r.number 2).1).1 }, ((r.number 2).2.bytes (r.number 2).1).2)
  else if k = 6 ∨ k = 7 ∨ k = 8 then (0, { FrM.of k s with n := (r.number 4).1 }, (r.number 4).2)
  else (0, FrM.of k s, r)
def endB (x : Int × FrM × RdM) : Int := if x.2.2.short = true then 2 else if x.1 = 0 ∧ x.2.1.may = false then 3 else x.1
/-- A frame read: what is answered, the frame, the reader behind it. -/
def oneM (r : RdM) : Int × FrM × RdM :=
  if (r.number 1).1 < 1 ∨ 8 < (r.number 1).1 then (3, FrM.of (r.number 1).1 0, (r.number 1).2)
  else (endB (swB (r.number 1).1 ((r.number 1).2.number 2).1 ((r.number 1).2.number 2).2), (swB (r.number 1).1 ((r.number 1).2.number 2).1 ((r.number 1).2.number 2).2).2)

theorem oneM_bad {r r1 : RdM} {K : Nat} (h : r.number 1 = (K, r1)) (hb : K < 1 ∨ 8 < K) : oneM r = (3, FrM.of K 0, r1) := by
  unfold oneM
  rw [h, if_pos hb]
theorem oneM_good {r r1 r2 : RdM} {K S : Nat} (h : r.number 1 = (K, r1)) (hb : ¬ (K < 1 ∨ 8 < K)) (h2 : r1.number 2 = (S, r2)) : oneM r = (endB (swB K S r2), (swB K S r2).2) := by
  unfold oneM
  rw [h, if_neg hb]
  simp only [h2]
def OneOk (w0 : World) (M L : List Assn) (g : Nat) (x : Int × FrM × RdM) (e : Ending) (w' : World) : Prop :=
  ∃ a c z k v', e = .returned (.tuple #[frV x.2.1 (.slice a x.2.1.addr.ip.length c) (.slice z x.2.1.data.length k), .int .i64 x.1]) ∧ Vw w0 M v' x.2.2.b ∧
    Sat w0 w' (OwnB 5 (.slice a x.2.1.addr.ip.length c) x.2.1.addr.ip :: OwnB 5 (.slice z x.2.1.data.length k) x.2.1.data :: Blk g (.cells #[v', .bool x.2.2.short] 96 (0, 0)) :: L)

def frZ : Obj := .cells #[.int .i64 0, .int .i64 0, .int .i64 0, .int .i64 0, .int .i64 0, .slice none 0 0, .string ⟨#[]⟩, .int .i64 0, .slice none 0 0] 43 (0, 0)
def frK (k s : Int) : Obj := .cells #[.int .i64 k, .int .i64 s, .int .i64 0, .int .i64 0, .int .i64 0, .slice none 0 0, .string ⟨#[]⟩, .int .i64 0, .slice none 0 0] 43 (0, 0)

/-- What stands behind the switch. -/
def SwOk (w0 : World) (M L : List Assn) (g m q : Nat) (x : Int × FrM × RdM) (v4 : Value) (wx : World) : Prop :=
  x.2.1.addr.name.size ≤ maxLen ∧ ∃ a c z k v3, v4 = .int .i64 x.1 ∧ Vw w0 M v3 x.2.2.b ∧ Sat w0 wx (OwnB 5 (.slice a x.2.1.addr.ip.length c) x.2.1.addr.ip :: OwnB 5 (.slice z x.2.1.data.length k) x.2.1.data ::
    Blk m (frO x.2.1 (.slice a x.2.1.addr.ip.length c) (.slice z x.2.1.data.length k)) :: Blk g (.cells #[v3, .bool x.2.2.short] 96 (0, 0)) :: Blk q frZ :: L)
theorem dec_no {b : List UInt8} {e : Int} {a : AdM} {n : Nat} (h : decA b = (e, a, n)) (he : e ≠ 0) : a = AdM.zero ∧ n = 0 := by
  unfold decA at h
  repeat' (split at h)
  all_goals first | (injection h with _ h; injection h with h1 h2; exact ⟨h1.symm, h2.symm⟩) | (injection h with h _; exact absurd h.symm he)
theorem dec_name {b : List UInt8} {e : Int} {a : AdM} {n : Nat} (h : decA b = (e, a, n)) : a.name.size ≤ maxLen := by
  by_cases he : e = 0
  · subst he
    have h1 := (may_iff a).1 (dec_ok h).1
    unfold maxLen
    rcases h1.2.2 with ⟨_, _, h5⟩ | ⟨_, _, h5⟩ | ⟨_, h5, _⟩
    · omega
    · omega
    · have := nameOk_len h5; rw [size_data] at this; omega
  · rw [(dec_no h he).1]
    exact Nat.zero_le _
theorem number_le {r : RdM} {n : Nat} : (r.number n).1 < 256 ^ n := by
  unfold RdM.number RdM.bytes
  split
  · exact Nat.pow_pos (by decide)
  · dsimp only
    have h := valB_lt (r.b.take n) (r.b.take n).length (Nat.le_refl _)
    rw [List.take_length] at h
    refine Nat.lt_of_lt_of_le h (Nat.pow_le_pow_right (by decide) ?_)
    rw [List.length_take]; omega

section
variable {w0 w : World} {L : List Assn}
set_option maxRecDepth 100000 in
set_option maxHeartbeats 2000000 in
theorem reader_one {M : List Assn} (F : List Assn) {g : Nat} {v : Value} {l : List UInt8} {short : Bool} (hs : Sat w0 w (Blk g (.cells #[v, .bool short] 96 (0, 0)) :: (F ++ M))) (hv : Vw w0 M v l) :
    Calls Try.prog 65 #[.pointer (some ⟨g, 0, none⟩)] w (OneOk w0 M (F ++ M) g (oneM ⟨l, short⟩)) := by
  have hA := (hs.alloc frZ).swap
  have hn1 := reader_number (_ :: F) (n := 1) (ni := 1) rfl (by omega) hA hv
  obtain ⟨⟨K, r⟩, hKr⟩ : ∃ p, RdM.number ⟨l, short⟩ 1 = p := ⟨_, rfl⟩
  rw [hKr] at hn1
  have Hn1 := hid_ hn1
  have HK := hid_ hKr
  clear hn1 hKr
  have hAs := hA
  unfold frZ at hA Hn1
  go_enter Try.func65, Try.ntmps65
  go_wp2_with fail
  refine Hn1.out.mono ?_
  rintro _ w1 ⟨v1, rfl, hv1, h1⟩
  have h2 := h1.alloc (frK K 0)
  unfold frK at h2
  clear Hn1 hA hAs
  obtain ⟨q, hq⟩ : ∃ q, w.heap.size = q := ⟨_, rfl⟩
  rw [hq] at h2 h1 ⊢
  clear hq
  have hres := Sat.front [_, _] h2
  obtain ⟨z0, z1, z2, z3, z4, z5, z6, z7, z8⟩ := hres.cells9
  obtain ⟨y0, y1, y2, y3, y4, y5, y6, y7, y8⟩ := hres.frz9
  by_cases hb : K < 1 ∨ 8 < K
  · have E := hid_ (oneM_bad HK.out hb)
    have hin : (decide ((1 : Int) ≤ (K : Int)) && decide ((K : Int) ≤ 8)) = false := by rcases hb with h | h <;> simp <;> omega
    clear hb
    go_wp2_with fail
    refine (frame_in _ _ _).mono ?_
    rintro _ _ ⟨rfl, rfl⟩
    rw [hin]
    go_wp2_with fail
    have h3 := hres.fr9 (u0 := .int .i64 K) (u1 := .int .i64 0) (u2 := .int .i64 0) (u3 := .int .i64 0) (u4 := .int .i64 0) (u5 := .slice none 0 0) (u6 := .string ⟨#[]⟩) (u7 := .int .i64 0) (u8 := .slice none 0 0)
    refine post_cell9 (p := 2) (q := 3) (ty := 43) rfl rfl h3.blk.1 Try.underlying43 rfl (by kernel_rfl) rfl rfl ?_
    rw [E.out]
    exact ⟨none, 0, none, 0, v1, rfl, hv1, OwnB.nilI (OwnB.nilI (Sat.front [_] h3.d2).d2)⟩
  · have hin : (decide ((1 : Int) ≤ (K : Int)) && decide ((K : Int) ≤ 8)) = true := by simp; omega
    obtain ⟨⟨S, r2⟩, hS⟩ : ∃ p, RdM.number r 2 = p := ⟨_, rfl⟩
    have E := hid_ (oneM_good HK.out hb hS)
    have hn2 := reader_number (_ :: _ :: F) (n := 2) (ni := 2) rfl (by omega) h2.swap hv1
    rw [show (⟨(K, r).snd.b, (K, r).snd.short⟩ : RdM) = r from rfl, hS] at hn2
    have Hn2 := hid_ hn2
    clear hn2 hS
    go_wp2_with fail
    refine (frame_in _ _ _).mono ?_
    rintro _ _ ⟨rfl, rfl⟩
    rw [hin]
    go_wp2_with fail
    refine Hn2.out.mono ?_
    rintro _ w2 ⟨v2, rfl, hv2, h3⟩
    clear Hn2 h2 h1 hin hres z0 z1 z2 z3 z4 z5 z6 z7 z8 y0 y1 y2 y3 y4 y5 y6 y7 y8
    generalize w1.heap.size = m at *
    have h3' := Sat.front [_] h3
    have z0 : w2.cell? ⟨m, 0, none⟩ = some (.int .i64 K) := h3'.cell 0 rfl
    have z1 : w2.cell? ⟨m, 1, none⟩ = some (.int .i64 0) := h3'.cell 1 rfl
    have y1 : w2.frozen? ⟨m, 1, none⟩ = false := h3'.frozen 1
    have h4 : Sat w0 _ (Blk m (frK K S) :: _) := h3'.set 1 (.int .i64 S)
    obtain ⟨x, hx⟩ : ∃ x, swB K S r2 = x := ⟨_, rfl⟩
    have HX := hid_ hx
    rw [hx] at E
    clear hx
    go_upto_block 0 with fail
    generalize w2.setCell ⟨m, 1, none⟩ (.int .i64 S) = w3 at *
    clear h3 h3' z0 z1 y1
    go_cut [4] (fun v4 wx => SwOk w0 M (F ++ M) g m q x v4 wx)
    case first =>
      have c0 : w3.cell? ⟨m, 0, none⟩ = some (.int .i64 K) := h4.cell 0 rfl
      have hK : K = 1 ∨ K = 2 ∨ K = 3 ∨ K = 4 ∨ K = 5 ∨ K = 6 ∨ K = 7 ∨ K = 8 := by omega
      clear hb
      rcases hK with rfl | rfl | rfl | rfl | rfl | rfl | rfl | rfl
      · have HXe := hid_ (show swB ((1 : Nat) : Int) S r2 = ((decA r2.b).1, { FrM.of 1 S with addr := (decA r2.b).2.1 }, if (decA r2.b).1 = 0 then (r2.bytes (decA r2.b).2.2).2 else r2) from rfl)
        have hd := addr_Decode (v := v2) (b := r2.b) h4 (hv2.more (_ :: _ :: _ :: F))
        obtain ⟨⟨er, A, n⟩, hA⟩ : ∃ d, decA r2.b = d := ⟨_, rfl⟩
        have hok : er = 0 → n ≤ 68 := fun he => by
          subst he
          have h6 := dec_ok hA
          have := enc_four A h6.1
          omega
        have hnm := hid_ (dec_name hA)
        rw [hA] at hd HXe
        have Hd := hid_ hd
        clear hd hA
        have cg : w3.cell? ⟨g, 0, none⟩ = some v2 := (Sat.front [_] h4).cell 0 rfl
        go_wp2_with fail
        refine Hd.out.mono ?_
        rintro _ w4 ⟨a4, c4, rfl, h5⟩
        have h5' := Sat.front [_] h5
        have x4 : w4.cell? ⟨m, 4, none⟩ = some (.int .i64 0) := h5'.cell 4 rfl
        have x5 : w4.cell? ⟨m, 5, none⟩ = some (.slice none 0 0) := h5'.cell 5 rfl
        have x6 : w4.cell? ⟨m, 6, none⟩ = some (.string ⟨#[]⟩) := h5'.cell 6 rfl
        have x7 : w4.cell? ⟨m, 7, none⟩ = some (.int .i64 0) := h5'.cell 7 rfl
        have y4 := h5'.frozen 4
        have y5 := h5'.frozen 5
        have y6 := h5'.frozen 6
        have y7 := h5'.frozen 7
        have h6 := (((h5'.set 4 (.int .i64 A.kind)).set 5 (.slice a4 A.ip.length c4)).set 6 (.string A.name)).set 7 (.int .i64 A.port)
        simp only [List.setIfInBounds_toArray, List.set_cons_zero, List.set_cons_succ] at h6
        by_cases he : er = 0
        · subst he
          have hn68 := hok rfl
          have Hb := hid_ (reader_bytes (_ :: _ :: _ :: F) (n := n) (ni := n) rfl (by omega) (Sat.front [_, _] h6) hv2)
          clear hok
          go_wp2_with fail
          refine Hb.out.mono ?_
          rintro _ w5 ⟨a5, c5, v5, rfl, hv5, h7⟩
          go_wp2_with fail
          go_meet
          rw [← HX.out, HXe.out, if_pos trivial]
          exact ⟨hnm.out, a4, c4, none, 0, v5, rfl, hv5, (OwnB.nilI (Sat.re [2, 1, 0] [_, _, _] h7.drop)).swap⟩
        · have qe : (er == 0) = false := by rw [beq_eq_false_iff_ne]; exact he
          have he' := hid_ he
          clear hok he
          go_wp2_with fail
          go_meet
          rw [← HX.out, HXe.out, if_neg he'.out]
          exact ⟨hnm.out, a4, c4, none, 0, v2, rfl, hv2, (OwnB.nilI (Sat.re [1, 0] [_, _] h6)).swap⟩
      · have HXe := hid_ (show swB ((2 : Nat) : Int) S r2 = (0, { FrM.of 2 S with code := (r2.number 1).1 }, (r2.number 1).2) from rfl)
        obtain ⟨⟨N, r3⟩, hN⟩ : ∃ p, RdM.number r2 1 = p := ⟨_, rfl⟩
        have hn3 := reader_number (_ :: _ :: F) (n := 1) (ni := 1) rfl (by omega) h4.swap hv2
        rw [show (⟨(S, r2).snd.b, (S, r2).snd.short⟩ : RdM) = r2 from rfl, hN] at hn3
        rw [hN] at HXe
        have Hn3 := hid_ hn3
        clear hn3 hN
        go_wp2_with fail
        refine Hn3.out.mono ?_
        rintro _ w4 ⟨v3, rfl, hv3, h5⟩
        have h5' := Sat.front [_] h5
        have x0 : w4.cell? ⟨m, 2, none⟩ = some (.int .i64 0) := h5'.cell 2 rfl
        have x1 : w4.frozen? ⟨m, 2, none⟩ = false := h5'.frozen 2
        have h6 := h5'.set 2 (.int .i64 N)
        go_wp2_with fail
        go_meet
        rw [← HX.out, HXe.out]
        exact ⟨Nat.zero_le _, none, 0, none, 0, v3, rfl, hv3, OwnB.nilI (OwnB.nilI h6)⟩
      · have HXe := hid_ (show swB ((3 : Nat) : Int) S r2 = (0, { FrM.of 3 S with data := ((r2.number 2).2.bytes (r2.number 2).1).1 }, ((r2.number 2).2.bytes (r2.number 2).1).2) from rfl)
        have hNb := number_le (r := r2) (n := 2)
        obtain ⟨⟨N, r3⟩, hN⟩ : ∃ p, RdM.number r2 2 = p := ⟨_, rfl⟩
        have hn3 := reader_number (_ :: _ :: F) (n := 2) (ni := 2) rfl (by omega) h4.swap hv2
        rw [show (⟨(S, r2).snd.b, (S, r2).snd.short⟩ : RdM) = r2 from rfl, hN] at hn3
        rw [hN] at HXe hNb
        have Hn3 := hid_ hn3
        clear hn3 hN
        obtain ⟨⟨P, r4⟩, hP⟩ : ∃ p, RdM.bytes r3 N = p := ⟨_, rfl⟩
        have HP := hid_ hP
        clear hP
        go_wp2_with fail
        refine Hn3.out.mono ?_
        rintro _ w4 ⟨v3, rfl, hv3, h5⟩
        go_wp2_with fail
        refine (reader_bytes (_ :: _ :: F) (n := N) rfl (by omega) h5 hv3).mono ?_
        rw [show (⟨(N, r3).snd.b, (N, r3).snd.short⟩ : RdM) = r3 from rfl, HP.out]
        rintro _ w5 ⟨a5, c5, v4, rfl, hv4, h6⟩
        have h6' := Sat.front [_, _] h6
        have x0 : w5.cell? ⟨m, 8, none⟩ = some (.slice none 0 0) := h6'.cell 8 rfl
        have x1 : w5.frozen? ⟨m, 8, none⟩ = false := h6'.frozen 8
        have h7 := h6'.set 8 (.slice a5 P.length c5)
        go_wp2_with fail
        go_meet
        rw [← HX.out, HXe.out, show ((N, r3).2.bytes (N, r3).1) = (P, r4) from HP.out]
        exact ⟨Nat.zero_le _, none, 0, a5, c5, v4, rfl, hv4, OwnB.nilI (Sat.swap h7)⟩
      · have HXe := hid_ (show swB ((4 : Nat) : Int) S r2 = (0, FrM.of 4 S, r2) from rfl)
        go_wp2_with fail
        go_meet
        rw [← HX.out, HXe.out]
        exact ⟨Nat.zero_le _, none, 0, none, 0, v2, rfl, hv2, OwnB.nilI (OwnB.nilI h4)⟩
      · have HXe := hid_ (show swB ((5 : Nat) : Int) S r2 = (0, { FrM.of 5 S with code := (r2.number 1).1 }, (r2.number 1).2) from rfl)
        obtain ⟨⟨N, r3⟩, hN⟩ : ∃ p, RdM.number r2 1 = p := ⟨_, rfl⟩
        have hn3 := reader_number (_ :: _ :: F) (n := 1) (ni := 1) rfl (by omega) h4.swap hv2
        rw [show (⟨(S, r2).snd.b, (S, r2).snd.short⟩ : RdM) = r2 from rfl, hN] at hn3
        rw [hN] at HXe
        have Hn3 := hid_ hn3
        clear hn3 hN
        go_wp2_with fail
        refine Hn3.out.mono ?_
        rintro _ w4 ⟨v3, rfl, hv3, h5⟩
        have h5' := Sat.front [_] h5
        have x0 : w4.cell? ⟨m, 2, none⟩ = some (.int .i64 0) := h5'.cell 2 rfl
        have x1 : w4.frozen? ⟨m, 2, none⟩ = false := h5'.frozen 2
        have h6 := h5'.set 2 (.int .i64 N)
        go_wp2_with fail
        go_meet
        rw [← HX.out, HXe.out]
        exact ⟨Nat.zero_le _, none, 0, none, 0, v3, rfl, hv3, OwnB.nilI (OwnB.nilI h6)⟩
      · have HXe := hid_ (show swB ((6 : Nat) : Int) S r2 = (0, { FrM.of 6 S with n := (r2.number 4).1 }, (r2.number 4).2) from rfl)
        obtain ⟨⟨N, r3⟩, hN⟩ : ∃ p, RdM.number r2 4 = p := ⟨_, rfl⟩
        have hn3 := reader_number (_ :: _ :: F) (n := 4) (ni := 4) rfl (by omega) h4.swap hv2
        rw [show (⟨(S, r2).snd.b, (S, r2).snd.short⟩ : RdM) = r2 from rfl, hN] at hn3
        rw [hN] at HXe
        have Hn3 := hid_ hn3
        clear hn3 hN
        go_wp2_with fail
        refine Hn3.out.mono ?_
        rintro _ w4 ⟨v3, rfl, hv3, h5⟩
        have h5' := Sat.front [_] h5
        have x0 : w4.cell? ⟨m, 3, none⟩ = some (.int .i64 0) := h5'.cell 3 rfl
        have x1 : w4.frozen? ⟨m, 3, none⟩ = false := h5'.frozen 3
        have h6 := h5'.set 3 (.int .i64 N)
        go_wp2_with fail
        go_meet
        rw [← HX.out, HXe.out]
        exact ⟨Nat.zero_le _, none, 0, none, 0, v3, rfl, hv3, OwnB.nilI (OwnB.nilI h6)⟩
      · have HXe := hid_ (show swB ((7 : Nat) : Int) S r2 = (0, { FrM.of 7 S with n := (r2.number 4).1 }, (r2.number 4).2) from rfl)
        obtain ⟨⟨N, r3⟩, hN⟩ : ∃ p, RdM.number r2 4 = p := ⟨_, rfl⟩
        have hn3 := reader_number (_ :: _ :: F) (n := 4) (ni := 4) rfl (by omega) h4.swap hv2
        rw [show (⟨(S, r2).snd.b, (S, r2).snd.short⟩ : RdM) = r2 from rfl, hN] at hn3
        rw [hN] at HXe
        have Hn3 := hid_ hn3
        clear hn3 hN
        go_wp2_with fail
        refine Hn3.out.mono ?_
        rintro _ w4 ⟨v3, rfl, hv3, h5⟩
        have h5' := Sat.front [_] h5
        have x0 : w4.cell? ⟨m, 3, none⟩ = some (.int .i64 0) := h5'.cell 3 rfl
        have x1 : w4.frozen? ⟨m, 3, none⟩ = false := h5'.frozen 3
        have h6 := h5'.set 3 (.int .i64 N)
        go_wp2_with fail
        go_meet
        rw [← HX.out, HXe.out]
        exact ⟨Nat.zero_le _, none, 0, none, 0, v3, rfl, hv3, OwnB.nilI (OwnB.nilI h6)⟩
      · have HXe := hid_ (show swB ((8 : Nat) : Int) S r2 = (0, { FrM.of 8 S with n := (r2.number 4).1 }, (r2.number 4).2) from rfl)
        obtain ⟨⟨N, r3⟩, hN⟩ : ∃ p, RdM.number r2 4 = p := ⟨_, rfl⟩
        have hn3 := reader_number (_ :: _ :: F) (n := 4) (ni := 4) rfl (by omega) h4.swap hv2
        rw [show (⟨(S, r2).snd.b, (S, r2).snd.short⟩ : RdM) = r2 from rfl, hN] at hn3
        rw [hN] at HXe
        have Hn3 := hid_ hn3
        clear hn3 hN
        go_wp2_with fail
        refine Hn3.out.mono ?_
        rintro _ w4 ⟨v3, rfl, hv3, h5⟩
        have h5' := Sat.front [_] h5
        have x0 : w4.cell? ⟨m, 3, none⟩ = some (.int .i64 0) := h5'.cell 3 rfl
        have x1 : w4.frozen? ⟨m, 3, none⟩ = false := h5'.frozen 3
        have h6 := h5'.set 3 (.int .i64 N)
        go_wp2_with fail
        go_meet
        rw [← HX.out, HXe.out]
        exact ⟨Nat.zero_le _, none, 0, none, 0, v3, rfl, hv3, OwnB.nilI (OwnB.nilI h6)⟩
    obtain ⟨er, f, r3⟩ := x
    obtain ⟨hnm, a, c, z, k, v3, rfl, hv3, h8⟩ := hcut
    dsimp only at hnm hv3 h8
    have hip := OwnB.rd h8
    have hda := OwnB.rd h8.drop
    have hG := Sat.front [_, _, _] h8
    have hM := Sat.front [_, _] h8
    have hQ := Sat.front [_, _, _, _] h8
    unfold frO at hM
    unfold frZ at hQ
    have cg : wc.cell? ⟨g, 1, none⟩ = some (.bool r3.short) := hG.cell 1 rfl
    obtain ⟨m0, m1, m2, m3, m4, m5, m6, m7, m8⟩ := hM.cells9
    obtain ⟨z0, z1, z2, z3, z4, z5, z6, z7, z8⟩ := hQ.cells9
    obtain ⟨y0, y1, y2, y3, y4, y5, y6, y7, y8⟩ := hQ.frz9
    have fin : ∀ (W : World) (h9 : Sat w0 W (Blk q (.cells #[.int .i64 f.kind, .int .i64 f.stream, .int .i64 f.code, .int .i64 f.n, .int .i64 f.addr.kind, .slice a f.addr.ip.length c, .string f.addr.name, .int .i64 f.addr.port, .slice z f.data.length k] 43 (0, 0)) :: [OwnB 5 (.slice a f.addr.ip.length c) f.addr.ip, OwnB 5 (.slice z f.data.length k) f.data, Blk m (frO f (.slice a f.addr.ip.length c) (.slice z f.data.length k)), Blk g (.cells #[v3, .bool r3.short] 96 (0, 0))] ++ (F ++ M))) (er : Int),
        OneOk w0 M (F ++ M) g (er, f, r3) (.returned (.tuple #[.agg #[.int .i64 f.kind, .int .i64 f.stream, .int .i64 f.code, .int .i64 f.n, .int .i64 f.addr.kind, .slice a f.addr.ip.length c, .string f.addr.name, .int .i64 f.addr.port, .slice z f.data.length k], .int .i64 er])) W := fun W h9 er =>
      ⟨a, c, z, k, v3, rfl, hv3, (Sat.re [2, 0, 1, 3] [_, _, _, _] h9.drop).drop⟩
    have FIN := hid_ fin
    clear fin
    obtain ⟨sh, hsh⟩ : ∃ sh, r3.short = sh := ⟨_, rfl⟩
    rw [hsh] at cg
    cases sh
    · by_cases he : er = 0
      · subst he
        have hMy := frame_May (w := wc) f a z c k ⟨hip, hda, hnm⟩
        obtain ⟨mb, hmb⟩ : ∃ mb, f.may = mb := ⟨_, rfl⟩
        rw [hmb] at hMy
        unfold frV at hMy
        have HMy := hid_ hMy
        cases mb
        · have E2 := hid_ (show oneM ⟨l, short⟩ = (3, f, r3) by rw [E.out]; unfold endB; rw [if_neg (by simp [hsh]), if_pos ⟨rfl, hmb⟩])
          clear hMy hmb hsh
          go_wp2_with fail
          refine HMy.out.mono ?_
          rintro _ w5 ⟨rfl, hb5⟩
          have h8' := h8.under hb5
          have hQ := Sat.front [_, _, _, _] h8'
          unfold frZ at hQ
          have hM := Sat.front [_, _] h8'
          unfold frO at hM
          obtain ⟨m0, m1, m2, m3, m4, m5, m6, m7, m8⟩ := hM.cells9
          obtain ⟨z0, z1, z2, z3, z4, z5, z6, z7, z8⟩ := hQ.cells9
          obtain ⟨y0, y1, y2, y3, y4, y5, y6, y7, y8⟩ := hQ.frz9
          go_wp2_with fail
          have h9 := hQ.fr9 (u0 := .int .i64 f.kind) (u1 := .int .i64 f.stream) (u2 := .int .i64 f.code) (u3 := .int .i64 f.n) (u4 := .int .i64 f.addr.kind) (u5 := .slice a f.addr.ip.length c) (u6 := .string f.addr.name) (u7 := .int .i64 f.addr.port) (u8 := .slice z f.data.length k)
          refine post_cell9 (p := 2) (q := 3) (ty := 43) rfl rfl h9.blk.1 Try.underlying43 rfl (by kernel_rfl) rfl rfl ?_
          rw [E2.out]
          exact FIN.out _ h9 _
        · have E2 := hid_ (show oneM ⟨l, short⟩ = (0, f, r3) by rw [E.out]; unfold endB; rw [if_neg (by simp [hsh]), if_neg (by simp [hmb])])
          clear hMy hmb hsh
          go_wp2_with fail
          refine HMy.out.mono ?_
          rintro _ w5 ⟨rfl, hb5⟩
          have h8' := h8.under hb5
          have hQ := Sat.front [_, _, _, _] h8'
          unfold frZ at hQ
          have hM := Sat.front [_, _] h8'
          unfold frO at hM
          obtain ⟨m0, m1, m2, m3, m4, m5, m6, m7, m8⟩ := hM.cells9
          obtain ⟨z0, z1, z2, z3, z4, z5, z6, z7, z8⟩ := hQ.cells9
          obtain ⟨y0, y1, y2, y3, y4, y5, y6, y7, y8⟩ := hQ.frz9
          go_wp2_with fail
          have h9 := hQ.fr9 (u0 := .int .i64 f.kind) (u1 := .int .i64 f.stream) (u2 := .int .i64 f.code) (u3 := .int .i64 f.n) (u4 := .int .i64 f.addr.kind) (u5 := .slice a f.addr.ip.length c) (u6 := .string f.addr.name) (u7 := .int .i64 f.addr.port) (u8 := .slice z f.data.length k)
          refine post_cell9 (p := 2) (q := 3) (ty := 43) rfl rfl h9.blk.1 Try.underlying43 rfl (by kernel_rfl) rfl rfl ?_
          rw [E2.out]
          exact FIN.out _ h9 _
      · have E2 := hid_ (show oneM ⟨l, short⟩ = (er, f, r3) by rw [E.out]; unfold endB; rw [if_neg (by simp [hsh]), if_neg (by simp [he])])
        have qe : (er == 0) = false := by rw [beq_eq_false_iff_ne]; exact he
        clear he hsh
        go_wp2_with fail
        have h9 := hQ.fr9 (u0 := .int .i64 f.kind) (u1 := .int .i64 f.stream) (u2 := .int .i64 f.code) (u3 := .int .i64 f.n) (u4 := .int .i64 f.addr.kind) (u5 := .slice a f.addr.ip.length c) (u6 := .string f.addr.name) (u7 := .int .i64 f.addr.port) (u8 := .slice z f.data.length k)
        refine post_cell9 (p := 2) (q := 3) (ty := 43) rfl rfl h9.blk.1 Try.underlying43 rfl (by kernel_rfl) rfl rfl ?_
        rw [E2.out]
        exact FIN.out _ h9 _
    · have E2 := hid_ (show oneM ⟨l, short⟩ = (2, f, r3) by rw [E.out]; unfold endB; rw [if_pos hsh])
      clear hsh
      go_wp2_with fail
      have h9 := hQ.fr9 (u0 := .int .i64 f.kind) (u1 := .int .i64 f.stream) (u2 := .int .i64 f.code) (u3 := .int .i64 f.n) (u4 := .int .i64 f.addr.kind) (u5 := .slice a f.addr.ip.length c) (u6 := .string f.addr.name) (u7 := .int .i64 f.addr.port) (u8 := .slice z f.data.length k)
      refine post_cell9 (p := 2) (q := 3) (ty := 43) rfl rfl h9.blk.1 Try.underlying43 rfl (by kernel_rfl) rfl rfl ?_
      rw [E2.out]
      exact FIN.out _ h9 _
end
end Go.Proofs.Ytkejadhkebjdcaa
