/- The law SocksPieces, walked. -/
import Derived.Deep.LoopGhost
import Derived.Test.YthfdejgckcoohaaSoV
namespace Go.Proofs.Ythfdejgckcoohaa
open Go Go.RowKit
set_option linter.unusedVariables false
set_option linter.unusedSimpArgs false

theorem SoM.step_back (s : SoM) : s.step.2.back.length ≤ s.back.length + 10 := by
  unfold SoM.step
  split
  · exact s.greet_back
  · split
    · exact s.name_back
    · split
      · exact s.ask_back
      · split
        · split
          · exact s.close_back _ (by simp)
          · show s.back.length ≤ _
            omega
        · show s.back.length ≤ _
          omega
theorem SoM.run_back : ∀ (n : Nat) (s : SoM), (SoM.run n s).back.length ≤ s.back.length + 10 * n
  | 0, s => by show s.back.length ≤ _; omega
  | n + 1, s => by
    have e : SoM.run (n + 1) s = if s.step.1 then SoM.run n s.step.2 else s.step.2 := rfl
    have h := s.step_back
    rw [e]
    split
    · have := SoM.run_back n s.step.2
      omega
    · omega
theorem SoM.feed_back (s : SoM) (x : List UInt8) : (s.feed x).back.length ≤ 40 := SoM.run_back 4 { s with wait := s.wait ++ x, back := [] }
def SoM.nb (s : SoM) : SoM := { s with back := [] }
theorem SoM.feed_eq {s t : SoM} (h : s.nb = t.nb) (x : List UInt8) : s.feed x = t.feed x := by
  have e1 : s.feed x = s.nb.feed x := rfl
  have e2 : t.feed x = t.nb.feed x := rfl
  rw [e1, e2, h]
theorem sameAd_self (a : AdM) : sameAd a a = true := by unfold sameAd; simp

theorem dec_ip (b : List UInt8) : (decA b).2.1.ip.length ≤ 16 := by
  unfold decA
  split
  · show (0 : Nat) ≤ 16; omega
  · split
    · show (0 : Nat) ≤ 16; omega
    · split
      · show (0 : Nat) ≤ 16; omega
      · split
        · show (0 : Nat) ≤ 16; omega
        · split
          · show (0 : Nat) ≤ 16; omega
          · rename_i h _
            have h2 := (may_iff _).1 (Bool.not_eq_false _ ▸ h)
            show (cutAd b (lensB b).2.1 (lensB b).2.2).ip.length ≤ 16
            obtain ⟨_, _, h3 | h3 | h3⟩ := h2
            · omega
            · omega
            · rw [h3.2.2]; simp
theorem SoM.close_dest (s : SoM) (k : List UInt8) : (s.close k).dest.ip.length ≤ 16 := by show (0 : Nat) ≤ 16; omega
theorem SoM.step_dest {s : SoM} (h : s.dest.ip.length ≤ 16) : s.step.2.dest.ip.length ≤ 16 := by
  have hg : ∀ st n k, (s.goes st n k).dest.ip.length ≤ 16 := fun _ _ _ => h
  unfold SoM.step
  split
  · unfold SoM.greet
    split
    · exact s.close_dest _
    · split
      · split
        · exact hg _ _ _
        · exact s.close_dest _
      · exact h
  · split
    · unfold SoM.name
      split
      · exact h
      · split
        · exact s.close_dest _
        · split
          · exact h
          · split
            · exact h
            · split
              · exact s.close_dest _
              · exact hg _ _ _
    · split
      · unfold SoM.ask
        split
        · exact s.close_dest _
        · split
          · exact h
          · split
            · exact s.close_dest _
            · split
              · exact s.close_dest _
              · split
                · exact h
                · split
                  · split
                    · exact s.close_dest _
                    · exact s.close_dest _
                  · exact dec_ip _
      · split
        · split
          · exact s.close_dest _
          · exact h
        · exact h
theorem SoM.run_dest : ∀ (n : Nat) (s : SoM), s.dest.ip.length ≤ 16 → (SoM.run n s).dest.ip.length ≤ 16
  | 0, s, h => h
  | n + 1, s, h => by
    have e : SoM.run (n + 1) s = if s.step.1 then SoM.run n s.step.2 else s.step.2 := rfl
    rw [e]
    split
    · exact SoM.run_dest n _ (SoM.step_dest h)
    · exact SoM.step_dest h
theorem all_dest (u q : ByteArray) (f : List UInt8) : (SoM.all u q f).dest.ip.length ≤ 16 := SoM.run_dest 4 _ (by show (0 : Nat) ≤ 16; omega)
theorem all_nil (u q : ByteArray) : SoM.all u q [] = SoM.fresh u q := by
  have h1 : (SoM.fed u q []).step = (false, SoM.fed u q []) := by
    rw [SoM.step_of0 rfl]
    unfold SoM.greet
    rw [if_neg (by simp [SoM.fed]), if_neg (by simp [SoM.fed])]
  show SoM.run 4 (SoM.fed u q []) = _
  rw [SoM.run_stop h1]
  rfl

def SoP (g : Nat) (s : SoM) (wa : Option Addr) (wc : Nat) (ta : Option Addr) (tc : Nat) (ba : Option Addr) (bc : Nat) : List Assn :=
  [Blk g (soO s (.slice wa s.wait.length wc) (.slice ta s.dest.ip.length tc) (.slice ba s.back.length bc)), OwnB 5 (.slice wa s.wait.length wc) s.wait, OwnB 5 (.slice ta s.dest.ip.length tc) s.dest.ip, OwnB 5 (.slice ba s.back.length bc) s.back]
section
variable {w0 w w' : World} {L M : List Assn} {A : Assn} {g g1 g2 : Nat} {s s1 s2 : SoM}
theorem SoS.opn (h : SoS w0 w L g s) : ∃ wa wc ta tc ba bc, Sat w0 w (SoP g s wa wc ta tc ba bc ++ L) := h
theorem SoS.swap {wa : Option Addr} {wc : Nat} {ta : Option Addr} {tc : Nat} {ba : Option Addr} {bc : Nat} (h : SoS w0 w (SoP g1 s1 wa wc ta tc ba bc ++ L) g2 s2) :
    ∃ wa' wc' ta' tc' ba' bc', SoS w0 w (SoP g2 s2 wa' wc' ta' tc' ba' bc' ++ L) g1 s1 := by
  obtain ⟨a, b, c, d, e, f, h⟩ := SoS.opn h
  refine ⟨a, b, c, d, e, f, wa, wc, ta, tc, ba, bc, ?_⟩
  show Sat w0 w (SoP g1 s1 wa wc ta tc ba bc ++ (SoP g2 s2 a b c d e f ++ L))
  rw [← List.append_assoc] at h ⊢
  exact Sat.perm (List.Perm.append_right L List.perm_append_comm) h
theorem SoP.swap {a b c d e f a' b' c' d' e' f'} (h : Sat w0 w (SoP g1 s1 a b c d e f ++ (SoP g2 s2 a' b' c' d' e' f' ++ L))) : Sat w0 w (SoP g2 s2 a' b' c' d' e' f' ++ (SoP g1 s1 a b c d e f ++ L)) := by
  rw [← List.append_assoc] at h ⊢
  exact Sat.perm (List.Perm.append_right L List.perm_append_comm) h
theorem SoS.other {a b c d e f} (h : SoS w0 w (A :: (SoP g1 s1 a b c d e f ++ L)) g2 s2) : ∃ L', SoS w0 w L' g1 s1 := by
  obtain ⟨wa, wc, ta, tc, ba, bc, h⟩ := h
  have h2 := Sat.front [_, _, _, _] h
  exact ⟨_, a, b, c, d, e, f, SoP.swap (Sat.drop h2)⟩
theorem SoS.re {L' : List Assn} (hp : L.Perm L') (h : SoS w0 w L g s) : SoS w0 w L' g s := by
  obtain ⟨wa, wc, ta, tc, ba, bc, h⟩ := h
  exact ⟨wa, wc, ta, tc, ba, bc, Sat.perm (List.Perm.append_left [_, _, _, _] hp) h⟩
theorem SoS.rdb {t : TypeId} {v : Value} {l : List UInt8} (h : SoS w0 w (OwnB t v l :: L) g s) : RdB w v l := by
  obtain ⟨wa, wc, ta, tc, ba, bc, h⟩ := h
  exact OwnB.rd (Sat.front [_, _, _, _] h)
/-- What follows an append onto bytes beside it. -/
theorem SoS.app {t : TypeId} {v : Value} {l : List UInt8} (h : SoS w0 w (OwnB t v l :: L) g s) : ∃ M, Sat w0 w (OwnB t v l :: M) ∧ ∀ v' l' W, Sat w0 W (OwnB t v' l' :: M) → SoS w0 W (OwnB t v' l' :: L) g s := by
  obtain ⟨wa, wc, ta, tc, ba, bc, h⟩ := h
  exact ⟨_, Sat.front [_, _, _, _] h, fun v' l' W hW => ⟨wa, wc, ta, tc, ba, bc, Sat.back [_, _, _, _] hW⟩⟩
/-- A cut s[:n] of bytes. -/
theorem slc_to {b o len c n : Nat} {ni : Int} (hni : ni = (n : Int)) (h : n ≤ len) (hc : len ≤ c) (hm : c ≤ maxLen) :
    ∃ V, (∀ W : World, (Instr.slice 22 (.slice (some ⟨b, o, none⟩) len c) none (some (.int .i64 ni)) none).run Try.prog W = .ok V W) ∧
      ∀ (W : World) (l : List UInt8), l.length = len → RdB W (.slice (some ⟨b, o, none⟩) len c) l → RdB W V (l.take n) := by
  subst hni
  have e : Try.prog.elem 22 = 5 := rfl
  have hs : ∀ W : World, (sizeOf 5).run Try.prog W = .ok 1 W := fun W => by kernel_rfl
  by_cases h1 : c = 0
  · refine ⟨.slice (some ⟨b, o, none⟩) 0 0, fun W => ?_, fun W l hl hr => ?_⟩
    · rw [run_slice_h (P := Try.prog) (w := W) (t := 22) (ht := Try.underlying22) (h0 := by omega) (h2 := by omega), e, hs]
      simp only [Result.andThen_ok]
      unfold sliced
      obtain rfl : n = 0 := by omega
      subst h1
      rfl
    · have : l.take n = [] := by rw [show n = 0 by omega]; rfl
      rw [this]
      exact RdB.emp (Nat.zero_le _)
  · refine ⟨.slice (some ⟨b, o, none⟩) n c, fun W => ?_, fun W l hl hr => ?_⟩
    · rw [run_slice_h (P := Try.prog) (w := W) (t := 22) (ht := Try.underlying22) (h0 := by omega) (h2 := by omega), e, hs]
      simp only [Result.andThen_ok]
      unfold sliced
      rw [Int.toNat_natCast, if_neg h1, Option.map_some, addr_add]
      simp
    · subst hl
      have h2 := RdB.cut (lo := 0) (hi := n) hr (Nat.zero_le _) h
      rw [List.drop_zero, Nat.sub_zero] at h2
      exact h2
end
/-- What the law's loop knows. -/
structure Pcs (w wr : World) (u q : ByteArray) (p : List UInt8) (PS : List Assn) (g : Nat) (v13 v14 : Value) (i : Nat) (f rest : List UInt8) (t : SoM) : Prop where
  parts : f ++ rest = p
  done : rest = [] ∨ i ≤ 50
  reads : ∀ W, Below w.heap.size w W → RdB W v14 rest
  like : t.nb = (SoM.all u q f).nb
  owns : SoS w wr (OwnB 5 v13 (SoM.all u q f).back :: PS) g t
set_option maxRecDepth 100000 in
set_option maxHeartbeats 8000000 in
theorem socks_pieces_law (v0 v1 v2 v3 : Value) (w : World) (h0 : IsStr w v0) (h1 : IsStr w v1) (h2 : IsBytes w v2) (h3 : IsInts w v3) :
    Calls Try.prog 3 #[v0, v1, v2, v3] w fun e w' => e = .returned (.bool true) ∧ Below w.heap.size w w' := by
  have hs := Sat.refl w
  obtain ⟨u, rfl, hu⟩ := h0
  obtain ⟨q, rfl, hq⟩ := h1
  obtain ⟨p, hr⟩ := h2
  obtain ⟨ca, cc, cl, rfl, hcl⟩ := h3
  obtain ⟨a0, c0, rfl, -, -, -⟩ := hr.form
  by_cases l1 : 300 < u.size
  · have z : (300 : Int) < (u.size : Int) := by omega
    clear l1
    go_enter Try.func3, Try.ntmps3
    go_wp2_with fail
    refine (so_awake hs).mono ?_
    rintro _ wz ⟨rfl, hz⟩
    go_wp2_with fail
    go_ret
    exact ⟨rfl, hz.below⟩
  have z1 : (u.size : Int) ≤ 300 := by omega
  by_cases l2 : 300 < q.size
  · have z : (300 : Int) < (q.size : Int) := by omega
    clear l1 l2
    go_enter Try.func3, Try.ntmps3
    go_wp2_with fail
    refine (so_awake hs).mono ?_
    rintro _ wz ⟨rfl, hz⟩
    go_wp2_with fail
    go_ret
    exact ⟨rfl, hz.below⟩
  have z2 : (q.size : Int) ≤ 300 := by omega
  by_cases l3 : 3000 < p.length
  · have z : (3000 : Int) < (p.length : Int) := by omega
    clear l1 l2 l3
    go_enter Try.func3, Try.ntmps3
    go_wp2_with fail
    refine (so_awake hs).mono ?_
    rintro _ wz ⟨rfl, hz⟩
    go_wp2_with fail
    go_ret
    exact ⟨rfl, hz.below⟩
  have z3 : (p.length : Int) ≤ 3000 := by omega
  have hp3 : p.length ≤ 3000 := by omega
  clear l1 l2 l3
  have hrp : ∀ W, Below w.heap.size w W → RdB W (.slice a0 p.length c0) p := fun W hb => hr.mono hb
  go_enter Try.func3, Try.ntmps3
  go_wp2_with fail
  refine (so_New u q hs).mono ?_
  rintro _ w1 ⟨g1, rfl, s1⟩
  obtain ⟨a1, b1, c1, d1, e1, f1, s1⟩ := s1.opn
  go_wp2_with fail
  refine (so_New u q s1).mono ?_
  rintro _ w2 ⟨g2, rfl, s2⟩
  obtain ⟨a2, b2, c2, d2, e2, f2, s2⟩ := s2.swap
  obtain ⟨bv, s3⟩ := SoB.of s2
  clear s1 s2
  go_wp2_with fail
  refine (so_feed_on (fresh_state _ _).1 (fresh_state _ _).2 (by show 0 + p.length ≤ _; omega) s3 (fun W L' h => hrp W h.below)).mono ?_
  rintro _ w3 ⟨b3, rfl, s4⟩
  replace s4 := s4.drop
  obtain ⟨S, hS⟩ : ∃ S, (SoM.fresh u q).feed p = S := ⟨_, rfl⟩
  have HS := hid_ (show SoM.all u q p = S from hS)
  rw [hS] at s4
  clear hS s3
  obtain ⟨a3, b3', c3, d3, ⟨e3, f3, rfl⟩, s5⟩ := s4
  have s6 : SoS w w3 (SoP g1 S a3 b3' c3 d3 e3 f3 ++ []) g2 (SoM.fresh u q) := ⟨_, _, _, _, _, _, SoP.swap s5⟩
  obtain ⟨PS, hPS⟩ : ∃ PS, SoP g1 S a3 b3' c3 d3 e3 f3 = PS := ⟨_, rfl⟩
  have HPS := hid_ hPS
  rw [hPS] at s6
  clear hPS s5
  rw [List.append_nil] at s6
  have ha0 := all_nil u q
  have hst : Pcs w w3 u q p PS g2 (.slice none 0 0) (.slice a0 p.length c0) 0 [] p (SoM.fresh u q) :=
    ⟨rfl, .inr (by omega), hrp, by rw [ha0], by rw [ha0]; obtain ⟨x1, x2, x3, x4, x5, x6, h⟩ := s6; exact ⟨x1, x2, x3, x4, x5, x6, Sat.re [1, 2, 3, 4, 0] [_, _, _, _, _] (OwnB.nilI (t := 5) h)⟩⟩
  clear ha0 s6 hrp
  go_wp2_with fail
  go_loopg [13, 14, 15] 60 (fun gg v13 v14 v15 wr => ∃ (i : Nat) (f rest : List UInt8) (t : SoM), 52 - i ≤ gg ∧ i ≤ 51 ∧ v15 = .int .i64 i ∧ Pcs w wr u q p PS g2 v13 v14 i f rest t)
  case atStart => exact ⟨0, [], p, _, by omega, by omega, rfl, hst⟩
  case round =>
    obtain ⟨i, f, rest, t, hg, hi, rfl, hP⟩ := hrel
    clear hst
    by_cases hr0 : rest.length = 0
    · obtain rfl : rest = [] := List.eq_nil_of_length_eq_zero hr0
      obtain ⟨ar, cr, rfl, -⟩ := (hP.reads wr hP.owns.rest.below).form
      have hf : f = p := by have := hP.parts; rwa [List.append_nil] at this
      have hlike := hP.like
      have hown := hP.owns
      rw [hf, HS.out] at hlike hown
      have hs1 : t.state = S.state := (congrArg SoM.state hlike : t.nb.state = S.nb.state)
      have hd1 : t.dest = S.dest := (congrArg SoM.dest hlike : t.nb.dest = S.nb.dest)
      have hdl : S.dest.ip.length ≤ 16 := by rw [← HS.out]; exact all_dest u q p
      have k1 := str_conv hown.rdb
      have hown2 := hown
      rw [← HPS.out, ← List.append_nil (SoP g1 S a3 b3' c3 d3 e3 f3)] at hown2
      obtain ⟨L1, h1⟩ := hown2.other
      have k2 : (convert 22 9 (.slice e3 S.back.length f3)).run Try.prog wr = .ok (.string (strOf S.back)) wr := by
        obtain ⟨x1, x2, x3, x4, x5, x6, h⟩ := hown2
        exact str_conv (OwnB.rd (Sat.front [_, _, _, _, _, _, _, _] h))
      have hS1 := so_State h1
      have hS2 := so_State hown
      rw [hs1] at hS2
      have hA1 := so_Addr (by omega) h1
      have hA2 := fun W (h : Below wr.heap.size wr W) => so_Addr (by rw [hd1]; omega) (hown.under h)
      rw [hd1] at hA2
      clear hf hlike hown2 hP hs1 hd1 h1 hr0
      go_wp2_with fail
      refine hS1.mono ?_
      rintro _ _ ⟨rfl, rfl⟩
      go_wp2_with fail
      refine hS2.mono ?_
      rintro _ _ ⟨rfl, rfl⟩
      go_wp2_with fail
      refine hA1.mono ?_
      rintro _ w5 ⟨x1, y1, rfl, h5⟩
      go_wp2_with fail
      refine (hA2 w5 h5.below).mono ?_
      rintro _ w6 ⟨x2, y2, rfl, h6⟩
      have hN := ref_SameAddr (w := w6) S.dest S.dest x1 x2 y1 y2 (OwnB.rd (h5.under h6.below)) (OwnB.rd h6)
      rw [sameAd_self] at hN
      unfold adC at hN
      have hA := so_awake (hown.rest.under (h5.below.trans (h6.below.mono h5.below.size)))
      go_wp2_with fail
      refine hN.mono ?_
      rintro _ w7 ⟨rfl, h7⟩
      have hB := so_awake (((hown.rest.under h5.below).under h6.below).under h7)
      go_wp2_with fail
      refine hB.mono ?_
      rintro _ wz ⟨rfl, hz⟩
      go_wp2_with fail
      go_ret
      exact ⟨rfl, hz.below⟩
    · have hdn := hP.done
      have hi50 : i ≤ 50 := by
        rcases hdn with h | h
        · exact absurd (by rw [h]; rfl) hr0
        · exact h
      clear hdn
      obtain ⟨b, o, c, rfl, hl, hcm, -⟩ := (hP.reads wr hP.owns.rest.below).at0 (by omega)
      have g1 : (0 : Int) < (rest.length : Int) := by omega
      have g2 : (i : Int) < 60 := by omega
      have hlen0 : rest.length ≤ 3000 := by
        have := congrArg List.length hP.parts
        rw [List.length_append] at this
        omega
      have y1 : IntKind.i64.wrap ((rest.length : Int) + 1) = (rest.length : Int) + 1 := i64_in (by omega) (by omega)
      by_cases hcut : i < cl.length ∧ i < 50
      · obtain ⟨k1, k2⟩ := hcut
        have g3 : (i : Int) < (cl.length : Int) := by omega
        have g4 : (i : Int) < 50 := by omega
        obtain ⟨cb, co, rfl, hlt, hcc, -⟩ := hcl.2.2 i cl[i] (List.getElem?_eq_getElem k1)
        have hb0 := hP.owns.rest.below
        have q0 : wr.cell? ⟨cb, co + i, none⟩ = some (.int .i64 cl[i]) := by
          have h := hcc 0 _ rfl
          rw [Nat.mul_one] at h
          rw [show co + i = co + i + 0 from rfl, hb0.cell (p := ⟨cb, co + i + 0, none⟩) hlt]
          exact h
        obtain ⟨ci, hci⟩ : ∃ ci, cl[i] = ci := ⟨_, rfl⟩
        rw [hci] at q0
        have y2 : IntKind.u64.wrap ((rest.length : Int) + 1) = (rest.length : Int) + 1 := by
          unfold IntKind.wrap
          simp only [IntKind.signed, IntKind.bits, Bool.false_and, Bool.false_eq_true, if_false]
          omega
        have hum := um_bd ci (m := (rest.length : Int) + 1) (by omega) (by omega)
        obtain ⟨m, hm⟩ := Int.eq_ofNat_of_zero_le hum.1
        rw [hm] at hum
        have hml : m ≤ rest.length := by omega
        clear hcc hci
        obtain ⟨V1, hV1, hR1⟩ := slc_to (b := b) (o := o) (n := m) (ni := (m : Int)) rfl hml hl hcm
        obtain ⟨V2, hV2, hR2⟩ := slc_from (b := b) (o := o) (n := m) (ni := (m : Int)) rfl hml hl hcm
        have hx := fun W (hb : Below w.heap.size w W) => hR1 W _ rfl (hP.reads W hb)
        have hy := fun W (hb : Below w.heap.size w W) => hR2 W _ rfl (hP.reads W hb)
        have hparts : (f ++ rest.take m) ++ rest.drop m = p := by rw [List.append_assoc, List.take_append_drop]; exact hP.parts
        have hlen : f.length + rest.length = p.length := by rw [← List.length_append, hP.parts]
        have hlike := hP.like
        have hown := hP.owns
        have hfe := SoM.feed_eq hlike (rest.take m)
        have hst1 : t.state = (SoM.all u q f).state := (congrArg SoM.state hlike : t.nb.state = (SoM.all u q f).nb.state)
        have hwt1 : t.wait = (SoM.all u q f).wait := (congrArg SoM.wait hlike : t.nb.wait = (SoM.all u q f).nb.wait)
        have hpc := SoM.all_piece u q f (rest.take m) (by rw [List.length_take]; omega)
        have hsh := SoM.all_shape u q f (by omega)
        have hab : (SoM.all u q f).back.length ≤ 40 := SoM.feed_back _ f
        have hdone : rest.drop m = [] ∨ i + 1 ≤ 50 := .inr (by omega)
        clear hR1 hR2 hP
        rcases hpc with ⟨h5, hpc⟩ | ⟨hp0, hp3', hpc⟩
        · obtain ⟨G, hG, hK⟩ := SoS.app (t := 5) hown
          have hF := so_feed_shut (v := V1) (hst1.trans h5) hown
          have hD := hid_ (And.intro hpc (And.intro hparts (And.intro hlike hdone)))
          clear hfe hst1 hwt1 hpc hsh h5 hparts hlike hdone hown
          go_wp2_with fail
          refine hF.mono ?_
          rintro _ _ ⟨rfl, rfl⟩
          go_wp2_with (at_builtin; refine wpList_append_b (w0 := w) rfl _ _ 22 rfl rfl hG rfl (slSrc (RdB.nil wr)) (SoM.all u q f).back (SoM.all u q f).back.length (List.append_nil _) rfl (by omega) ?_)
          intro a5 n5 w5 h6
          have hown5 := hK _ _ _ h6
          go_wp2_with fail
          go_roundg (gk - 1)
          case rel =>
            obtain ⟨d1, d2, d3, d4⟩ := hD.out
            exact ⟨i + 1, f ++ rest.take m, rest.drop m, t, by omega, by omega, by go_num, ⟨d2, d4, hy, by rw [d1]; exact d3, by rw [d1]; exact hown5⟩⟩
          case measure => omega
        · obtain ⟨bv5, hB5⟩ := SoB.of hown
          have hl5 : t.wait.length ≤ 3000 := by
            rw [hwt1]
            rcases hsh with h | ⟨_, _, h⟩ <;> omega
          obtain ⟨T5, hT5⟩ : ∃ T5, (SoM.all u q f).feed (rest.take m) = T5 := ⟨_, rfl⟩
          have hTb : T5.back.length ≤ 40 := by rw [← hT5]; exact SoM.feed_back _ _
          rw [hT5] at hfe hpc
          have hF := so_feed_on (s := t) (v := V1) (by rw [hst1]; exact hp0) (by rw [hst1]; exact hp3') (by rw [List.length_take]; omega) hB5 (fun W L' h => hx W h.below)
          rw [hfe] at hF
          have hD := hid_ (And.intro hpc (And.intro hparts hdone))
          clear hfe hst1 hwt1 hpc hsh hparts hlike hdone hown hp0 hp3' hl5 hT5
          go_wp2_with fail
          refine hF.mono ?_
          rintro _ w5 ⟨b5, rfl, h6⟩
          replace h6 := h6.drop
          have hb5 := h6.back
          obtain ⟨a5, n5, rfl⟩ := h6.form
          obtain ⟨G, hG, hK⟩ := SoS.app (t := 5) h6.to
          go_wp2_with (at_builtin; refine wpList_append_b (w0 := w) rfl _ _ 22 rfl rfl hG rfl (slSrc hb5) ((SoM.all u q f).back ++ T5.back) ((SoM.all u q f).back.length + T5.back.length) rfl (by simp) (by omega) ?_)
          intro a6 n6 w6 h7
          have hown5 := hK _ _ _ h7
          go_wp2_with fail
          go_roundg (gk - 1)
          case rel =>
            obtain ⟨d1, d2, d3⟩ := hD.out
            exact ⟨i + 1, f ++ rest.take m, rest.drop m, T5, by omega, by omega, by go_num, ⟨d2, d3, hy, by rw [d1]; rfl, by rw [d1]; exact hown5⟩⟩
          case measure => omega
      · have hml : rest.length ≤ rest.length := Nat.le_refl _
        by_cases k1 : i < cl.length
        · have g3 : (i : Int) < (cl.length : Int) := by omega
          have g4 : ¬ (i : Int) < 50 := by omega
          clear hcut
          obtain ⟨V1, hV1, hR1⟩ := slc_to (b := b) (o := o) (n := rest.length) (ni := (rest.length : Int)) rfl hml hl hcm
          obtain ⟨V2, hV2, hR2⟩ := slc_from (b := b) (o := o) (n := rest.length) (ni := (rest.length : Int)) rfl hml hl hcm
          have hx := fun W (hb : Below w.heap.size w W) => hR1 W _ rfl (hP.reads W hb)
          have hy := fun W (hb : Below w.heap.size w W) => hR2 W _ rfl (hP.reads W hb)
          have hparts : (f ++ rest.take rest.length) ++ rest.drop rest.length = p := by rw [List.append_assoc, List.take_append_drop]; exact hP.parts
          have hlen : f.length + rest.length = p.length := by rw [← List.length_append, hP.parts]
          have hlike := hP.like
          have hown := hP.owns
          have hfe := SoM.feed_eq hlike (rest.take rest.length)
          have hst1 : t.state = (SoM.all u q f).state := (congrArg SoM.state hlike : t.nb.state = (SoM.all u q f).nb.state)
          have hwt1 : t.wait = (SoM.all u q f).wait := (congrArg SoM.wait hlike : t.nb.wait = (SoM.all u q f).nb.wait)
          have hpc := SoM.all_piece u q f (rest.take rest.length) (by rw [List.length_take]; omega)
          have hsh := SoM.all_shape u q f (by omega)
          have hab : (SoM.all u q f).back.length ≤ 40 := SoM.feed_back _ f
          have hdone : rest.drop rest.length = [] ∨ i + 1 ≤ 50 := .inl (List.drop_eq_nil_iff.2 (Nat.le_refl _))
          clear hR1 hR2 hP
          rcases hpc with ⟨h5, hpc⟩ | ⟨hp0, hp3', hpc⟩
          · obtain ⟨G, hG, hK⟩ := SoS.app (t := 5) hown
            have hF := so_feed_shut (v := V1) (hst1.trans h5) hown
            have hD := hid_ (And.intro hpc (And.intro hparts (And.intro hlike hdone)))
            clear hfe hst1 hwt1 hpc hsh h5 hparts hlike hdone hown
            go_wp2_with fail
            refine hF.mono ?_
            rintro _ _ ⟨rfl, rfl⟩
            go_wp2_with (at_builtin; refine wpList_append_b (w0 := w) rfl _ _ 22 rfl rfl hG rfl (slSrc (RdB.nil wr)) (SoM.all u q f).back (SoM.all u q f).back.length (List.append_nil _) rfl (by omega) ?_)
            intro a5 n5 w5 h6
            have hown5 := hK _ _ _ h6
            go_wp2_with fail
            go_roundg (gk - 1)
            case rel =>
              obtain ⟨d1, d2, d3, d4⟩ := hD.out
              exact ⟨i + 1, f ++ rest.take rest.length, rest.drop rest.length, t, by omega, by omega, by go_num, ⟨d2, d4, hy, by rw [d1]; exact d3, by rw [d1]; exact hown5⟩⟩
            case measure => omega
          · obtain ⟨bv5, hB5⟩ := SoB.of hown
            have hl5 : t.wait.length ≤ 3000 := by
              rw [hwt1]
              rcases hsh with h | ⟨_, _, h⟩ <;> omega
            obtain ⟨T5, hT5⟩ : ∃ T5, (SoM.all u q f).feed (rest.take rest.length) = T5 := ⟨_, rfl⟩
            have hTb : T5.back.length ≤ 40 := by rw [← hT5]; exact SoM.feed_back _ _
            rw [hT5] at hfe hpc
            have hF := so_feed_on (s := t) (v := V1) (by rw [hst1]; exact hp0) (by rw [hst1]; exact hp3') (by rw [List.length_take]; omega) hB5 (fun W L' h => hx W h.below)
            rw [hfe] at hF
            have hD := hid_ (And.intro hpc (And.intro hparts hdone))
            clear hfe hst1 hwt1 hpc hsh hparts hlike hdone hown hp0 hp3' hl5 hT5
            go_wp2_with fail
            refine hF.mono ?_
            rintro _ w5 ⟨b5, rfl, h6⟩
            replace h6 := h6.drop
            have hb5 := h6.back
            obtain ⟨a5, n5, rfl⟩ := h6.form
            obtain ⟨G, hG, hK⟩ := SoS.app (t := 5) h6.to
            go_wp2_with (at_builtin; refine wpList_append_b (w0 := w) rfl _ _ 22 rfl rfl hG rfl (slSrc hb5) ((SoM.all u q f).back ++ T5.back) ((SoM.all u q f).back.length + T5.back.length) rfl (by simp) (by omega) ?_)
            intro a6 n6 w6 h7
            have hown5 := hK _ _ _ h7
            go_wp2_with fail
            go_roundg (gk - 1)
            case rel =>
              obtain ⟨d1, d2, d3⟩ := hD.out
              exact ⟨i + 1, f ++ rest.take rest.length, rest.drop rest.length, T5, by omega, by omega, by go_num, ⟨d2, d3, hy, by rw [d1]; rfl, by rw [d1]; exact hown5⟩⟩
            case measure => omega
        · have g3 : ¬ (i : Int) < (cl.length : Int) := by omega
          clear hcut
          obtain ⟨V1, hV1, hR1⟩ := slc_to (b := b) (o := o) (n := rest.length) (ni := (rest.length : Int)) rfl hml hl hcm
          obtain ⟨V2, hV2, hR2⟩ := slc_from (b := b) (o := o) (n := rest.length) (ni := (rest.length : Int)) rfl hml hl hcm
          have hx := fun W (hb : Below w.heap.size w W) => hR1 W _ rfl (hP.reads W hb)
          have hy := fun W (hb : Below w.heap.size w W) => hR2 W _ rfl (hP.reads W hb)
          have hparts : (f ++ rest.take rest.length) ++ rest.drop rest.length = p := by rw [List.append_assoc, List.take_append_drop]; exact hP.parts
          have hlen : f.length + rest.length = p.length := by rw [← List.length_append, hP.parts]
          have hlike := hP.like
          have hown := hP.owns
          have hfe := SoM.feed_eq hlike (rest.take rest.length)
          have hst1 : t.state = (SoM.all u q f).state := (congrArg SoM.state hlike : t.nb.state = (SoM.all u q f).nb.state)
          have hwt1 : t.wait = (SoM.all u q f).wait := (congrArg SoM.wait hlike : t.nb.wait = (SoM.all u q f).nb.wait)
          have hpc := SoM.all_piece u q f (rest.take rest.length) (by rw [List.length_take]; omega)
          have hsh := SoM.all_shape u q f (by omega)
          have hab : (SoM.all u q f).back.length ≤ 40 := SoM.feed_back _ f
          have hdone : rest.drop rest.length = [] ∨ i + 1 ≤ 50 := .inl (List.drop_eq_nil_iff.2 (Nat.le_refl _))
          clear hR1 hR2 hP
          rcases hpc with ⟨h5, hpc⟩ | ⟨hp0, hp3', hpc⟩
          · obtain ⟨G, hG, hK⟩ := SoS.app (t := 5) hown
            have hF := so_feed_shut (v := V1) (hst1.trans h5) hown
            have hD := hid_ (And.intro hpc (And.intro hparts (And.intro hlike hdone)))
            clear hfe hst1 hwt1 hpc hsh h5 hparts hlike hdone hown
            go_wp2_with fail
            refine hF.mono ?_
            rintro _ _ ⟨rfl, rfl⟩
            go_wp2_with (at_builtin; refine wpList_append_b (w0 := w) rfl _ _ 22 rfl rfl hG rfl (slSrc (RdB.nil wr)) (SoM.all u q f).back (SoM.all u q f).back.length (List.append_nil _) rfl (by omega) ?_)
            intro a5 n5 w5 h6
            have hown5 := hK _ _ _ h6
            go_wp2_with fail
            go_roundg (gk - 1)
            case rel =>
              obtain ⟨d1, d2, d3, d4⟩ := hD.out
              exact ⟨i + 1, f ++ rest.take rest.length, rest.drop rest.length, t, by omega, by omega, by go_num, ⟨d2, d4, hy, by rw [d1]; exact d3, by rw [d1]; exact hown5⟩⟩
            case measure => omega
          · obtain ⟨bv5, hB5⟩ := SoB.of hown
            have hl5 : t.wait.length ≤ 3000 := by
              rw [hwt1]
              rcases hsh with h | ⟨_, _, h⟩ <;> omega
            obtain ⟨T5, hT5⟩ : ∃ T5, (SoM.all u q f).feed (rest.take rest.length) = T5 := ⟨_, rfl⟩
            have hTb : T5.back.length ≤ 40 := by rw [← hT5]; exact SoM.feed_back _ _
            rw [hT5] at hfe hpc
            have hF := so_feed_on (s := t) (v := V1) (by rw [hst1]; exact hp0) (by rw [hst1]; exact hp3') (by rw [List.length_take]; omega) hB5 (fun W L' h => hx W h.below)
            rw [hfe] at hF
            have hD := hid_ (And.intro hpc (And.intro hparts hdone))
            clear hfe hst1 hwt1 hpc hsh hparts hlike hdone hown hp0 hp3' hl5 hT5
            go_wp2_with fail
            refine hF.mono ?_
            rintro _ w5 ⟨b5, rfl, h6⟩
            replace h6 := h6.drop
            have hb5 := h6.back
            obtain ⟨a5, n5, rfl⟩ := h6.form
            obtain ⟨G, hG, hK⟩ := SoS.app (t := 5) h6.to
            go_wp2_with (at_builtin; refine wpList_append_b (w0 := w) rfl _ _ 22 rfl rfl hG rfl (slSrc hb5) ((SoM.all u q f).back ++ T5.back) ((SoM.all u q f).back.length + T5.back.length) rfl (by simp) (by omega) ?_)
            intro a6 n6 w6 h7
            have hown5 := hK _ _ _ h7
            go_wp2_with fail
            go_roundg (gk - 1)
            case rel =>
              obtain ⟨d1, d2, d3⟩ := hD.out
              exact ⟨i + 1, f ++ rest.take rest.length, rest.drop rest.length, T5, by omega, by omega, by go_num, ⟨d2, d3, hy, by rw [d1]; rfl, by rw [d1]; exact hown5⟩⟩
            case measure => omega
end Go.Proofs.Ythfdejgckcoohaa
