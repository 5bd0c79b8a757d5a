/- The law SocksPlays, walked. -/
import Derived.Deep.RegionHeld3
import Derived.Test.YthfdejgckcoohaaSoK
import Derived.Test.YthfdejgckcoohaaRsF
namespace Go.Proofs.Ythfdejgckcoohaa
open Go Go.RowKit
set_option linter.unusedVariables false
set_option linter.unusedSimpArgs false

def RsP (g : Nat) (s : SoM) (wa : Option Addr) (wc : Nat) (ta : Option Addr) (tc : Nat) : List Assn :=
  [Blk g (rsO s (.slice wa s.wait.length wc) (.slice ta s.dest.ip.length tc)), OwnB 5 (.slice wa s.wait.length wc) s.wait, OwnB 5 (.slice ta s.dest.ip.length tc) s.dest.ip]
/-- Both of them. -/
def Both (w0 w : World) (g1 g2 : Nat) (s : SoM) : Prop := ∃ wa wc ta tc L, SoS w0 w (RsP g2 s wa wc ta tc ++ L) g1 s
structure Fine (s : SoM) (n : Nat) : Prop where
  lo : 0 ≤ s.state
  hi : s.state ≤ 5
  wait : s.wait.length ≤ n
  ip : s.dest.ip.length ≤ 16
  back : s.back.length ≤ 40
theorem Fine.feed {s : SoM} {n : Nat} (h : Fine s n) (h3 : s.state ≤ 3) {k : List UInt8} (hk : k.length ≤ 4500) : Fine (s.feed k) (n + 4500) := by
  have h1 := SoM.feed_state h.lo h3 k
  have h2 := s.feed_wait k
  have := h.wait
  exact ⟨by omega, by omega, by omega, SoM.feed_dest h.ip k, s.feed_back k⟩
theorem Fine.more {s : SoM} {n : Nat} (h : Fine s n) : Fine s (n + 4500) := ⟨h.lo, h.hi, by have := h.wait; omega, h.ip, h.back⟩
theorem Fine.shut {s : SoM} {n : Nat} (h : Fine s n) : Fine (s.close []) (n + 4500) := ⟨by show (0 : Int) ≤ 5; decide, by show (5 : Int) ≤ 5; decide, Nat.zero_le _, Nat.zero_le _, by show (s.back ++ []).length ≤ 40; rw [List.append_nil]; exact h.back⟩
theorem Fine.done {s : SoM} {n : Nat} (h : Fine s n) : Fine { s with state := 4, wait := [] } (n + 4500) := ⟨by show (0 : Int) ≤ 4; decide, by show (4 : Int) ≤ 5; decide, Nat.zero_le _, h.ip, h.back⟩
section
variable {w0 w w' : World} {L M : List Assn} {A : Assn} {g g1 g2 : Nat} {s s1 s2 : SoM}
theorem RsP.swap {a b c d e f a' b' c' d'} (h : Sat w0 w (SoP g1 s1 a b c d e f ++ (RsP g2 s2 a' b' c' d' ++ L))) : Sat w0 w (RsP g2 s2 a' b' c' d' ++ (SoP g1 s1 a b c d e f ++ L)) := by
  rw [← List.append_assoc] at h ⊢
  exact Sat.perm (List.Perm.append_right L List.perm_append_comm) h
theorem RsP.swap' {a b c d e f a' b' c' d'} (h : Sat w0 w (RsP g2 s2 a' b' c' d' ++ (SoP g1 s1 a b c d e f ++ L))) : Sat w0 w (SoP g1 s1 a b c d e f ++ (RsP g2 s2 a' b' c' d' ++ L)) := by
  rw [← List.append_assoc] at h ⊢
  exact Sat.perm (List.Perm.append_right L List.perm_append_comm) h
/-- From the one to the other, what stands ahead goes behind. -/
theorem SoS.toRs {wa : Option Addr} {wc : Nat} {ta : Option Addr} {tc : Nat} (M : List Assn) (h : SoS w0 w (M ++ (RsP g2 s2 wa wc ta tc ++ L)) g1 s1) :
    ∃ a b c d e f, RsS w0 w (SoP g1 s1 a b c d e f ++ (M ++ L)) g2 s2 := by
  obtain ⟨a, b, c, d, e, f, h⟩ := h
  refine ⟨a, b, c, d, e, f, wa, wc, ta, tc, ?_⟩
  have h2 : Sat w0 w (SoP g1 s1 a b c d e f ++ (M ++ (RsP g2 s2 wa wc ta tc ++ L))) := h
  have h3 : Sat w0 w (SoP g1 s1 a b c d e f ++ (RsP g2 s2 wa wc ta tc ++ (M ++ L))) := by
    refine Sat.perm ?_ h2
    refine List.Perm.append_left _ ?_
    rw [← List.append_assoc, ← List.append_assoc]
    exact List.Perm.append_right L List.perm_append_comm
  exact RsP.swap h3
theorem RsS.toSo {a : Option Addr} {b : Nat} {c : Option Addr} {d : Nat} {e : Option Addr} {f : Nat} (M : List Assn) (h : RsS w0 w (M ++ (SoP g1 s1 a b c d e f ++ L)) g2 s2) :
    ∃ wa wc ta tc, SoS w0 w (RsP g2 s2 wa wc ta tc ++ (M ++ L)) g1 s1 := by
  obtain ⟨wa, wc, ta, tc, h⟩ := h
  refine ⟨wa, wc, ta, tc, a, b, c, d, e, f, ?_⟩
  have h2 : Sat w0 w (RsP g2 s2 wa wc ta tc ++ (M ++ (SoP g1 s1 a b c d e f ++ L))) := h
  have h3 : Sat w0 w (RsP g2 s2 wa wc ta tc ++ (SoP g1 s1 a b c d e f ++ (M ++ L))) := by
    refine Sat.perm ?_ h2
    refine List.Perm.append_left _ ?_
    rw [← List.append_assoc, ← List.append_assoc]
    exact List.Perm.append_right L List.perm_append_comm
  exact RsP.swap' h3
theorem Both.under (h : Both w0 w g1 g2 s) (hb : Below w.heap.size w w') : Both w0 w' g1 g2 s := by
  obtain ⟨a, b, c, d, L, h⟩ := h
  exact ⟨a, b, c, d, L, h.under hb⟩
theorem Both.so (h : Both w0 w g1 g2 s) : ∃ L, SoS w0 w L g1 s := by
  obtain ⟨a, b, c, d, L, h⟩ := h
  exact ⟨_, h⟩
theorem Both.below (h : Both w0 w g1 g2 s) : Below w0.heap.size w0 w := by
  obtain ⟨L, h⟩ := h.so
  exact h.rest.below
theorem Both.rs (h : Both w0 w g1 g2 s) : ∃ L, RsS w0 w L g2 s := by
  obtain ⟨a, b, c, d, L, h⟩ := h
  obtain ⟨x1, x2, x3, x4, x5, x6, h2⟩ := SoS.toRs [] h
  exact ⟨_, h2⟩
/-- The cells that the law reads of the document's. -/
theorem Both.cells (h : Both w0 w g1 g2 s) : ∃ ta tc, (w.cell? ⟨g2, 2, none⟩ = some (.int .i64 s.state) ∧ w.cell? ⟨g2, 4, none⟩ = some (.int .i64 s.dest.kind) ∧ w.cell? ⟨g2, 5, none⟩ = some (.slice ta s.dest.ip.length tc) ∧ w.cell? ⟨g2, 6, none⟩ = some (.string s.dest.name) ∧ w.cell? ⟨g2, 7, none⟩ = some (.int .i64 s.dest.port)) ∧ RdB w (.slice ta s.dest.ip.length tc) s.dest.ip := by
  obtain ⟨L, a, b, c, d, h⟩ := h.rs
  exact ⟨c, d, ⟨h.cell 2 rfl, h.cell 4 rfl, h.cell 5 rfl, h.cell 6 rfl, h.cell 7 rfl⟩, OwnB.rd (Sat.front [_, _] h)⟩
theorem below_drew : Below w.heap.size w w.drew := (Below.refl _ _).drew
end
set_option maxRecDepth 100000 in
set_option maxHeartbeats 16000000 in
theorem socks_plays_law (v0 v1 v2 : Value) (w : World) (h0 : IsStr w v0) (h1 : IsStr w v1) (h2 : IsCalls w v2) :
    Calls Try.prog 6 #[v0, v1, v2] w fun e w' => e = .returned (.bool true) ∧ Below w.heap.size w w' := by
  have hs := Sat.refl w
  obtain ⟨u, rfl, hu⟩ := h0
  obtain ⟨q, rfl, hq⟩ := h1
  obtain ⟨ca, cc, cl, rfl, hcl⟩ := h2
  by_cases l1 : 300 < u.size
  · have z : (300 : Int) < (u.size : Int) := by omega
    clear l1
    go_enter Try.func6, Try.ntmps6
    go_wp2_with fail
    refine (so_awake hs).mono ?_
    rintro _ wz ⟨rfl, hz⟩
    go_wp2_with fail
    go_ret
    exact ⟨rfl, hz.below⟩
  have z1 : (u.size : Int) ≤ 300 := by omega
  by_cases l2 : 300 < q.size
  · have z : (300 : Int) < (q.size : Int) := by omega
    clear l1 l2
    go_enter Try.func6, Try.ntmps6
    go_wp2_with fail
    refine (so_awake hs).mono ?_
    rintro _ wz ⟨rfl, hz⟩
    go_wp2_with fail
    go_ret
    exact ⟨rfl, hz.below⟩
  have z2 : (q.size : Int) ≤ 300 := by omega
  clear l1 l2
  go_enter Try.func6, Try.ntmps6
  go_wp2_with fail
  refine (so_New u q hs).mono ?_
  rintro _ w1 ⟨g1, rfl, s1⟩
  obtain ⟨a1, b1, c1, d1, e1, f1, s1⟩ := s1.opn
  go_wp2_with fail
  refine (rs_New u q s1).mono ?_
  rintro _ w2 ⟨g2, rfl, s2⟩
  have hst : Both w w2 g1 g2 (SoM.fresh u q) := by
    obtain ⟨a, b, c, d, h⟩ := RsS.toSo [] s2
    exact ⟨a, b, c, d, _, h⟩
  have hfn : Fine (SoM.fresh u q) 0 := ⟨(fresh_state _ _).1, by have := (fresh_state u q).2; omega, Nat.zero_le _, Nat.zero_le _, Nat.zero_le _⟩
  clear s1 s2
  go_wp2_with fail
  go_loopg [34] (cl.length) (fun gg v34 wr => ∃ (i : Nat) (S : SoM), cl.length - i ≤ gg ∧ i ≤ cl.length ∧ i ≤ 40 ∧ v34 = .int .i64 i ∧ Fine S (4500 * i) ∧ Both w wr g1 g2 S)
  case atStart => exact ⟨0, _, by omega, by omega, by omega, rfl, hfn, hst⟩
  case round =>
    obtain ⟨i, S, hgg, hil, hi40, rfl, hF, hB⟩ := hrel
    clear hst hfn
    by_cases hlt : i < cl.length
    case neg =>
      have y1 : ¬ (i : Int) < (cl.length : Int) := by omega
      obtain ⟨L, hso⟩ := hB.so
      have hA := so_awake hso.rest
      go_wp2_with fail
      refine hA.mono ?_
      rintro _ wz ⟨rfl, hz⟩
      go_wp2_with fail
      go_ret
      exact ⟨rfl, hz.below⟩
    have y1 : (i : Int) < (cl.length : Int) := by omega
    obtain ⟨cb, co, rfl, hcb, hcc, hcr⟩ := hcl.2.2 i cl[i] (List.getElem?_eq_getElem hlt)
    obtain ⟨C, hC⟩ : ∃ C, cl[i] = C := ⟨_, rfl⟩
    rw [hC] at hcc hcr
    obtain ⟨ckind, ccode, cp, ccap, k⟩ := C
    have hbw := hB.below
    have q0 : wr.cell? ⟨cb, co + i * 3, none⟩ = some (.int .i64 ckind) := by
      rw [hbw.cell (p := ⟨cb, co + i * 3, none⟩) hcb]
      exact hcc 0 _ rfl
    have q1 : wr.cell? ⟨cb, co + i * 3 + 1, none⟩ = some (.int .i64 ccode) := by
      rw [hbw.cell (p := ⟨cb, co + i * 3 + 1, none⟩) hcb]
      exact hcc 1 _ rfl
    have q2 : wr.cell? ⟨cb, co + i * 3 + 2, none⟩ = some (.slice cp k.length ccap) := by
      rw [hbw.cell (p := ⟨cb, co + i * 3 + 2, none⟩) hcb]
      exact hcc 2 _ rfl
    have hk : RdB w (.slice cp k.length ccap) k := hcr
    have hbox := (Sat.refl wr).alloc (.cells #[.int .i64 ckind, .int .i64 ccode, .slice cp k.length ccap] 42 (0, 0))
    clear hcc hcr hC
    obtain ⟨L0, hso0⟩ := hB.so
    have hA0 := so_awake (hso0.rest.under hbox.below)
    by_cases hi : i = 40
    · have y2 : (40 : Int) ≤ (i : Int) := by omega
      clear hi
      go_wp2_with fail
      refine hA0.mono ?_
      rintro _ wz ⟨rfl, hz⟩
      go_wp2_with fail
      go_ret
      exact ⟨rfl, hz.below⟩
    have y2 : ¬ (40 : Int) ≤ (i : Int) := by omega
    by_cases hkl : 4500 < k.length
    · have y3 : (4500 : Int) < (k.length : Int) := by omega
      clear hkl
      go_wp2_with fail
      refine hA0.mono ?_
      rintro _ wz ⟨rfl, hz⟩
      go_wp2_with fail
      go_ret
      exact ⟨rfl, hz.below⟩
    have y3 : ¬ (4500 : Int) < (k.length : Int) := by omega
    have hk4 : k.length ≤ 4500 := by omega
    have hw0 := hF.wait
    clear hA0 hso0
    obtain ⟨a1, b1, c1, d1, L1, h1⟩ := hB
    have h2 : SoS w (wr.alloc (.cells #[.int .i64 ckind, .int .i64 ccode, .slice cp k.length ccap] 42 (0, 0))) (RsP g2 S a1 b1 c1 d1 ++ (Blk wr.heap.size (.cells #[.int .i64 ckind, .int .i64 ccode, .slice cp k.length ccap] 42 (0, 0)) :: L1)) g1 S := by
      exact (h1.add hbox).re List.perm_middle.symm
    clear h1 hbox
    obtain ⟨sz, hsz⟩ : ∃ sz, 4500 * i = sz := ⟨_, rfl⟩
    have HSZ := hid_ hsz
    rw [hsz] at hF hw0
    have hszb : sz ≤ 180000 := by omega
    clear hsz
    by_cases hd : ckind = 0
    · have hdk : (ckind == 0) = true := by rw [hd]; rfl
      clear hd
      by_cases hs3 : S.state ≤ 3
      · skip
        have hS3 : S.state ≤ 3 := hs3
        obtain ⟨bv, h3⟩ := SoB.of h2
        have hvw : Vw w (RsP g2 S a1 b1 c1 d1 ++ (Blk wr.heap.size (.cells #[.int .i64 ckind, .int .i64 ccode, .slice cp k.length ccap] 42 (0, 0)) :: L1)) (.slice cp k.length ccap) k := fun W L' h => hk.mono h.below
        have hC1 := so_feed_on hF.lo hS3 (by omega) h3 hvw
        clear h2 h3 hvw
        go_wp2_with fail
        refine hC1.mono ?_
        rintro _ w3 ⟨b3, rfl, h4⟩
        obtain ⟨e1, e2, e3, e4, ⟨e5, e6, rfl⟩, h4⟩ := h4
        have h5 : RsS w w3 (SoP g1 (S.feed k) e1 e2 e3 e4 e5 e6 ++ (OwnB 5 bv S.back :: (Blk wr.heap.size (.cells #[.int .i64 ckind, .int .i64 ccode, .slice cp k.length ccap] 42 (0, 0)) :: L1))) g2 S := by
          refine ⟨a1, b1, c1, d1, RsP.swap ?_⟩
          refine Sat.perm ?_ h4
          exact List.Perm.append_left (SoP g1 (S.feed k) e1 e2 e3 e4 e5 e6) List.perm_middle.symm
        have bx2 : w3.cell? ⟨wr.heap.size, 2, none⟩ = some (.slice cp k.length ccap) := (Sat.front [_, _, _, _, _, _, _, _] h4).cell 2 rfl
        have hC2 := rs_feed_on hF.lo hS3 (by omega) h5 (fun W L' h => hk.mono h.below)
        clear h4 h5 hC1
        go_wp2_with fail
        refine hC2.mono ?_
        rintro _ w4 ⟨e7, e8, rfl, h6⟩
        have rx := h6.rdb
        have ra : RdB w4 (.slice e5 (S.feed k).back.length e6) (S.feed k).back := by
          obtain ⟨x1, x2, x3, x4, h7⟩ := h6
          exact OwnB.rd (Sat.front [_, _, _, _, _, _, _] h7)
        have rb := RdB.nil w4
        have ry := RdB.nil w4
        have hB4 : Both w w4 g1 g2 (S.feed k) := by
          obtain ⟨x1, x2, x3, x4, h7⟩ := RsS.toSo [_] h6
          exact ⟨x1, x2, x3, x4, _, h7⟩
        have hF4 := hF.feed hS3 hk4
        clear h6 hC2 bx2
        obtain ⟨S4, hS4⟩ : ∃ S4, S.feed k = S4 := ⟨_, rfl⟩
        rw [hS4] at hB4 hF4
        obtain ⟨RA, hRA⟩ : ∃ l, (S.feed k).back = l := ⟨_, rfl⟩
        obtain ⟨RB, hRB⟩ : ∃ l, ([] : List UInt8) = l := ⟨_, rfl⟩
        replace ra : RdB w4 (.slice e5 (S.feed k).back.length e6) RA := by rw [← hRA]; exact ra
        replace rx : RdB w4 (.slice e7 (S.feed k).back.length e8) RA := by rw [← hRA]; exact rx
        replace rb : RdB w4 (.slice none 0 0) RB := by rw [← hRB]; exact rb
        replace ry : RdB w4 (.slice none 0 0) RB := by rw [← hRB]; exact ry
        clear hS4 hRA hRB
        obtain ⟨tx, tcx, hc4, hip4⟩ := hB4.cells
        have mk : ∀ W, Below w4.heap.size w4 W → (W.cell? ⟨g2, 2, none⟩ = some (.int .i64 S4.state) ∧ W.cell? ⟨g2, 4, none⟩ = some (.int .i64 S4.dest.kind) ∧ W.cell? ⟨g2, 5, none⟩ = some (.slice tx S4.dest.ip.length tcx) ∧ W.cell? ⟨g2, 6, none⟩ = some (.string S4.dest.name) ∧ W.cell? ⟨g2, 7, none⟩ = some (.int .i64 S4.dest.port) ∧ (convert 22 9 (.slice e5 (S.feed k).back.length e6)).run Try.prog W = .ok (.string (strOf RA)) W ∧ (convert 22 9 (.slice e7 (S.feed k).back.length e8)).run Try.prog W = .ok (.string (strOf RA)) W ∧ (convert 22 9 (.slice none 0 0)).run Try.prog W = .ok (.string (strOf RB)) W ∧ (convert 22 9 (.slice none 0 0)).run Try.prog W = .ok (.string (strOf RB)) W) := fun W hb =>
          ⟨cell_later hb hc4.1, cell_later hb hc4.2.1, cell_later hb hc4.2.2.1, cell_later hb hc4.2.2.2.1, cell_later hb hc4.2.2.2.2, str_conv (ra.mono hb), str_conv (rx.mono hb), str_conv (rb.mono hb), str_conv (ry.mono hb)⟩
        have hB5 := hB4.under (below_drew (w := w4))
        obtain ⟨L5, hso5⟩ := hB5.so
        have hSt := so_State hso5
        have hAd := so_Addr (by have := hF4.ip; omega) hso5
        have hbd := below_drew (w := w4)
        go_upto_region 16 with fail
        go_region_held3 (fun W => W.cell? ⟨g2, 2, none⟩ = some (.int .i64 S4.state) ∧ W.cell? ⟨g2, 4, none⟩ = some (.int .i64 S4.dest.kind) ∧ W.cell? ⟨g2, 5, none⟩ = some (.slice tx S4.dest.ip.length tcx) ∧ W.cell? ⟨g2, 6, none⟩ = some (.string S4.dest.name) ∧ W.cell? ⟨g2, 7, none⟩ = some (.int .i64 S4.dest.port) ∧ (convert 22 9 (.slice e5 (S.feed k).back.length e6)).run Try.prog W = .ok (.string (strOf RA)) W ∧ (convert 22 9 (.slice e7 (S.feed k).back.length e8)).run Try.prog W = .ok (.string (strOf RA)) W ∧ (convert 22 9 (.slice none 0 0)).run Try.prog W = .ok (.string (strOf RB)) W ∧ (convert 22 9 (.slice none 0 0)).run Try.prog W = .ok (.string (strOf RB)) W)
          (first | exact mk _ hb10' | exact mk _ hb9' | exact mk _ hbd)
          (first | (go_at_call 13; refine hSt.mono ?_; rintro _ _ ⟨rfl, rfl⟩) | (go_at_call 15; refine hAd.mono ?_; rintro _ w9 ⟨x9, y9, rfl, t6⟩; have hb9' := hbd.trans t6.below) | (go_at_call 14; have hN := ref_SameAddr S4.dest S4.dest x9 tx y9 tcx (OwnB.rd t6) (hip4.mono hb9'); rw [sameAd_self] at hN; refine hN.mono ?_; rintro _ w10 ⟨rfl, hb10⟩; have hb10' := hb9'.trans (hb10.mono hb9'.size)))
        all_goals
          have hB6 := hB4.under hb10'
          clear hSt hAd mk hc4 hip4
          go_wp2_with fail
          go_roundg (cl.length - (i + 1))
          case rel => exact ⟨i + 1, S4, by omega, by omega, by omega, by go_num, by rw [show 4500 * (i + 1) = sz + 4500 by have := HSZ.out; omega]; exact hF4, hB6⟩
          case measure => omega
      by_cases hs4 : S.state = 4
      · skip
        have hB1 : Both w _ g1 g2 S := ⟨a1, b1, c1, d1, _, h2⟩
        have hC1 := so_feed_open hs4 (by omega) h2 (hk.mono h2.rest.below)
        have bx1 : (wr.alloc (.cells #[.int .i64 ckind, .int .i64 ccode, .slice cp k.length ccap] 42 (0, 0))).cell? ⟨wr.heap.size, 2, none⟩ = some (.slice cp k.length ccap) := by
          obtain ⟨x1, x2, x3, x4, x5, x6, h⟩ := h2
          exact (Sat.front [_, _, _, _, _, _, _] h).cell (i := 2) (v := .slice cp k.length ccap) rfl
        clear h2
        go_wp2_with fail
        refine hC1.mono ?_
        rintro _ w3 ⟨e1, e2, rfl, h4⟩
        have bx2 : w3.cell? ⟨wr.heap.size, 2, none⟩ = some (.slice cp k.length ccap) := cell_later h4.below bx1
        have hB2 := hB1.under h4.below
        obtain ⟨L3, h5⟩ := hB2.rs
        have hC2 := rs_feed_open hs4 (by omega) h5 (hk.mono h5.rest.below)
        clear bx1 hC1 h5 hB1
        go_wp2_with fail
        refine hC2.mono ?_
        rintro _ w4 ⟨e3, e4, rfl, h6⟩
        have ra := RdB.nil w4
        have rx := RdB.nil w4
        have rb := (OwnB.rd h4).mono h6.below
        have ry := OwnB.rd h6
        have hB4 := hB2.under h6.below
        have hF4 := hF.more
        clear h4 h6 hC2 bx2 hB2
        obtain ⟨S4, hS4⟩ : ∃ S4, S = S4 := ⟨_, rfl⟩
        rw [hS4] at hB4 hF4
        obtain ⟨RA, hRA⟩ : ∃ l, ([] : List UInt8) = l := ⟨_, rfl⟩
        obtain ⟨RB, hRB⟩ : ∃ l, k = l := ⟨_, rfl⟩
        replace ra : RdB w4 (.slice none 0 0) RA := by rw [← hRA]; exact ra
        replace rx : RdB w4 (.slice none 0 0) RA := by rw [← hRA]; exact rx
        replace rb : RdB w4 (.slice e1 k.length e2) RB := by rw [← hRB]; exact rb
        replace ry : RdB w4 (.slice e3 k.length e4) RB := by rw [← hRB]; exact ry
        clear hS4 hRA hRB
        obtain ⟨tx, tcx, hc4, hip4⟩ := hB4.cells
        have mk : ∀ W, Below w4.heap.size w4 W → (W.cell? ⟨g2, 2, none⟩ = some (.int .i64 S4.state) ∧ W.cell? ⟨g2, 4, none⟩ = some (.int .i64 S4.dest.kind) ∧ W.cell? ⟨g2, 5, none⟩ = some (.slice tx S4.dest.ip.length tcx) ∧ W.cell? ⟨g2, 6, none⟩ = some (.string S4.dest.name) ∧ W.cell? ⟨g2, 7, none⟩ = some (.int .i64 S4.dest.port) ∧ (convert 22 9 (.slice none 0 0)).run Try.prog W = .ok (.string (strOf RA)) W ∧ (convert 22 9 (.slice none 0 0)).run Try.prog W = .ok (.string (strOf RA)) W ∧ (convert 22 9 (.slice e1 k.length e2)).run Try.prog W = .ok (.string (strOf RB)) W ∧ (convert 22 9 (.slice e3 k.length e4)).run Try.prog W = .ok (.string (strOf RB)) W) := fun W hb =>
          ⟨cell_later hb hc4.1, cell_later hb hc4.2.1, cell_later hb hc4.2.2.1, cell_later hb hc4.2.2.2.1, cell_later hb hc4.2.2.2.2, str_conv (ra.mono hb), str_conv (rx.mono hb), str_conv (rb.mono hb), str_conv (ry.mono hb)⟩
        have hB5 := hB4.under (below_drew (w := w4))
        obtain ⟨L5, hso5⟩ := hB5.so
        have hSt := so_State hso5
        have hAd := so_Addr (by have := hF4.ip; omega) hso5
        have hbd := below_drew (w := w4)
        go_upto_region 16 with fail
        go_region_held3 (fun W => W.cell? ⟨g2, 2, none⟩ = some (.int .i64 S4.state) ∧ W.cell? ⟨g2, 4, none⟩ = some (.int .i64 S4.dest.kind) ∧ W.cell? ⟨g2, 5, none⟩ = some (.slice tx S4.dest.ip.length tcx) ∧ W.cell? ⟨g2, 6, none⟩ = some (.string S4.dest.name) ∧ W.cell? ⟨g2, 7, none⟩ = some (.int .i64 S4.dest.port) ∧ (convert 22 9 (.slice none 0 0)).run Try.prog W = .ok (.string (strOf RA)) W ∧ (convert 22 9 (.slice none 0 0)).run Try.prog W = .ok (.string (strOf RA)) W ∧ (convert 22 9 (.slice e1 k.length e2)).run Try.prog W = .ok (.string (strOf RB)) W ∧ (convert 22 9 (.slice e3 k.length e4)).run Try.prog W = .ok (.string (strOf RB)) W)
          (first | exact mk _ hb10' | exact mk _ hb9' | exact mk _ hbd)
          (first | (go_at_call 13; refine hSt.mono ?_; rintro _ _ ⟨rfl, rfl⟩) | (go_at_call 15; refine hAd.mono ?_; rintro _ w9 ⟨x9, y9, rfl, t6⟩; have hb9' := hbd.trans t6.below) | (go_at_call 14; have hN := ref_SameAddr S4.dest S4.dest x9 tx y9 tcx (OwnB.rd t6) (hip4.mono hb9'); rw [sameAd_self] at hN; refine hN.mono ?_; rintro _ w10 ⟨rfl, hb10⟩; have hb10' := hb9'.trans (hb10.mono hb9'.size)))
        all_goals
          have hB6 := hB4.under hb10'
          clear hSt hAd mk hc4 hip4
          go_wp2_with fail
          go_roundg (cl.length - (i + 1))
          case rel => exact ⟨i + 1, S4, by omega, by omega, by omega, by go_num, by rw [show 4500 * (i + 1) = sz + 4500 by have := HSZ.out; omega]; exact hF4, hB6⟩
          case measure => omega
      have hs5 : S.state = 5 := by have := hF.hi; omega
      have hB1 : Both w _ g1 g2 S := ⟨a1, b1, c1, d1, _, h2⟩
      obtain ⟨L3, h5⟩ := hB1.rs
      have hC1 := fun v => so_feed_shut (v := v) hs5 h2
      have hC2 := fun v => rs_feed_shut (v := v) hs5 h5
      clear h5 h2
      go_wp2_with fail
      refine (hC1 _).mono ?_
      rintro _ _ ⟨rfl, rfl⟩
      go_wp2_with fail
      refine (hC2 _).mono ?_
      rintro _ _ ⟨rfl, rfl⟩
      have hB4 := hB1
      obtain ⟨w4, hw4⟩ : ∃ W, wr.alloc (.cells #[.int .i64 ckind, .int .i64 ccode, .slice cp k.length ccap] 42 (0, 0)) = W := ⟨_, rfl⟩
      rw [hw4] at hB4 ⊢
      have ra := RdB.nil w4
      have rx := RdB.nil w4
      have rb := RdB.nil w4
      have ry := RdB.nil w4
      have hF4 := hF.more
      clear hC1 hC2 hB1 hw4
      obtain ⟨S4, hS4⟩ : ∃ S4, S = S4 := ⟨_, rfl⟩
      rw [hS4] at hB4 hF4
      obtain ⟨RA, hRA⟩ : ∃ l, ([] : List UInt8) = l := ⟨_, rfl⟩
      obtain ⟨RB, hRB⟩ : ∃ l, ([] : List UInt8) = l := ⟨_, rfl⟩
      replace ra : RdB w4 (.slice none 0 0) RA := by rw [← hRA]; exact ra
      replace rx : RdB w4 (.slice none 0 0) RA := by rw [← hRA]; exact rx
      replace rb : RdB w4 (.slice none 0 0) RB := by rw [← hRB]; exact rb
      replace ry : RdB w4 (.slice none 0 0) RB := by rw [← hRB]; exact ry
      clear hS4 hRA hRB
      obtain ⟨tx, tcx, hc4, hip4⟩ := hB4.cells
      have mk : ∀ W, Below w4.heap.size w4 W → (W.cell? ⟨g2, 2, none⟩ = some (.int .i64 S4.state) ∧ W.cell? ⟨g2, 4, none⟩ = some (.int .i64 S4.dest.kind) ∧ W.cell? ⟨g2, 5, none⟩ = some (.slice tx S4.dest.ip.length tcx) ∧ W.cell? ⟨g2, 6, none⟩ = some (.string S4.dest.name) ∧ W.cell? ⟨g2, 7, none⟩ = some (.int .i64 S4.dest.port) ∧ (convert 22 9 (.slice none 0 0)).run Try.prog W = .ok (.string (strOf RA)) W ∧ (convert 22 9 (.slice none 0 0)).run Try.prog W = .ok (.string (strOf RA)) W ∧ (convert 22 9 (.slice none 0 0)).run Try.prog W = .ok (.string (strOf RB)) W ∧ (convert 22 9 (.slice none 0 0)).run Try.prog W = .ok (.string (strOf RB)) W) := fun W hb =>
        ⟨cell_later hb hc4.1, cell_later hb hc4.2.1, cell_later hb hc4.2.2.1, cell_later hb hc4.2.2.2.1, cell_later hb hc4.2.2.2.2, str_conv (ra.mono hb), str_conv (rx.mono hb), str_conv (rb.mono hb), str_conv (ry.mono hb)⟩
      have hB5 := hB4.under (below_drew (w := w4))
      obtain ⟨L5, hso5⟩ := hB5.so
      have hSt := so_State hso5
      have hAd := so_Addr (by have := hF4.ip; omega) hso5
      have hbd := below_drew (w := w4)
      go_upto_region 16 with fail
      go_region_held3 (fun W => W.cell? ⟨g2, 2, none⟩ = some (.int .i64 S4.state) ∧ W.cell? ⟨g2, 4, none⟩ = some (.int .i64 S4.dest.kind) ∧ W.cell? ⟨g2, 5, none⟩ = some (.slice tx S4.dest.ip.length tcx) ∧ W.cell? ⟨g2, 6, none⟩ = some (.string S4.dest.name) ∧ W.cell? ⟨g2, 7, none⟩ = some (.int .i64 S4.dest.port) ∧ (convert 22 9 (.slice none 0 0)).run Try.prog W = .ok (.string (strOf RA)) W ∧ (convert 22 9 (.slice none 0 0)).run Try.prog W = .ok (.string (strOf RA)) W ∧ (convert 22 9 (.slice none 0 0)).run Try.prog W = .ok (.string (strOf RB)) W ∧ (convert 22 9 (.slice none 0 0)).run Try.prog W = .ok (.string (strOf RB)) W)
        (first | exact mk _ hb10' | exact mk _ hb9' | exact mk _ hbd)
        (first | (go_at_call 13; refine hSt.mono ?_; rintro _ _ ⟨rfl, rfl⟩) | (go_at_call 15; refine hAd.mono ?_; rintro _ w9 ⟨x9, y9, rfl, t6⟩; have hb9' := hbd.trans t6.below) | (go_at_call 14; have hN := ref_SameAddr S4.dest S4.dest x9 tx y9 tcx (OwnB.rd t6) (hip4.mono hb9'); rw [sameAd_self] at hN; refine hN.mono ?_; rintro _ w10 ⟨rfl, hb10⟩; have hb10' := hb9'.trans (hb10.mono hb9'.size)))
      all_goals
        have hB6 := hB4.under hb10'
        clear hSt hAd mk hc4 hip4
        go_wp2_with fail
        go_roundg (cl.length - (i + 1))
        case rel => exact ⟨i + 1, S4, by omega, by omega, by omega, by go_num, by rw [show 4500 * (i + 1) = sz + 4500 by have := HSZ.out; omega]; exact hF4, hB6⟩
        case measure => omega
    have hdk : (ckind == 0) = false := by rw [beq_eq_false_iff_ne]; exact hd
    by_cases hno : S.state ≠ 3 ∨ ccode < 0 ∨ 8 < ccode
    · skip
      have hB1 : Both w _ g1 g2 S := ⟨a1, b1, c1, d1, _, h2⟩
      obtain ⟨L3, h5⟩ := hB1.rs
      have hC1 := so_reply_no hno h2
      have hC2 := rs_reply_no hno h5
      clear h5 h2
      go_wp2_with fail
      refine hC1.mono ?_
      rintro _ _ ⟨rfl, rfl⟩
      go_wp2_with fail
      refine hC2.mono ?_
      rintro _ _ ⟨rfl, rfl⟩
      have hB4 := hB1
      obtain ⟨w4, hw4⟩ : ∃ W, wr.alloc (.cells #[.int .i64 ckind, .int .i64 ccode, .slice cp k.length ccap] 42 (0, 0)) = W := ⟨_, rfl⟩
      rw [hw4] at hB4 ⊢
      have ra := RdB.nil w4
      have rx := RdB.nil w4
      have rb := RdB.nil w4
      have ry := RdB.nil w4
      have hF4 := hF.more
      clear hC1 hC2 hB1 hw4 hno
      obtain ⟨S4, hS4⟩ : ∃ S4, S = S4 := ⟨_, rfl⟩
      rw [hS4] at hB4 hF4
      obtain ⟨RA, hRA⟩ : ∃ l, ([] : List UInt8) = l := ⟨_, rfl⟩
      obtain ⟨RB, hRB⟩ : ∃ l, ([] : List UInt8) = l := ⟨_, rfl⟩
      replace ra : RdB w4 (.slice none 0 0) RA := by rw [← hRA]; exact ra
      replace rx : RdB w4 (.slice none 0 0) RA := by rw [← hRA]; exact rx
      replace rb : RdB w4 (.slice none 0 0) RB := by rw [← hRB]; exact rb
      replace ry : RdB w4 (.slice none 0 0) RB := by rw [← hRB]; exact ry
      clear hS4 hRA hRB
      obtain ⟨tx, tcx, hc4, hip4⟩ := hB4.cells
      have mk : ∀ W, Below w4.heap.size w4 W → (W.cell? ⟨g2, 2, none⟩ = some (.int .i64 S4.state) ∧ W.cell? ⟨g2, 4, none⟩ = some (.int .i64 S4.dest.kind) ∧ W.cell? ⟨g2, 5, none⟩ = some (.slice tx S4.dest.ip.length tcx) ∧ W.cell? ⟨g2, 6, none⟩ = some (.string S4.dest.name) ∧ W.cell? ⟨g2, 7, none⟩ = some (.int .i64 S4.dest.port) ∧ (convert 22 9 (.slice none 0 0)).run Try.prog W = .ok (.string (strOf RA)) W ∧ (convert 22 9 (.slice none 0 0)).run Try.prog W = .ok (.string (strOf RA)) W ∧ (convert 22 9 (.slice none 0 0)).run Try.prog W = .ok (.string (strOf RB)) W ∧ (convert 22 9 (.slice none 0 0)).run Try.prog W = .ok (.string (strOf RB)) W) := fun W hb =>
        ⟨cell_later hb hc4.1, cell_later hb hc4.2.1, cell_later hb hc4.2.2.1, cell_later hb hc4.2.2.2.1, cell_later hb hc4.2.2.2.2, str_conv (ra.mono hb), str_conv (rx.mono hb), str_conv (rb.mono hb), str_conv (ry.mono hb)⟩
      have hB5 := hB4.under (below_drew (w := w4))
      obtain ⟨L5, hso5⟩ := hB5.so
      have hSt := so_State hso5
      have hAd := so_Addr (by have := hF4.ip; omega) hso5
      have hbd := below_drew (w := w4)
      go_upto_region 16 with fail
      go_region_held3 (fun W => W.cell? ⟨g2, 2, none⟩ = some (.int .i64 S4.state) ∧ W.cell? ⟨g2, 4, none⟩ = some (.int .i64 S4.dest.kind) ∧ W.cell? ⟨g2, 5, none⟩ = some (.slice tx S4.dest.ip.length tcx) ∧ W.cell? ⟨g2, 6, none⟩ = some (.string S4.dest.name) ∧ W.cell? ⟨g2, 7, none⟩ = some (.int .i64 S4.dest.port) ∧ (convert 22 9 (.slice none 0 0)).run Try.prog W = .ok (.string (strOf RA)) W ∧ (convert 22 9 (.slice none 0 0)).run Try.prog W = .ok (.string (strOf RA)) W ∧ (convert 22 9 (.slice none 0 0)).run Try.prog W = .ok (.string (strOf RB)) W ∧ (convert 22 9 (.slice none 0 0)).run Try.prog W = .ok (.string (strOf RB)) W)
        (first | exact mk _ hb10' | exact mk _ hb9' | exact mk _ hbd)
        (first | (go_at_call 13; refine hSt.mono ?_; rintro _ _ ⟨rfl, rfl⟩) | (go_at_call 15; refine hAd.mono ?_; rintro _ w9 ⟨x9, y9, rfl, t6⟩; have hb9' := hbd.trans t6.below) | (go_at_call 14; have hN := ref_SameAddr S4.dest S4.dest x9 tx y9 tcx (OwnB.rd t6) (hip4.mono hb9'); rw [sameAd_self] at hN; refine hN.mono ?_; rintro _ w10 ⟨rfl, hb10⟩; have hb10' := hb9'.trans (hb10.mono hb9'.size)))
      all_goals
        have hB6 := hB4.under hb10'
        clear hSt hAd mk hc4 hip4
        go_wp2_with fail
        go_roundg (cl.length - (i + 1))
        case rel => exact ⟨i + 1, S4, by omega, by omega, by omega, by go_num, by rw [show 4500 * (i + 1) = sz + 4500 by have := HSZ.out; omega]; exact hF4, hB6⟩
        case measure => omega
    have hs3 : S.state = 3 := by omega
    by_cases hc0 : ccode = 0
    · subst hc0
      have hC1 := so_reply_done hs3 h2
      clear h2
      go_wp2_with fail
      refine hC1.mono ?_
      rintro _ w3 ⟨e1, e2, f1, f2, rfl, h4⟩
      have bx1 : w3.cell? ⟨wr.heap.size, 1, none⟩ = some (.int .i64 0) := by
        obtain ⟨x1, x2, x3, x4, x5, x6, h⟩ := h4
        exact (Sat.front [_, _, _, _, _, _, _, _, _] h).cell 1 rfl
      obtain ⟨x1, x2, x3, x4, x5, x6, h5⟩ := SoS.toRs [_, _] h4
      have hC2 := rs_reply_done hs3 h5
      clear h4 h5 hC1
      go_wp2_with fail
      refine hC2.mono ?_
      rintro _ w4 ⟨e3, e4, f3, f4, rfl, h6⟩
      have rx := h6.rdb
      have ry := h6.drop.rdb
      have ra : RdB w4 (.slice e1 10 e2) (replyB 0) := by
        obtain ⟨y1, y2, y3, y4, h7⟩ := h6
        exact OwnB.rd (Sat.front [_, _, _, _, _, _, _, _, _] h7)
      have rb : RdB w4 (.slice f1 S.wait.length f2) S.wait := by
        obtain ⟨y1, y2, y3, y4, h7⟩ := h6
        exact OwnB.rd (Sat.front [_, _, _, _, _, _, _, _, _, _] h7)
      have hB4 : Both w w4 g1 g2 { S with state := 4, wait := [] } := by
        obtain ⟨y1, y2, y3, y4, h7⟩ := RsS.toSo [_, _] h6
        exact ⟨y1, y2, y3, y4, _, h7⟩
      have hF4 := hF.done
      clear h6 hC2 bx1
      obtain ⟨S4, hS4⟩ : ∃ S4, ({ S with state := 4, wait := [] } : SoM) = S4 := ⟨_, rfl⟩
      rw [hS4] at hB4 hF4
      obtain ⟨RA, hRA⟩ : ∃ l, replyB 0 = l := ⟨_, rfl⟩
      obtain ⟨RB, hRB⟩ : ∃ l, S.wait = l := ⟨_, rfl⟩
      replace ra : RdB w4 (.slice e1 10 e2) RA := by rw [← hRA]; exact ra
      replace rx : RdB w4 (.slice e3 10 e4) RA := by rw [← hRA]; exact rx
      replace rb : RdB w4 (.slice f1 S.wait.length f2) RB := by rw [← hRB]; exact rb
      replace ry : RdB w4 (.slice f3 S.wait.length f4) RB := by rw [← hRB]; exact ry
      clear hS4 hRA hRB
      obtain ⟨tx, tcx, hc4, hip4⟩ := hB4.cells
      have mk : ∀ W, Below w4.heap.size w4 W → (W.cell? ⟨g2, 2, none⟩ = some (.int .i64 S4.state) ∧ W.cell? ⟨g2, 4, none⟩ = some (.int .i64 S4.dest.kind) ∧ W.cell? ⟨g2, 5, none⟩ = some (.slice tx S4.dest.ip.length tcx) ∧ W.cell? ⟨g2, 6, none⟩ = some (.string S4.dest.name) ∧ W.cell? ⟨g2, 7, none⟩ = some (.int .i64 S4.dest.port) ∧ (convert 22 9 (.slice e1 10 e2)).run Try.prog W = .ok (.string (strOf RA)) W ∧ (convert 22 9 (.slice e3 10 e4)).run Try.prog W = .ok (.string (strOf RA)) W ∧ (convert 22 9 (.slice f1 S.wait.length f2)).run Try.prog W = .ok (.string (strOf RB)) W ∧ (convert 22 9 (.slice f3 S.wait.length f4)).run Try.prog W = .ok (.string (strOf RB)) W) := fun W hb =>
        ⟨cell_later hb hc4.1, cell_later hb hc4.2.1, cell_later hb hc4.2.2.1, cell_later hb hc4.2.2.2.1, cell_later hb hc4.2.2.2.2, str_conv (ra.mono hb), str_conv (rx.mono hb), str_conv (rb.mono hb), str_conv (ry.mono hb)⟩
      have hB5 := hB4.under (below_drew (w := w4))
      obtain ⟨L5, hso5⟩ := hB5.so
      have hSt := so_State hso5
      have hAd := so_Addr (by have := hF4.ip; omega) hso5
      have hbd := below_drew (w := w4)
      go_upto_region 16 with fail
      go_region_held3 (fun W => W.cell? ⟨g2, 2, none⟩ = some (.int .i64 S4.state) ∧ W.cell? ⟨g2, 4, none⟩ = some (.int .i64 S4.dest.kind) ∧ W.cell? ⟨g2, 5, none⟩ = some (.slice tx S4.dest.ip.length tcx) ∧ W.cell? ⟨g2, 6, none⟩ = some (.string S4.dest.name) ∧ W.cell? ⟨g2, 7, none⟩ = some (.int .i64 S4.dest.port) ∧ (convert 22 9 (.slice e1 10 e2)).run Try.prog W = .ok (.string (strOf RA)) W ∧ (convert 22 9 (.slice e3 10 e4)).run Try.prog W = .ok (.string (strOf RA)) W ∧ (convert 22 9 (.slice f1 S.wait.length f2)).run Try.prog W = .ok (.string (strOf RB)) W ∧ (convert 22 9 (.slice f3 S.wait.length f4)).run Try.prog W = .ok (.string (strOf RB)) W)
        (first | exact mk _ hb10' | exact mk _ hb9' | exact mk _ hbd)
        (first | (go_at_call 13; refine hSt.mono ?_; rintro _ _ ⟨rfl, rfl⟩) | (go_at_call 15; refine hAd.mono ?_; rintro _ w9 ⟨x9, y9, rfl, t6⟩; have hb9' := hbd.trans t6.below) | (go_at_call 14; have hN := ref_SameAddr S4.dest S4.dest x9 tx y9 tcx (OwnB.rd t6) (hip4.mono hb9'); rw [sameAd_self] at hN; refine hN.mono ?_; rintro _ w10 ⟨rfl, hb10⟩; have hb10' := hb9'.trans (hb10.mono hb9'.size)))
      all_goals
        have hB6 := hB4.under hb10'
        clear hSt hAd mk hc4 hip4
        go_wp2_with fail
        go_roundg (cl.length - (i + 1))
        case rel => exact ⟨i + 1, S4, by omega, by omega, by omega, by go_num, by rw [show 4500 * (i + 1) = sz + 4500 by have := HSZ.out; omega]; exact hF4, hB6⟩
        case measure => omega
    obtain ⟨n, hn⟩ := Int.eq_ofNat_of_zero_le (show 0 ≤ ccode by omega)
    have hC1 := so_reply_shut hn hs3 hc0 (by omega) (by omega) (by have := hF.back; omega) h2
    have HN := hid_ hn
    clear h2 hn
    go_wp2_with fail
    refine hC1.mono ?_
    rintro _ w3 ⟨e1, e2, rfl, h4⟩
    have bx1 : w3.cell? ⟨wr.heap.size, 1, none⟩ = some (.int .i64 ccode) := by
      obtain ⟨x1, x2, x3, x4, x5, x6, h⟩ := h4
      exact (Sat.front [_, _, _, _, _, _, _, _] h).cell 1 rfl
    obtain ⟨x1, x2, x3, x4, x5, x6, h5⟩ := SoS.toRs [_] h4
    have hC2 := rs_reply_shut HN.out hs3 hc0 (by omega) (by omega) h5
    clear h4 h5 hC1
    go_wp2_with fail
    refine hC2.mono ?_
    rintro _ w4 ⟨e3, e4, rfl, h6⟩
    have rx := h6.rdb
    have ra : RdB w4 (.slice e1 10 e2) (replyB n) := by
      obtain ⟨y1, y2, y3, y4, h7⟩ := h6
      exact OwnB.rd (Sat.front [_, _, _, _, _, _, _, _] h7)
    have rb := RdB.nil w4
    have ry := RdB.nil w4
    have hB4 : Both w w4 g1 g2 (S.close []) := by
      obtain ⟨y1, y2, y3, y4, h7⟩ := RsS.toSo [_] h6
      exact ⟨y1, y2, y3, y4, _, h7⟩
    have hF4 := hF.shut
    clear h6 hC2 bx1
    obtain ⟨S4, hS4⟩ : ∃ S4, S.close [] = S4 := ⟨_, rfl⟩
    rw [hS4] at hB4 hF4
    obtain ⟨RA, hRA⟩ : ∃ l, replyB n = l := ⟨_, rfl⟩
    obtain ⟨RB, hRB⟩ : ∃ l, ([] : List UInt8) = l := ⟨_, rfl⟩
    replace ra : RdB w4 (.slice e1 10 e2) RA := by rw [← hRA]; exact ra
    replace rx : RdB w4 (.slice e3 10 e4) RA := by rw [← hRA]; exact rx
    replace rb : RdB w4 (.slice none 0 0) RB := by rw [← hRB]; exact rb
    replace ry : RdB w4 (.slice none 0 0) RB := by rw [← hRB]; exact ry
    clear hS4 hRA hRB
    obtain ⟨tx, tcx, hc4, hip4⟩ := hB4.cells
    have mk : ∀ W, Below w4.heap.size w4 W → (W.cell? ⟨g2, 2, none⟩ = some (.int .i64 S4.state) ∧ W.cell? ⟨g2, 4, none⟩ = some (.int .i64 S4.dest.kind) ∧ W.cell? ⟨g2, 5, none⟩ = some (.slice tx S4.dest.ip.length tcx) ∧ W.cell? ⟨g2, 6, none⟩ = some (.string S4.dest.name) ∧ W.cell? ⟨g2, 7, none⟩ = some (.int .i64 S4.dest.port) ∧ (convert 22 9 (.slice e1 10 e2)).run Try.prog W = .ok (.string (strOf RA)) W ∧ (convert 22 9 (.slice e3 10 e4)).run Try.prog W = .ok (.string (strOf RA)) W ∧ (convert 22 9 (.slice none 0 0)).run Try.prog W = .ok (.string (strOf RB)) W ∧ (convert 22 9 (.slice none 0 0)).run Try.prog W = .ok (.string (strOf RB)) W) := fun W hb =>
      ⟨cell_later hb hc4.1, cell_later hb hc4.2.1, cell_later hb hc4.2.2.1, cell_later hb hc4.2.2.2.1, cell_later hb hc4.2.2.2.2, str_conv (ra.mono hb), str_conv (rx.mono hb), str_conv (rb.mono hb), str_conv (ry.mono hb)⟩
    have hB5 := hB4.under (below_drew (w := w4))
    obtain ⟨L5, hso5⟩ := hB5.so
    have hSt := so_State hso5
    have hAd := so_Addr (by have := hF4.ip; omega) hso5
    have hbd := below_drew (w := w4)
    go_upto_region 16 with fail
    go_region_held3 (fun W => W.cell? ⟨g2, 2, none⟩ = some (.int .i64 S4.state) ∧ W.cell? ⟨g2, 4, none⟩ = some (.int .i64 S4.dest.kind) ∧ W.cell? ⟨g2, 5, none⟩ = some (.slice tx S4.dest.ip.length tcx) ∧ W.cell? ⟨g2, 6, none⟩ = some (.string S4.dest.name) ∧ W.cell? ⟨g2, 7, none⟩ = some (.int .i64 S4.dest.port) ∧ (convert 22 9 (.slice e1 10 e2)).run Try.prog W = .ok (.string (strOf RA)) W ∧ (convert 22 9 (.slice e3 10 e4)).run Try.prog W = .ok (.string (strOf RA)) W ∧ (convert 22 9 (.slice none 0 0)).run Try.prog W = .ok (.string (strOf RB)) W ∧ (convert 22 9 (.slice none 0 0)).run Try.prog W = .ok (.string (strOf RB)) W)
      (first | exact mk _ hb10' | exact mk _ hb9' | exact mk _ hbd)
      (first | (go_at_call 13; refine hSt.mono ?_; rintro _ _ ⟨rfl, rfl⟩) | (go_at_call 15; refine hAd.mono ?_; rintro _ w9 ⟨x9, y9, rfl, t6⟩; have hb9' := hbd.trans t6.below) | (go_at_call 14; have hN := ref_SameAddr S4.dest S4.dest x9 tx y9 tcx (OwnB.rd t6) (hip4.mono hb9'); rw [sameAd_self] at hN; refine hN.mono ?_; rintro _ w10 ⟨rfl, hb10⟩; have hb10' := hb9'.trans (hb10.mono hb9'.size)))
    all_goals
      have hB6 := hB4.under hb10'
      clear hSt hAd mk hc4 hip4
      go_wp2_with fail
      go_roundg (cl.length - (i + 1))
      case rel => exact ⟨i + 1, S4, by omega, by omega, by omega, by go_num, by rw [show 4500 * (i + 1) = sz + 4500 by have := HSZ.out; omega]; exact hF4, hB6⟩
      case measure => omega
end Go.Proofs.Ythfdejgckcoohaa
