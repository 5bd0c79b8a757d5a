/- What one end has to send, handed to the other one: pass, walked. -/
import Derived.Test.YtinlemeogdnanaaStreamJ
import Derived.Test.YtinlemeogdnanaaStreamB
namespace Go.Proofs.Ytinlemeogdnanaa
open Go Go.RowKit
set_option linter.unusedVariables false
set_option linter.unusedSimpArgs false

structure PassS where
  fr : StM
  to : StM
  got : List UInt8
  e : Int
/-- What comes back. -/
def PassS.back (x : PassS) (g : FrM) : PassS := { x with fr := x.fr.got g, e := if x.fr.gotK g = 0 then x.e else 2 }
def PassS.fwd (x : PassS) (f : FrM) : PassS := { x with to := x.to.got f, got := x.got ++ x.to.gotD f, e := if x.to.gotK f = 1 then 1 else if x.to.gotK f = 2 then 2 else x.e }
def PassS.step (x : PassS) (f : FrM) : PassS := (x.to.gotL f).foldl PassS.back (x.fwd f)
def passM (fr to : StM) (got : List UInt8) : PassS := fr.nextL.foldl PassS.step ⟨fr.next, to, got, 0⟩

theorem foldl_take {α β : Type} (f : β → α → β) (b : β) (l : List α) (i : Nat) (a : α) (h : l[i]? = some a) : (l.take (i + 1)).foldl f b = f ((l.take i).foldl f b) a := by
  rw [List.take_add_one, h, List.foldl_append]
  rfl

theorem gotL_zero {s : StM} {f g : FrM} (h : g ∈ s.gotL f) : g.addr = AdM.zero := by
  unfold StM.gotL at h
  split at h
  · split at h
    · simp at h; subst h; rfl
    · split at h
      · simp at h; subst h; rfl
      · simp at h
  · simp at h
theorem nextL_zero {s : StM} {g : FrM} (h : g ∈ s.nextL) : g.addr = AdM.zero := by
  unfold StM.nextL at h
  split at h
  · simp at h
  · simp only [List.mem_append, List.mem_map] at h
    rcases h with ⟨p, _, rfl⟩ | h
    · rfl
    · split at h
      · simp at h; subst h; rfl
      · simp at h
theorem nextL_data {s : StM} {g : FrM} (h : g ∈ s.nextL) : g.data.length ≤ 1000 := by
  unfold StM.nextL at h
  split at h
  · simp at h
  · simp only [List.mem_append, List.mem_map] at h
    rcases h with ⟨p, hp, rfl⟩ | h
    · exact (chunk_all _ p hp).2
    · split at h
      · simp at h; subst h; simp [FrM.finF, FrM.of]
      · simp at h
theorem nextL_len {s : StM} (h : s.ok) : s.nextL.length ≤ 67 := by
  unfold StM.nextL
  split
  · simp
  · rw [List.length_append, List.length_map, chunk_length, List.length_take]
    have := h.2.2.2.2
    split <;> simp <;> omega
theorem gotD_len (s : StM) (f : FrM) : (s.gotD f).length ≤ f.data.length := by
  unfold StM.gotD; split <;> simp
theorem back_got (l : List FrM) (x : PassS) : (l.foldl PassS.back x).got = x.got := by
  induction l generalizing x with
  | nil => rfl
  | cons a l ih => rw [List.foldl_cons, ih]; rfl
theorem step_len (x : PassS) (f : FrM) (h : f.data.length ≤ 1000) : (x.step f).got.length ≤ x.got.length + 1000 := by
  unfold PassS.step
  rw [back_got]
  have := gotD_len x.to f
  simp [PassS.fwd]
  omega
theorem pass_len (l : List FrM) (x : PassS) (h : ∀ f ∈ l, f.data.length ≤ 1000) : (l.foldl PassS.step x).got.length ≤ x.got.length + 1000 * l.length := by
  induction l generalizing x with
  | nil => simp
  | cons a l ih =>
    rw [List.foldl_cons]
    have h1 := ih (x.step a) (fun f hf => h f (List.mem_cons_of_mem _ hf))
    have h2 := step_len x a (h a (List.mem_cons_self ..))
    simp only [List.length_cons]
    omega

section
variable {w0 w : World} {L : List Assn}
set_option maxRecDepth 100000 in
set_option maxHeartbeats 4000000 in
theorem stream_pass (gf gt gv k : Nat) (s t : StM) (cs : Array Value) (ty : TypeId) (vg : Value) (got : List UInt8) (hk : cs[k]? = some vg) (hgl : got.length ≤ 10000000)
    (hs : Sat w0 w (StA gf s :: StA gt t :: Blk gv (.cells cs ty (0, 0)) :: OwnB 5 vg got :: L)) :
    Calls Try.prog 20 #[.pointer (some ⟨gf, 0, none⟩), .pointer (some ⟨gt, 0, none⟩), .pointer (some ⟨gv, k, none⟩)] w fun e w' => e = .returned (.int .i64 (passM s t got).e) ∧
      ∃ vg', Sat w0 w' (StA gf (passM s t got).fr :: StA gt (passM s t got).to :: Blk gv (.cells (cs.setIfInBounds k vg') ty (0, 0)) :: OwnB 5 vg' (passM s t got).got :: L) := by
  have hok := StA.ok hs
  have hl := nextL_len hok
  obtain ⟨l, hll⟩ : ∃ l, s.nextL = l := ⟨_, rfl⟩
  have HL := hid_ hll
  have hz : ∀ f ∈ l, f.addr = AdM.zero ∧ f.data.length ≤ 1000 := fun f hf => by rw [← hll] at hf; exact ⟨nextL_zero hf, nextL_data hf⟩
  rw [show passM s t got = l.foldl PassS.step ⟨s.next, t, got, 0⟩ by unfold passM; rw [hll]]
  rw [hll] at hl
  obtain ⟨m, hm⟩ : ∃ m, l.length = m := ⟨_, rfl⟩
  have HM := hid_ hm
  rw [hm] at hl
  have hks : k < cs.size := (Array.getElem?_eq_some_iff.1 hk).1
  have hset : ∀ v, (cs.setIfInBounds k v)[k]? = some v := fun v => by simp [hks]
  have hset2 : ∀ u v, (cs.setIfInBounds k u).setIfInBounds k v = cs.setIfInBounds k v := fun u v => by simp
  have hcs : cs.setIfInBounds k vg = cs := by
    apply Array.ext_getElem?
    intro j
    rw [Array.getElem?_setIfInBounds]
    split
    · rename_i h; rw [← h, hk]
    · rfl
  have hpl := fun i => pass_len (l.take i) ⟨s.next, t, got, 0⟩ (fun f hf => (hz f (List.mem_of_mem_take hf)).2)
  clear hll hm
  obtain ⟨i0, hi0, hz0, hz1, hz2⟩ := info_u8
  go_enter Try.func20, Try.ntmps20
  go_wp2_with fail
  refine (stream_Next gf s hs).mono ?_
  rintro _ w1 ⟨vl, rfl, h1⟩
  rw [HL.out] at h1
  clear hs
  obtain ⟨al, cl, rfl, hcl1, hcl2⟩ := OwnL.form h1
  rw [HM.out] at h1 hcl1 ⊢
  go_wp2_with fail
  go_loopw [7, 21] (fun ve vi wr => ∃ (i : Nat) (x : PassS) (vg' : Value), i ≤ m ∧ vi = .int .i64 i ∧ ve = .int .i64 x.e ∧ Hid (x = (l.take i).foldl PassS.step ⟨s.next, t, got, 0⟩) ∧
    Sat w0 wr (FramesA (.slice al m cl) l :: StA gf x.fr :: StA gt x.to :: Blk gv (.cells (cs.setIfInBounds k vg') ty (0, 0)) :: OwnB 5 vg' x.got :: L)) (fun _ vi _ => m - (intOf vi).toNat)
  case atStart =>
    refine ⟨0, ⟨s.next, t, got, 0⟩, vg, by omega, rfl, rfl, hid_ rfl, ?_⟩
    rw [hcs]
    exact h1
  case round =>
    obtain ⟨i, x, vg', hi, rfl, rfl, hx, hs4⟩ := hrel
    clear h1
    by_cases hlt : i < m
    · obtain ⟨f, hf⟩ : ∃ f, l[i]? = some f := ⟨_, List.getElem?_eq_getElem (by rw [HM.out]; exact hlt)⟩
      have hfz := hid_ (hz f (List.mem_of_getElem? hf))
      obtain ⟨b2, off, ip, d, rfl, hrd⟩ := FramesA.at2 hs4 hf
      obtain ⟨ai, ci, rfl, _, _, _⟩ := hrd.ip.form
      obtain ⟨ad0, cd0, rfl, _, _, _⟩ := hrd.data.form
      obtain ⟨q0, q1, q2, q3, q4, q5, q6, q7, q8⟩ := hrd.nine
      have HF := hid_ hf
      clear hf
      go_wp2_with fail
      have h5 := hs4.alloc_ (.cells #[.int .i64 f.kind, .int .i64 f.stream, .int .i64 f.code, .int .i64 f.n, .int .i64 f.addr.kind, .slice ai f.addr.ip.length ci, .string f.addr.name, .int .i64 f.addr.port, .slice ad0 f.data.length cd0] 32 (0, 0))
      refine (stream_GotV f rfl (hrd.ip.mono ((Below.refl _ _).alloc (Nat.le_refl _) _)) (hrd.data.mono ((Below.refl _ _).alloc (Nat.le_refl _) _)) (by rw [hfz.out.1]; decide) (Sat.front [_, _] h5)).mono ?_
      rintro _ w2 ⟨vd, vf, rfl, h6⟩
      obtain ⟨bk, hbk⟩ : ∃ bk, x.to.gotL f = bk := ⟨_, rfl⟩
      have hbz : ∀ g ∈ bk, g.addr = AdM.zero := fun g hg => gotL_zero (by rw [hbk]; exact hg)
      rw [hbk] at h6
      obtain ⟨av, cv, rfl, _, _⟩ := OwnL.form (Sat.front [_] h6)
      have HB := hid_ hbk
      clear hbk h5
      obtain ⟨ad, cd, rfl, _, _, _⟩ := (OwnB.rd h6).form
      obtain ⟨a7, c7, rfl, _, _, _⟩ := (OwnB.rd (Sat.front [_, _, _, _, _, _] h6)).form
      have hg3 : w2.cell? ⟨gv, k, none⟩ = some (.slice a7 x.got.length c7) := (Sat.front [_, _, _, _, _] h6).cell k (hset _)
      have hf3 := (Sat.front [_, _, _, _, _] h6).frozen k
      have hgd := Nat.le_trans (gotD_len x.to f) hfz.out.2
      have hgl' := hpl i
      rw [← hx.out, List.length_take] at hgl'
      have hgl2 : x.got.length ≤ 10067000 := by
        have : min i l.length ≤ 67 := by rw [HM.out]; omega
        omega
      go_wp2_with (at_builtin; refine wpList_append_sat (w0 := w0) (e := 5) (sz := 1) rfl _ _ 22 22 rfl Try.underlying22 hi0 hz0 hz1 hz2 rfl rfl (Sat.front [_, _, _, _, _, _] h6) rfl (RdB.src (l := x.to.gotD f) Try.underlying22 (OwnB.rd h6)) ?c3 ?c4 ?c5)
      case c3 => simp only [maxLen]; omega
      case c4 => omega
      intro a' c' w3 h8 _
      simp only [← bytesC_append, ← List.length_append] at h8 ⊢
      obtain ⟨G, hG⟩ : ∃ G, x.got ++ x.to.gotD f = G := ⟨_, rfl⟩
      have HG := hid_ (show (x.fwd f).got = G from hG)
      rw [hG] at h8 ⊢
      clear hG
      have h9 : Sat w0 w3 (Blk gv (.cells (cs.setIfInBounds k (.slice a7 x.got.length c7)) ty (0, 0)) :: OwnB 5 (.slice a' G.length c') G :: OwnB 5 (.slice ad (x.to.gotD f).length cd) (x.to.gotD f) :: FramesA (.slice av bk.length cv) bk :: StA gt (x.to.got f) :: FramesA (.slice (some ⟨b2, off, none⟩) m cl) l :: StA gf x.fr :: L) := Sat.front [_, _, _, _, _, _] h8
      have hg4 : w3.cell? ⟨gv, k, none⟩ = some (.slice a7 x.got.length c7) := h9.cell k (hset _)
      have hf4 := h9.frozen k
      have h10 := h9.set k (.slice a' G.length c')
      rw [hset2] at h10
      have h11 := Sat.re [2, 4, 5, 3, 0, 1] [_, _, _, _, _, _] (Sat.re [2, 0, 1, 3, 4, 5, 6] [_, _, _, _, _, _, _] h10).drop
      clear hg3 hf3 h8 h9 h10 h6
      have hbr : ∀ y : PassS, y = x.step f ↔ y = bk.foldl PassS.back (x.fwd f) := fun y => by unfold PassS.step; rw [HB.out]
      obtain ⟨nb, hnb⟩ : ∃ nb, bk.length = nb := ⟨_, rfl⟩
      have hnb1 : nb ≤ 1 := by
        rw [← hnb, ← HB.out]
        unfold StM.gotL
        split
        · split
          · simp
          · split <;> simp
        · simp
      rw [hnb] at h11 ⊢
      have HNB := hid_ hnb
      obtain ⟨K, hK⟩ : ∃ K, x.to.gotK f = K := ⟨_, rfl⟩
      obtain ⟨E, hE⟩ : ∃ E, (x.fwd f).e = E := ⟨_, rfl⟩
      have hE2 : E = if K = 1 then 1 else if K = 2 then 2 else x.e := by rw [← hE, ← hK]; rfl
      have HE := hid_ hE
      rw [hK]
      clear hnb hK hE
      have hK3 : K = 1 ∧ E = 1 ∨ K = 2 ∧ E = 2 ∨ ((K == 1) = false ∧ (K == 2) = false ∧ E = x.e) := by
        by_cases k1 : K = 1
        · exact .inl ⟨k1, by rw [hE2, if_pos k1]⟩
        · by_cases k2 : K = 2
          · exact .inr (.inl ⟨k2, by rw [hE2, if_neg k1, if_pos k2]⟩)
          · exact .inr (.inr ⟨by simp [k1], by simp [k2], by rw [hE2, if_neg k1, if_neg k2]⟩)
      clear hE2
      rcases hK3 with ⟨rfl, rfl⟩ | ⟨rfl, rfl⟩ | ⟨k1, k2, rfl⟩
      all_goals
        go_wp2_with fail
        go_loopw [7, 45] (fun ve vj wq => ∃ (j : Nat) (y : PassS), j ≤ nb ∧ vj = .int .i64 j ∧ ve = .int .i64 y.e ∧ Hid (y = (bk.take j).foldl PassS.back (x.fwd f)) ∧
          Sat w0 wq (FramesA (.slice av nb cv) bk :: FramesA (.slice (some ⟨b2, off, none⟩) m cl) l :: StA gf y.fr :: StA gt y.to :: Blk gv (.cells (cs.setIfInBounds k (.slice a' G.length c')) ty (0, 0)) :: OwnB 5 (.slice a' G.length c') y.got :: L)) (fun _ vj _ => nb - (intOf vj).toNat)
        case atStart => exact ⟨0, x.fwd f, by omega, rfl, by rw [HE.out], hid_ rfl, by rw [HG.out]; exact h11⟩
        case round =>
          obtain ⟨j, y, hj, rfl, rfl, hy, hs5⟩ := hrel
          by_cases hjt : j < nb
          · obtain ⟨h, hh⟩ : ∃ h, bk[j]? = some h := ⟨_, List.getElem?_eq_getElem (by rw [HNB.out]; exact hjt)⟩
            have hhz := hid_ (hbz h (List.mem_of_getElem? hh))
            obtain ⟨b3, off3, ip3, d3, rfl, hrd3⟩ := FramesA.at2 hs5 hh
            obtain ⟨ai3, ci3, rfl, _, _, _⟩ := hrd3.ip.form
            obtain ⟨ad3, cd3, rfl, _, _, _⟩ := hrd3.data.form
            obtain ⟨r0, r1, r2, r3, r4, r5, r6, r7, r8⟩ := hrd3.nine
            have HH := hid_ hh
            clear hh
            go_wp2_with fail
            have h12 := hs5.alloc_ (.cells #[.int .i64 h.kind, .int .i64 h.stream, .int .i64 h.code, .int .i64 h.n, .int .i64 h.addr.kind, .slice ai3 h.addr.ip.length ci3, .string h.addr.name, .int .i64 h.addr.port, .slice ad3 h.data.length cd3] 32 (0, 0))
            refine (stream_GotV h rfl (hrd3.ip.mono ((Below.refl _ _).alloc (Nat.le_refl _) _)) (hrd3.data.mono ((Below.refl _ _).alloc (Nat.le_refl _) _)) (by rw [hhz.out]; decide) (Sat.front [_, _] h12)).mono ?_
            rintro _ w6 ⟨vd6, vf6, rfl, h13⟩
            have h14 := Sat.re [1, 2, 0] [_, _, _] h13.drop.drop
            have hstep := foldl_take PassS.back (x.fwd f) bk j h HH.out
            rw [← hy.out] at hstep
            have HST := hid_ hstep
            clear hstep h12 h13 hs5
            obtain ⟨K6, hK6⟩ : ∃ K6, y.fr.gotK h = K6 := ⟨_, rfl⟩
            have HK6 := hid_ hK6
            rw [hK6]
            clear hK6
            by_cases k6 : K6 = 0
            · have hE6 := hid_ (show (y.back h).e = y.e by unfold PassS.back; rw [HK6.out, k6]; rfl)
              subst k6
              go_wp2_with fail
              go_roundw
              case rel => exact ⟨j + 1, y.back h, by omega, by go_num, by rw [hE6.out], hid_ HST.out.symm, h14⟩
              case measure => simp [intOf]; omega
            · have hE6 := hid_ (show (y.back h).e = 2 by unfold PassS.back; rw [HK6.out]; simp [k6])
              have k6' : (K6 != 0) = true := by simp [k6]
              clear k6
              go_wp2_with fail
              go_roundw
              case rel => exact ⟨j + 1, y.back h, by omega, by go_num, by rw [hE6.out], hid_ HST.out.symm, h14⟩
              case measure => simp [intOf]; omega
          · obtain rfl : j = nb := by omega
            have hy2 : y = x.step f := by rw [hbr, hy.out, ← HNB.out, List.take_length]
            have hstep := foldl_take PassS.step ⟨s.next, t, got, 0⟩ l i f HF.out
            rw [← hx.out, ← hy2] at hstep
            have HST := hid_ hstep
            clear hy2 hstep
            go_wp2_with fail
            go_roundw
            case rel => exact ⟨i + 1, y, _, by omega, by go_num, rfl, hid_ HST.out.symm, hs5.drop⟩
            case measure => simp [intOf]; omega
    · obtain rfl : i = m := by omega
      rw [show l.take i = l by rw [← HM.out, List.take_length]] at hx
      go_wp2_with fail
      go_ret
      rw [← hx.out]
      exact ⟨rfl, vg', hs4.drop⟩
end
end Go.Proofs.Ytinlemeogdnanaa
