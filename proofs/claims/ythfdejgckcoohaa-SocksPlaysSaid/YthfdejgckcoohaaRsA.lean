/- The document's Socks: join, close, took; walked. -/
import Derived.Test.YthfdejgckcoohaaRefDa
import Derived.Test.YthfdejgckcoohaaSoQ
namespace Go.Proofs.Ythfdejgckcoohaa
open Go Go.RowKit
set_option linter.unusedVariables false
set_option linter.unusedSimpArgs false

def rsO (s : SoM) (wv tv : Value) : Obj := .cells #[.string s.user, .string s.pass, .int .i64 s.state, wv, .int .i64 s.dest.kind, tv, .string s.dest.name, .int .i64 s.dest.port] 45 (0, 0)
def RsS (w0 w : World) (L : List Assn) (g : Nat) (s : SoM) : Prop :=
  ∃ wa wc ta tc, Sat w0 w (Blk g (rsO s (.slice wa s.wait.length wc) (.slice ta s.dest.ip.length tc)) :: OwnB 5 (.slice wa s.wait.length wc) s.wait :: OwnB 5 (.slice ta s.dest.ip.length tc) s.dest.ip :: L)
section
variable {w0 w w' : World} {L M : List Assn} {A : Assn} {g : Nat} {s : SoM}
theorem RsS.add (h : RsS w0 w L g s) (h' : Sat w w' M) : RsS w0 w' (M ++ L) g s := by
  obtain ⟨wa, wc, ta, tc, h1⟩ := h
  refine ⟨wa, wc, ta, tc, ?_⟩
  have h2 := h1.trans h'
  refine Sat.perm ?_ h2
  show (M ++ ([_, _, _] ++ L)).Perm ([_, _, _] ++ (M ++ L))
  rw [← List.append_assoc, ← List.append_assoc]
  exact List.Perm.append_right L List.perm_append_comm
theorem RsS.under (h : RsS w0 w L g s) (hb : Below w.heap.size w w') : RsS w0 w' L g s := h.add (M := []) ⟨hb, trivial⟩
theorem RsS.drop (h : RsS w0 w (A :: L) g s) : RsS w0 w L g s := by
  obtain ⟨wa, wc, ta, tc, h1⟩ := h
  exact ⟨wa, wc, ta, tc, (Sat.front [_, _, _] h1).drop⟩
theorem RsS.drewN (h : RsS w0 w L g s) (n : Nat) : RsS w0 (w.drewN n) L g s := by
  obtain ⟨wa, wc, ta, tc, h1⟩ := h
  exact ⟨wa, wc, ta, tc, h1.drewN n⟩
theorem RsS.nilI (h : RsS w0 w L g s) : RsS w0 w (OwnB 5 (.slice none 0 0) [] :: L) g s := by
  obtain ⟨wa, wc, ta, tc, h1⟩ := h
  exact ⟨wa, wc, ta, tc, Sat.re [1, 2, 3, 0] [_, _, _, _] (OwnB.nilI (t := 5) h1)⟩
theorem RsS.rest (h : RsS w0 w L g s) : Sat w0 w L := by
  obtain ⟨wa, wc, ta, tc, h1⟩ := h
  exact h1.drop.drop.drop
theorem RsS.swap2 {B : Assn} (h : RsS w0 w (A :: B :: L) g s) : RsS w0 w (B :: A :: L) g s := by
  obtain ⟨wa, wc, ta, tc, h1⟩ := h
  exact ⟨wa, wc, ta, tc, Sat.re [0, 1, 2, 4, 3] [_, _, _, _, _] h1⟩
theorem RsS.rdb {t : TypeId} {v : Value} {l : List UInt8} (h : RsS w0 w (OwnB t v l :: L) g s) : RdB w v l := by
  obtain ⟨wa, wc, ta, tc, h⟩ := h
  exact OwnB.rd (Sat.front [_, _, _] h)
theorem RsS.app {t : TypeId} {v : Value} {l : List UInt8} (h : RsS w0 w (OwnB t v l :: L) g s) : ∃ M, Sat w0 w (OwnB t v l :: M) ∧ ∀ v' l' W, Sat w0 W (OwnB t v' l' :: M) → RsS w0 W (OwnB t v' l' :: L) g s := by
  obtain ⟨wa, wc, ta, tc, h⟩ := h
  exact ⟨_, Sat.front [_, _, _] h, fun v' l' W hW => ⟨wa, wc, ta, tc, Sat.back [_, _, _] hW⟩⟩

theorem rs_New (u p : ByteArray) (hs : Sat w0 w L) :
    Calls Try.prog 16 #[.string u, .string p] w fun e w' => ∃ g, e = .returned (.pointer (some ⟨g, 0, none⟩)) ∧ RsS w0 w' L g (SoM.fresh u p) := by
  have h1 := hs.alloc (rsO (SoM.fresh u p) (.slice none 0 0) (.slice none 0 0))
  have h2 : RsS w0 _ L _ (SoM.fresh u p) := ⟨none, 0, none, 0, Sat.re [2, 0, 1] [_, _, _] (OwnB.nilI (t := 5) (OwnB.nilI (t := 5) h1))⟩
  clear h1
  go_enter Try.func16, Try.ntmps16
  go_wp2_with fail
  go_ret
  exact ⟨_, rfl, h2⟩
set_option maxRecDepth 100000 in
set_option maxHeartbeats 1000000 in
theorem rs_join {nb : Nat} {v1 v2 : Value} {l1 l2 : List UInt8} (hl : l1.length + l2.length ≤ 1000000) (hs : Sat w0 w (Blk nb (.cells #[v1, v2] 22 (0, 0)) :: L)) (h1 : Vw w0 L v1 l1) (h2 : Vw w0 L v2 l2) :
    Calls Try.prog 40 #[.slice (some ⟨nb, 0, none⟩) 2 2] w fun e w' => ∃ a c, e = .returned (.slice a (l1.length + l2.length) c) ∧ Sat w0 w' (OwnB 5 (.slice a (l1.length + l2.length) c) (l1 ++ l2) :: L) := by
  have hst := Sat.swap (OwnB.nilI (t := 5) hs)
  go_enter Try.func40, Try.ntmps40
  go_wp2_with fail
  go_loopw [3, 8] (fun v3 vi wr => ∃ (i : Nat) (acc : List UInt8), vi = .int .i64 i ∧ (i = 0 ∧ acc = [] ∨ i = 1 ∧ acc = l1 ∨ i = 2 ∧ acc = l1 ++ l2) ∧ Sat w0 wr (OwnB 5 v3 acc :: Blk nb (.cells #[v1, v2] 22 (0, 0)) :: L)) (fun _ vi _ => 2 - (intOf vi).toNat)
  case atStart => exact ⟨0, [], rfl, .inl ⟨rfl, rfl⟩, hst.swap⟩
  case round =>
    obtain ⟨i, acc, rfl, hc, h3⟩ := hrel
    have q0 : wr.cell? ⟨nb, 0, none⟩ = some v1 := h3.drop.cell 0 rfl
    have q1 : wr.cell? ⟨nb, 1, none⟩ = some v2 := h3.drop.cell 1 rfl
    rcases hc with ⟨rfl, rfl⟩ | ⟨rfl, rfl⟩ | ⟨rfl, rfl⟩
    · have hr := h1 wr [_, _] h3
      go_wp2_with (at_builtin; refine wpList_append_b (w0 := w0) rfl _ _ 22 rfl rfl h3 rfl (slSrc hr) l1 l1.length rfl rfl (by omega) ?_)
      intro a' c' w4 h4
      go_wp2_with fail
      go_roundw
      case rel => exact ⟨1, l1, rfl, .inr (.inl ⟨rfl, rfl⟩), h4⟩
      case measure => simp [intOf]
    · have hr := h2 wr [_, _] h3
      go_wp2_with (at_builtin; refine wpList_append_b (w0 := w0) rfl _ _ 22 rfl rfl h3 rfl (slSrc hr) (acc ++ l2) (acc.length + l2.length) rfl (by simp) (by omega) ?_)
      intro a' c' w4 h4
      go_wp2_with fail
      go_roundw
      case rel => exact ⟨2, acc ++ l2, rfl, .inr (.inr ⟨rfl, rfl⟩), h4⟩
      case measure => simp [intOf]
    · obtain ⟨a', c', hf, -⟩ := OwnB.slice h3
      rw [List.length_append] at hf
      subst hf
      go_wp2_with fail
      go_ret
      exact ⟨a', c', rfl, h3.swap.drop⟩
theorem rs_Join {nb : Nat} {v1 v2 : Value} {l1 l2 : List UInt8} (hl : l1.length + l2.length ≤ 1000000) (hs : Sat w0 w (Blk nb (.cells #[v1, v2] 22 (0, 0)) :: L)) (h1 : Vw w0 L v1 l1) (h2 : Vw w0 L v2 l2) :
    Calls Try.prog 26 #[.slice (some ⟨nb, 0, none⟩) 2 2] w fun e w' => ∃ a c, e = .returned (.slice a (l1.length + l2.length) c) ∧ Sat w0 w' (OwnB 5 (.slice a (l1.length + l2.length) c) (l1 ++ l2) :: L) := by
  have H := rs_join hl hs h1 h2
  go_enter Try.func26, Try.ntmps26
  go_wp2_with fail
  refine H.mono ?_
  rintro _ w1 ⟨a, c, rfl, h3⟩
  go_wp2_with fail
  go_ret
  exact ⟨a, c, rfl, h3⟩
set_option maxRecDepth 100000 in
set_option maxHeartbeats 1000000 in
theorem rs_close {v : Value} (hs : RsS w0 w L g s) :
    Calls Try.prog 30 #[.pointer (some ⟨g, 0, none⟩), v] w fun e w' => e = .returned v ∧ ∀ k, RsS w0 w' L g (s.close k) := by
  obtain ⟨wa, wc, ta, tc, h2⟩ := hs
  unfold rsO at h2
  have x2 : w.cell? ⟨g, 2, none⟩ = some (.int .i64 s.state) := h2.cell 2 rfl
  have x3 : w.cell? ⟨g, 3, none⟩ = some (.slice wa s.wait.length wc) := h2.cell 3 rfl
  have x4 : w.cell? ⟨g, 4, none⟩ = some (.int .i64 s.dest.kind) := h2.cell 4 rfl
  have x5 : w.cell? ⟨g, 5, none⟩ = some (.slice ta s.dest.ip.length tc) := h2.cell 5 rfl
  have x6 : w.cell? ⟨g, 6, none⟩ = some (.string s.dest.name) := h2.cell 6 rfl
  have x7 : w.cell? ⟨g, 7, none⟩ = some (.int .i64 s.dest.port) := h2.cell 7 rfl
  obtain ⟨f2, f3, f4, f5, f6, f7⟩ := (⟨h2.frozen 2, h2.frozen 3, h2.frozen 4, h2.frozen 5, h2.frozen 6, h2.frozen 7⟩ : _ ∧ _ ∧ _ ∧ _ ∧ _ ∧ _)
  have h3 := (((((h2.set 2 (.int .i64 5)).set 3 (.slice none 0 0)).set 4 (.int .i64 0)).set 5 (.slice none 0 0)).set 6 (.string ⟨#[]⟩)).set 7 (.int .i64 0)
  simp only [List.setIfInBounds_toArray, List.set_cons_zero, List.set_cons_succ] at h3
  clear h2
  go_enter Try.func30, Try.ntmps30
  go_wp2_with fail
  go_ret
  refine ⟨rfl, fun k => ⟨none, 0, none, 0, ?_⟩⟩
  have h5 := (Sat.front [_] (Sat.front [_, _] h3).drop).drop
  exact Sat.re [2, 0, 1] [_, _, _] (OwnB.nilI (t := 5) (OwnB.nilI (t := 5) h5))
set_option maxRecDepth 100000 in
set_option maxHeartbeats 1000000 in
theorem rs_took {n : Nat} {ni st : Int} (hni : ni = (n : Int)) (hn : n ≤ s.wait.length) (hw : 0 < s.wait.length) (hl : s.wait.length ≤ 1000000) (hs : RsS w0 w L g s) :
    Calls Try.prog 41 #[.pointer (some ⟨g, 0, none⟩), .int .i64 ni, .int .i64 st] w fun e w' => e = .returned (.tuple #[]) ∧ ∀ k, RsS w0 w' L g (s.goes st n k) := by
  subst hni
  obtain ⟨wa, wc, ta, tc, h2⟩ := hs
  unfold rsO at h2
  have hr := OwnB.rd (Sat.front [_] h2)
  obtain ⟨b, o, c, he, hlc, hcm, -⟩ := hr.at0 hw
  injection he with he e10 he'
  clear e10
  subst he he'
  have x3 : w.cell? ⟨g, 3, none⟩ = some (.slice (some ⟨b, o, none⟩) s.wait.length wc) := h2.cell 3 rfl
  obtain ⟨V, hV, hR⟩ := slc_from (b := b) (o := o) (n := n) (ni := (n : Int)) rfl hn hlc hcm
  have hrv := hR w _ rfl hr
  clear hr hR
  have h3 := OwnB.nilI (t := 5) h2
  go_enter Try.func41, Try.ntmps41
  go_wp2_with (at_builtin; refine wpList_append_b (w0 := w0) rfl _ _ 22 rfl rfl h3 rfl (slSrc hrv) (s.wait.drop n) (s.wait.length - n) rfl List.length_drop (by omega) ?_)
  intro a' c' w4 h4
  have h5 := Sat.front [_] h4
  have y3 : w4.cell? ⟨g, 3, none⟩ = some (.slice (some ⟨b, o, none⟩) s.wait.length wc) := h5.cell 3 rfl
  have y2 : w4.cell? ⟨g, 2, none⟩ = some (.int .i64 s.state) := h5.cell 2 rfl
  have f2 := h5.frozen 2
  have f3 := h5.frozen 3
  have h6 := (h5.set 3 (.slice a' (s.wait.length - n : Nat) c')).set 2 (.int .i64 st)
  simp only [List.setIfInBounds_toArray, List.set_cons_zero, List.set_cons_succ] at h6
  have h7 : ∀ k, RsS w0 ((w4.setCell ⟨g, 3, none⟩ (.slice a' (s.wait.length - n : Nat) c')).setCell ⟨g, 2, none⟩ (.int .i64 st)) L g (s.goes st n k) := by
    intro k
    refine ⟨a', c', ta, tc, ?_⟩
    show Sat w0 _ (Blk g (rsO (s.goes st n k) (.slice a' (s.wait.drop n).length c') (.slice ta s.dest.ip.length tc)) :: OwnB 5 (.slice a' (s.wait.drop n).length c') (s.wait.drop n) :: OwnB 5 (.slice ta s.dest.ip.length tc) s.dest.ip :: L)
    rw [List.length_drop]
    exact Sat.drop (Sat.re [2, 0, 1, 3] [_, _, _, _] h6)
  clear h2 h3 h4 h5 h6 hV hrv x3
  go_wp2_with fail
  refine bodyPost_end (v := .tuple #[]) (by simp [results, Try.results41, go_sem]) rfl ?_
  exact ⟨rfl, h7⟩
end
end Go.Proofs.Ythfdejgckcoohaa
