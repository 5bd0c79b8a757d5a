/- frame.Decode, walked. -/
import Derived.Deep.DeepMust
import Derived.Test.YtkejadhkebjdcaaFrD
namespace Go.Proofs.Ytkejadhkebjdcaa
open Go Go.RowKit
set_option linter.unusedVariables false
set_option linter.unusedSimpArgs false

theorem finfo9 : ∃ i, Try.prog.info? 43 = some i ∧ i.zero = some (.agg #[.int .i64 0, .int .i64 0, .int .i64 0, .int .i64 0, .int .i64 0, .slice none 0 0, .string ByteArray.empty, .int .i64 0, .slice none 0 0]) ∧ i.size = 9 ∧ i.bytes = 112 := info_at (by kernel_rfl)
/-- What Decode answers. -/
def DecFOk (w0 : World) (L : List Assn) (x : Int × List FrM) (e : Ending) (w' : World) : Prop :=
  ∃ a c, e = .returned (.tuple #[.slice a x.2.length c, .int .i64 x.1]) ∧ Sat w0 w' (FramesA (.slice a x.2.length c) x.2 :: L)

section
variable {w0 w : World} {L : List Assn}
set_option maxRecDepth 100000 in
set_option maxHeartbeats 2000000 in
theorem frame_Decode {v : Value} {b : List UInt8} (hb : b.length ≤ 1000000) (hs : Sat w0 w L) (hv : Vw w0 L v b) :
    Calls Try.prog 40 #[v] w (DecFOk w0 L (decF b)) := by
  obtain ⟨a0, c0, rfl, -, -, -⟩ := (hv w [] hs).form
  obtain ⟨v, hve⟩ : ∃ v, Value.slice a0 b.length c0 = v := ⟨_, rfl⟩
  have hv2 := hv
  rw [hve] at hv2
  have hg := hs.alloc (.cells #[.slice a0 b.length c0, .bool false] 96 (0, 0))
  obtain ⟨i0, hi, hz0, hz1, hz2⟩ := finfo9
  obtain ⟨g, hgg⟩ : ∃ g, w.heap.size = g := ⟨_, rfl⟩
  have HG := hid_ hgg
  rw [hgg] at hg
  clear hgg
  rw [hve] at hg
  have HV := hid_ hve
  clear hve hv
  go_enter Try.func40, Try.ntmps40
  go_wp2_with fail
  go_step3
  go_wp2_with fail
  go_step3
  rw [HG.out, HV.out]
  go_wp2_with fail
  go_loopg [5] (b.length) (fun k v5 wr => ∃ (done : List FrM) (rest : List UInt8) (v' : Value), Hid (dresF done (decF rest) = decF b) ∧ Vw w0 L v' rest ∧ rest.length ≤ k ∧ done.length + rest.length ≤ 1000000 ∧
      Sat w0 wr (FramesA v5 done :: Blk g (.cells #[v', .bool false] 96 (0, 0)) :: L))
  case atStart => exact ⟨[], b, v, hid_ (dres_nil b), hv2, Nat.le_refl _, by simpa using hb, OwnL.nilI hg⟩
  case round =>
    obtain ⟨done, rest, v', hd, hv', hk, hn, h1⟩ := hrel
    have hG := Sat.front [_] h1
    obtain ⟨a1, c1, rfl, -, -, -⟩ := (hv' wr [_, _] h1).form
    have cg : wr.cell? ⟨g, 0, none⟩ = some (.slice a1 rest.length c1) := hG.cell 0 rfl
    obtain ⟨af, cf, rfl, -, -⟩ := OwnL.form h1
    by_cases h0 : rest.length = 0
    · obtain rfl : rest = [] := List.eq_nil_of_length_eq_zero h0
      have HE := hid_ (show decF b = (0, done) by rw [← hd.out, decF_nil, dres_ok, List.append_nil])
      clear h0
      go_wp2_with fail
      rw [Exit.noGoto_ret]
      go_ret2
      rw [HE.out]
      exact ⟨af, cf, rfl, h1.d2⟩
    · have q0 : ((rest.length : Int) == 0) = false := by rw [beq_eq_false_iff_ne]; omega
      have hone := one_reads (b := rest) (by omega)
      have Hr := hid_ (reader_one (M := L) [_] hG hv')
      have hpos : 0 < rest.length := by omega
      obtain ⟨⟨er, f, r3⟩, hx⟩ : ∃ x, oneM ⟨rest, false⟩ = x := ⟨_, rfl⟩
      rw [hx] at hone Hr
      clear h0 hx
      go_wp2_with fail
      refine Hr.out.mono ?_
      rintro _ w2 ⟨a, c, z, k, v3, rfl, hv3, h2⟩
      dsimp only at hone hv3 h2
      unfold frV
      clear Hr hG cg h1
      by_cases he : er = 0
      · subst he
        have h3 := hone.2 hone.1.symm
        obtain ⟨g1, g2, g3, g4, g5⟩ := h3
        dsimp only at g1 g2
        have hst := decF_step hpos hone.1.symm
        rw [← g1] at hst
        have hd2 := hid_ (show dresF (done ++ [f]) (decF r3.b) = decF b by rw [← hd.out, hst, dres_dres, g2])
        have hr3 : r3.short = false := by rw [g2]
        have hlen : r3.b.length = rest.length - (oneD rest).2.2 := by rw [g2, List.length_drop]
        have hb1 : r3.b.length < rest.length := by omega
        rw [hr3] at h2
        have HN := hid_ hn
        clear hone g1 g2 g3 g4 g5 hst hr3 hlen
        have hT : ∀ o o2, Sat w0 ((w2.alloc o).alloc o2) (FramesA (.slice af done.length cf) done :: FrE f (frC f (.slice a f.addr.ip.length c) (.slice z f.data.length k)) :: Blk g (.cells #[v3, .bool false] 96 (0, 0)) :: L) :=
          fun o o2 => Sat.re [2, 0, 1] [_, _, _] (FrE.shut ((h2.alloc_ o).alloc_ o2))
        go_wp2_with (at_builtin; go_must (refine wpList_append_one (w0 := w0) (e := 43) (sz := 9) (El := FrE) rfl _ _ 34 34 rfl Try.underlying34 hi hz0 hz1 hz2 rfl f rfl (hT _ _) rfl (src_blk (t := 43) (cs := frC f (.slice a f.addr.ip.length c) (.slice z f.data.length k)) Try.underlying34 ?c2 rfl ?c3) ?c4 ?c5 ?c6))
        case c2 => exact alloc_at (by simp)
        case c3 => exact frC_one _ rfl rfl
        case c4 => simp only [maxLen]; omega
        case c5 => omega
        intro a' c' w3 h6
        go_wp2_with fail
        go_roundg r3.b.length
        case measure => omega
        case rel =>
          exact ⟨done ++ [f], r3.b, v3, hd2, hv3, Nat.le_refl _, by simp; omega, h6⟩
      · have HE := hid_ (show decF b = (er, []) by rw [← hd.out, decF_err hpos (by rw [← hone.1]; exact he), ← hone.1, dres_err _ he])
        have qe : (er != 0) = true := by simp [he]
        clear hone he
        go_wp2_with fail
        rw [Exit.noGoto_ret]
        go_ret2
        rw [HE.out]
        exact ⟨none, 0, rfl, OwnL.nilI (h2.alloc_ _).drop.drop.drop.drop⟩
end
end Go.Proofs.Ytkejadhkebjdcaa
