/- The law StreamPlays, walked (printed by gen_rsp.py). -/
import Derived.Deep.DeepCutAuto
import Derived.Test.YtinlemeogdnanaaRsl
namespace Go.Proofs.Ytinlemeogdnanaa
open Go Go.RowKit
set_option linter.unusedVariables false
set_option linter.unusedSimpArgs false
def frO0 (f : FrM) : Obj := .cells #[.int .i64 f.kind, .int .i64 f.stream, .int .i64 f.code, .int .i64 f.n, .int .i64 f.addr.kind, .slice none 0 0, .string f.addr.name, .int .i64 f.addr.port, .slice none 0 0] 32 (0, 0)
section
variable {w0 w : World} {L : List Assn}
set_option maxRecDepth 100000 in
set_option maxHeartbeats 8000000 in
theorem stream_plays_law (v0 v1 v2 : Value) (w : World) (h0 : IsInt w v0) (h1 : IsInt w v1) (h2 : IsCalls w v2) :
    Calls Try.prog 8 #[v0, v1, v2] w fun e w' => e = .returned (.bool true) ∧ Below w.heap.size w w' := by
  obtain ⟨id, rfl, _⟩ := h0
  obtain ⟨cr, rfl, _⟩ := h1
  obtain ⟨al, cl, l, rfl, hl⟩ := h2
  have hs := Sat.refl w
  obtain ⟨n, hn⟩ : ∃ n, l.length = n := ⟨_, rfl⟩
  have HN := hid_ hn
  rw [hn]
  clear hn
  by_cases hgood : 1 ≤ id ∧ id ≤ 65535 ∧ 1 ≤ cr ∧ cr ≤ 65536
  · obtain ⟨g1, g2, g3, g4⟩ := hgood
    have HS := hid_ (stream_New id cr g1 g2 g3 g4 hs)
    go_enter Try.func8, Try.ntmps8
    go_wp2_with fail
    refine HS.out.mono ?_
    rintro _ w1 ⟨g, rfl, q1⟩
    have HR := hid_ (rst_New id cr g1 g2 g3 g4 q1)
    go_wp2_with fail
    refine HR.out.mono ?_
    rintro _ w2 ⟨f, rfl, q2⟩
    clear HS HR
    go_wp2_with fail
    go_loopg [38] n (fun gg v38 wr => ∃ (i : Nat) (m : StM), i ≤ n ∧ n - i ≤ gg ∧ v38 = .int .i64 i ∧ Sat w wr [RSt f m, StA g m])
    case atStart => exact ⟨0, _, by omega, by omega, rfl, q2⟩
    case round =>
      obtain ⟨i, m, hi, hgg, rfl, q3⟩ := hrel
      clear q1 q2 g1 g2 g3 g4
      by_cases hlt : i < n
      · obtain ⟨s, hx⟩ : ∃ s, l[i]? = some s := ⟨_, List.getElem?_eq_getElem (by rw [HN.out]; exact hlt)⟩
        obtain ⟨b, o, rfl, hb, hc, hrd⟩ := hl.2.2 i s hx
        have hcell : ∀ j u, (callX s)[j]? = some u → wr.cell? ⟨b, o + i * 12 + j, none⟩ = some u := fun j u hj => (q3.below.cell (p := ⟨b, o + i * 12 + j, none⟩) hb).trans (hc j u hj)
        have p0 : wr.cell? ⟨b, o + i * 12, none⟩ = some (.int .i64 s.m.kind) := hcell 0 _ rfl
        have p1 : wr.cell? ⟨b, o + i * 12 + 1, none⟩ = some (.int .i64 s.m.n) := hcell 1 _ rfl
        have p2 : wr.cell? ⟨b, o + i * 12 + 2, none⟩ = some (.slice s.y s.m.b.length s.e) := hcell 2 _ rfl
        have p3 : wr.cell? ⟨b, o + i * 12 + 3, none⟩ = some (.int .i64 s.m.f.kind) := hcell 3 _ rfl
        have p4 : wr.cell? ⟨b, o + i * 12 + 4, none⟩ = some (.int .i64 s.m.f.stream) := hcell 4 _ rfl
        have p5 : wr.cell? ⟨b, o + i * 12 + 5, none⟩ = some (.int .i64 s.m.f.code) := hcell 5 _ rfl
        have p6 : wr.cell? ⟨b, o + i * 12 + 6, none⟩ = some (.int .i64 s.m.f.n) := hcell 6 _ rfl
        have p7 : wr.cell? ⟨b, o + i * 12 + 7, none⟩ = some (.int .i64 s.m.f.addr.kind) := hcell 7 _ rfl
        have p8 : wr.cell? ⟨b, o + i * 12 + 8, none⟩ = some (.slice s.x s.m.f.addr.ip.length s.c) := hcell 8 _ rfl
        have p9 : wr.cell? ⟨b, o + i * 12 + 9, none⟩ = some (.string s.m.f.addr.name) := hcell 9 _ rfl
        have p10 : wr.cell? ⟨b, o + i * 12 + 10, none⟩ = some (.int .i64 s.m.f.addr.port) := hcell 10 _ rfl
        have p11 : wr.cell? ⟨b, o + i * 12 + 11, none⟩ = some (.slice s.z s.m.f.data.length s.k) := hcell 11 _ rfl
        have q4 := q3.alloc (.cells #[.int .i64 s.m.kind, .int .i64 s.m.n, .slice s.y s.m.b.length s.e, .int .i64 s.m.f.kind, .int .i64 s.m.f.stream, .int .i64 s.m.f.code, .int .i64 s.m.f.n, .int .i64 s.m.f.addr.kind, .slice s.x s.m.f.addr.ip.length s.c, .string s.m.f.addr.name, .int .i64 s.m.f.addr.port, .slice s.z s.m.f.data.length s.k] 55 (0, 0))
        clear hcell hc hx
        go_upto_region 9 with fail
        obtain ⟨gb, hgb⟩ : ∃ gb, wr.heap.size = gb := ⟨_, rfl⟩
        rw [hgb] at q4
        generalize wr.alloc (.cells #[.int .i64 s.m.kind, .int .i64 s.m.n, .slice s.y s.m.b.length s.e, .int .i64 s.m.f.kind, .int .i64 s.m.f.stream, .int .i64 s.m.f.code, .int .i64 s.m.f.n, .int .i64 s.m.f.addr.kind, .slice s.x s.m.f.addr.ip.length s.c, .string s.m.f.addr.name, .int .i64 s.m.f.addr.port, .slice s.z s.m.f.data.length s.k] 55 (0, 0)) = w4 at *
        rw [hgb]
        clear hgb q3 p0 p1 p2 p3 p4 p5 p6 p7 p8 p9 p10 p11
        have p0 : w4.cell? ⟨gb, 0, none⟩ = some (.int .i64 s.m.kind) := q4.cell 0 rfl
        have p1 : w4.cell? ⟨gb, 1, none⟩ = some (.int .i64 s.m.n) := q4.cell 1 rfl
        have p2 : w4.cell? ⟨gb, 2, none⟩ = some (.slice s.y s.m.b.length s.e) := q4.cell 2 rfl
        have p3 : w4.cell? ⟨gb, 3, none⟩ = some (.int .i64 s.m.f.kind) := q4.cell 3 rfl
        have p4 : w4.cell? ⟨gb, 4, none⟩ = some (.int .i64 s.m.f.stream) := q4.cell 4 rfl
        have p5 : w4.cell? ⟨gb, 5, none⟩ = some (.int .i64 s.m.f.code) := q4.cell 5 rfl
        have p6 : w4.cell? ⟨gb, 6, none⟩ = some (.int .i64 s.m.f.n) := q4.cell 6 rfl
        have p7 : w4.cell? ⟨gb, 7, none⟩ = some (.int .i64 s.m.f.addr.kind) := q4.cell 7 rfl
        have p8 : w4.cell? ⟨gb, 8, none⟩ = some (.slice s.x s.m.f.addr.ip.length s.c) := q4.cell 8 rfl
        have p9 : w4.cell? ⟨gb, 9, none⟩ = some (.string s.m.f.addr.name) := q4.cell 9 rfl
        have p10 : w4.cell? ⟨gb, 10, none⟩ = some (.int .i64 s.m.f.addr.port) := q4.cell 10 rfl
        have p11 : w4.cell? ⟨gb, 11, none⟩ = some (.slice s.z s.m.f.data.length s.k) := q4.cell 11 rfl
        have HSM := hid_ (law20_small (w := w4) s)
        by_cases h60 : 60 ≤ i
        · have d60 : decide ((60 : Int) ≤ (i : Int)) = true := decide_eq_true (by omega)
          go_wp2_with fail
          refine (stream_awake q4).mono ?_
          rintro _ w5 ⟨rfl, q5⟩
          go_wp2_with fail
          go_ret
          exact ⟨rfl, q5.below⟩
        have d60 : decide ((60 : Int) ≤ (i : Int)) = false := decide_eq_false (by omega)
        go_wp2_with fail
        refine HSM.out.mono ?_
        rintro _ w5 ⟨bb, rfl, hb5⟩
        have q5 := q4.under hb5
        clear HSM p0 p1 p2 p3 p4 p5 p6 p7 p8 p9 p10 p11 q4
        cases bb
        · go_wp2_with fail
          refine (stream_awake q5).mono ?_
          rintro _ w6 ⟨rfl, q6⟩
          go_wp2_with fail
          go_ret
          exact ⟨rfl, q6.below⟩
        have p0 : w5.cell? ⟨gb, 0, none⟩ = some (.int .i64 s.m.kind) := q5.cell 0 rfl
        have p1 : w5.cell? ⟨gb, 1, none⟩ = some (.int .i64 s.m.n) := q5.cell 1 rfl
        have p2 : w5.cell? ⟨gb, 2, none⟩ = some (.slice s.y s.m.b.length s.e) := q5.cell 2 rfl
        have p3 : w5.cell? ⟨gb, 3, none⟩ = some (.int .i64 s.m.f.kind) := q5.cell 3 rfl
        have p4 : w5.cell? ⟨gb, 4, none⟩ = some (.int .i64 s.m.f.stream) := q5.cell 4 rfl
        have p5 : w5.cell? ⟨gb, 5, none⟩ = some (.int .i64 s.m.f.code) := q5.cell 5 rfl
        have p6 : w5.cell? ⟨gb, 6, none⟩ = some (.int .i64 s.m.f.n) := q5.cell 6 rfl
        have p7 : w5.cell? ⟨gb, 7, none⟩ = some (.int .i64 s.m.f.addr.kind) := q5.cell 7 rfl
        have p8 : w5.cell? ⟨gb, 8, none⟩ = some (.slice s.x s.m.f.addr.ip.length s.c) := q5.cell 8 rfl
        have p9 : w5.cell? ⟨gb, 9, none⟩ = some (.string s.m.f.addr.name) := q5.cell 9 rfl
        have p10 : w5.cell? ⟨gb, 10, none⟩ = some (.int .i64 s.m.f.addr.port) := q5.cell 10 rfl
        have p11 : w5.cell? ⟨gb, 11, none⟩ = some (.slice s.z s.m.f.data.length s.k) := q5.cell 11 rfl
        have q6 : Sat w w5 [StA g m, RSt f m, Blk gb (.cells #[.int .i64 s.m.kind, .int .i64 s.m.n, .slice s.y s.m.b.length s.e, .int .i64 s.m.f.kind, .int .i64 s.m.f.stream, .int .i64 s.m.f.code, .int .i64 s.m.f.n, .int .i64 s.m.f.addr.kind, .slice s.x s.m.f.addr.ip.length s.c, .string s.m.f.addr.name, .int .i64 s.m.f.addr.port, .slice s.z s.m.f.data.length s.k] 55 (0, 0))] := Sat.re [2, 1, 0] [_, _, _] (L := []) q5
        clear q5
        by_cases k0 : s.m.kind = 0
        · have e0 : (s.m.kind == 0) = true := by simp [k0]
          have d0 : (m.sendB s.m.b == m.sendB s.m.b) = true := beq_self_eq_true _
          have hrb := hid_ hrd.b
          clear k0
          go_wp2_with fail
          go_region_held3 (fun W => W.cell? ⟨gb, 2, none⟩ = some (.slice s.y s.m.b.length s.e))
            (first | exact p2 | exact (Sat.front [_, _] qA).cell 2 rfl | exact (Sat.front [_, _] qB).cell 2 rfl)
            ((first | (go_at_call 13; refine (stream_Send g m _ s.m.b (RdB.later hrb.out q6.drew) q6.drew).mono ?_; rintro _ w7 ⟨rfl, qA⟩) | (go_at_call 23; refine (rst_Send f m _ s.m.b hrb.out qA.swap).mono ?_; rintro _ w8 ⟨rfl, qB⟩)))
          obtain ⟨s9, hs9⟩ : ∃ s9, m.send s.m.b = s9 := ⟨_, rfl⟩
          have hX : Sat w w8 [RSt f s9, StA g s9] := by rw [← hs9]; exact keep2' qB
          clear hs9
          obtain ⟨gc9, v9, hok9, h91⟩ := RSt.opn hX
          obtain ⟨a9, c9, rfl, _, _⟩ := OwnS.form (Sat.front [_, _] h91)
          have r0 : w8.cell? ⟨f, 0, none⟩ = some (.int .i64 s9.id) := h91.cell 0 rfl
          have r3 : w8.cell? ⟨f, 3, none⟩ = some (.slice a9 s9.wait.length c9) := h91.cell 3 rfl
          have d9 : (s9.done != s9.done) = false := bne_self_eq_false _
          have hw9 := hok9.2.2.2.2
          clear h91
          go_wp2_with fail
          go_quiet ((first | (go_at_call 18; exact quiet_same (stream_Done g s9 (Sat.drop (Sat.drewN hX _)))) | (go_at_call 30; exact quiet_same (rst_Done f s9 (Sat.drewN hX _))) | (go_at_call 16; exact quiet_same (stream_Waits g s9 (Sat.drop (Sat.drewN hX _)))) | (go_at_call 31; exact quiet_same (stream_Id g s9 (Sat.drop (Sat.drewN hX _))))))
          go_wp2_with fail
          go_roundg (n - (i + 1))
          case measure => omega
          case rel => exact ⟨i + 1, s9, by omega, by omega, by go_num, Sat.drewN hX _⟩
        have e0 : (s.m.kind == 0) = false := by simp [k0]
        by_cases k1 : s.m.kind = 1
        · have e1 : (s.m.kind == 1) = true := by simp [k1]
          have d0 : (m.finB == m.finB) = true := beq_self_eq_true _
          have HE := hid_ (stream_End g m q6)
          clear k0 k1
          go_wp2_with fail
          refine HE.out.mono ?_
          rintro _ w7 ⟨rfl, qA⟩
          have HE2 := hid_ (rst_End f m qA.swap)
          go_wp2_with fail
          refine HE2.out.mono ?_
          rintro _ w8 ⟨rfl, qB⟩
          obtain ⟨s9, hs9⟩ : ∃ s9, m.fin = s9 := ⟨_, rfl⟩
          have hX : Sat w w8 [RSt f s9, StA g s9] := by rw [← hs9]; exact keep2' qB
          clear hs9
          obtain ⟨gc9, v9, hok9, h91⟩ := RSt.opn hX
          obtain ⟨a9, c9, rfl, _, _⟩ := OwnS.form (Sat.front [_, _] h91)
          have r0 : w8.cell? ⟨f, 0, none⟩ = some (.int .i64 s9.id) := h91.cell 0 rfl
          have r3 : w8.cell? ⟨f, 3, none⟩ = some (.slice a9 s9.wait.length c9) := h91.cell 3 rfl
          have d9 : (s9.done != s9.done) = false := bne_self_eq_false _
          have hw9 := hok9.2.2.2.2
          clear h91
          go_wp2_with fail
          go_quiet ((first | (go_at_call 18; exact quiet_same (stream_Done g s9 (Sat.drop (Sat.drewN hX _)))) | (go_at_call 30; exact quiet_same (rst_Done f s9 (Sat.drewN hX _))) | (go_at_call 16; exact quiet_same (stream_Waits g s9 (Sat.drop (Sat.drewN hX _)))) | (go_at_call 31; exact quiet_same (stream_Id g s9 (Sat.drop (Sat.drewN hX _))))))
          go_wp2_with fail
          go_roundg (n - (i + 1))
          case measure => omega
          case rel => exact ⟨i + 1, s9, by omega, by omega, by go_num, Sat.drewN hX _⟩
        have e1 : (s.m.kind == 1) = false := by simp [k1]
        by_cases k2 : s.m.kind = 2
        · have e2 : (s.m.kind == 2) = true := by simp [k2]
          have d0 : (m.breakB s.m.n == m.breakB s.m.n) = true := beq_self_eq_true _
          have hip : (m.breakF s.m.n).addr.ip = [] := by unfold StM.breakF; split <;> rfl
          have hdt : (m.breakF s.m.n).data = [] := by unfold StM.breakF; split <;> rfl
          have HE := stream_Break g m s.m.n q6
          obtain ⟨F, hF⟩ : ∃ F, m.breakF s.m.n = F := ⟨_, rfl⟩
          rw [hF] at HE hip hdt
          unfold frV at HE
          have HE := hid_ HE
          have HIP := hid_ hip
          have HDT := hid_ hdt
          have HF := hid_ hF
          clear k0 k1 k2 hip hdt hF
          go_wp2_with fail
          refine HE.out.mono ?_
          rintro _ w7 ⟨rfl, qA⟩
          have p1 : w7.cell? ⟨gb, 1, none⟩ = some (.int .i64 s.m.n) := (Sat.front [_, _] qA).cell 1 rfl
          have qA2 := qA.alloc (frO0 F)
          have p1' := (Sat.front [_, _, _] qA2).cell 1 (v := .int .i64 s.m.n) rfl
          have HE2 := rst_Break f m s.m.n (Sat.front [_, _] qA2)
          rw [HF.out] at HE2
          unfold frV at HE2
          have HE2 := hid_ HE2
          unfold frO0 at *
          go_wp2_with fail
          refine HE2.out.mono ?_
          rintro _ w8 ⟨rfl, qB⟩
          have qB2 := qB.alloc (frO0 F)
          have HS := hid_ (ref_SameFrameV (w := w8.alloc (frO0 F)) F F rfl rfl (by rw [HIP.out]; exact RdB.nil _) (by rw [HDT.out]; exact RdB.nil _) (by rw [HIP.out]; exact RdB.nil _) (by rw [HDT.out]; exact RdB.nil _))
          rw [sameFr_refl] at HS
          unfold frV at HS
          unfold frO0 at *
          have y := Sat.cells9 (Sat.front [_, _] qB2)
          have z := Sat.cells9 qB2
          go_wp2_with fail
          refine HS.out.mono ?_
          rintro _ w9 ⟨rfl, hb9⟩
          have qC := (Sat.re [1, 3, 0, 2, 4] [_, _, _, _, _] (L := []) qB2).under hb9
          obtain ⟨s9, hs9⟩ : ∃ s9, m.breakS s.m.n = s9 := ⟨_, rfl⟩
          have hX : Sat w w9 [RSt f s9, StA g s9] := by rw [← hs9]; exact keep2' qC
          clear hs9
          obtain ⟨gc9, v9, hok9, h91⟩ := RSt.opn hX
          obtain ⟨a9, c9, rfl, _, _⟩ := OwnS.form (Sat.front [_, _] h91)
          have r0 : w9.cell? ⟨f, 0, none⟩ = some (.int .i64 s9.id) := h91.cell 0 rfl
          have r3 : w9.cell? ⟨f, 3, none⟩ = some (.slice a9 s9.wait.length c9) := h91.cell 3 rfl
          have d9 : (s9.done != s9.done) = false := bne_self_eq_false _
          have hw9 := hok9.2.2.2.2
          clear h91
          go_wp2_with fail
          go_quiet ((first | (go_at_call 18; exact quiet_same (stream_Done g s9 (Sat.drop (Sat.drewN hX _)))) | (go_at_call 30; exact quiet_same (rst_Done f s9 (Sat.drewN hX _))) | (go_at_call 16; exact quiet_same (stream_Waits g s9 (Sat.drop (Sat.drewN hX _)))) | (go_at_call 31; exact quiet_same (stream_Id g s9 (Sat.drop (Sat.drewN hX _))))))
          go_wp2_with fail
          go_roundg (n - (i + 1))
          case measure => omega
          case rel => exact ⟨i + 1, s9, by omega, by omega, by go_num, Sat.drewN hX _⟩
        have e2 : (s.m.kind == 2) = false := by simp [k2]
        by_cases k3 : s.m.kind = 3
        · have e3 : (s.m.kind == 3) = true := by simp [k3]
          have HE := hid_ (stream_Next g m q6)
          clear k0 k1 k2 k3
          go_wp2_with fail
          refine HE.out.mono ?_
          rintro _ w7 ⟨vA, rfl, qA⟩
          have HE2 := hid_ (rst_Next f m (Sat.front [_, _] qA))
          go_wp2_with fail
          refine HE2.out.mono ?_
          rintro _ w8 ⟨vB, rfl, qB⟩
          obtain ⟨aB, cB, rfl, hlB, hmB⟩ := OwnL.form qB
          obtain ⟨aA, cA, rfl, _, _⟩ := OwnL.form (Sat.front [_, _] qB)
          have HS := hid_ (ref_SameFrames (c := cA) (d := cB) rfl (by omega) (FramesA.rd (Sat.front [_, _] qB)) (FramesA.rd qB))
          go_wp2_with fail
          refine HS.out.mono ?_
          rintro _ w9 ⟨rfl, hb9⟩
          have qC := (Sat.re [1, 3, 0, 2, 4] [_, _, _, _, _] (L := []) qB).under hb9
          obtain ⟨s9, hs9⟩ : ∃ s9, m.next = s9 := ⟨_, rfl⟩
          have hX : Sat w w9 [RSt f s9, StA g s9] := by rw [← hs9]; exact keep2' qC
          clear hs9
          obtain ⟨gc9, v9, hok9, h91⟩ := RSt.opn hX
          obtain ⟨a9, c9, rfl, _, _⟩ := OwnS.form (Sat.front [_, _] h91)
          have r0 : w9.cell? ⟨f, 0, none⟩ = some (.int .i64 s9.id) := h91.cell 0 rfl
          have r3 : w9.cell? ⟨f, 3, none⟩ = some (.slice a9 s9.wait.length c9) := h91.cell 3 rfl
          have d9 : (s9.done != s9.done) = false := bne_self_eq_false _
          have hw9 := hok9.2.2.2.2
          clear h91
          go_wp2_with fail
          go_quiet ((first | (go_at_call 18; exact quiet_same (stream_Done g s9 (Sat.drop (Sat.drewN hX _)))) | (go_at_call 30; exact quiet_same (rst_Done f s9 (Sat.drewN hX _))) | (go_at_call 16; exact quiet_same (stream_Waits g s9 (Sat.drop (Sat.drewN hX _)))) | (go_at_call 31; exact quiet_same (stream_Id g s9 (Sat.drop (Sat.drewN hX _))))))
          go_wp2_with fail
          go_roundg (n - (i + 1))
          case measure => omega
          case rel => exact ⟨i + 1, s9, by omega, by omega, by go_num, Sat.drewN hX _⟩
        have e3 : (s.m.kind == 3) = false := by simp [k3]
        have hrf := hid_ hrd.f
        have HE := stream_Got g m s.m.f s.x s.z s.c s.k (hrf.out.mono q6.below) q6
        unfold frV at HE
        have HE := hid_ HE
        clear k0 k1 k2 k3
        go_wp2_with fail
        refine HE.out.mono ?_
        rintro _ w7 ⟨vd, vf, rfl, qA⟩
        have p0 : w7.cell? ⟨gb, 0, none⟩ = some (.int .i64 s.m.kind) := (Sat.front [_, _, _, _] qA).cell 0 rfl
        have p1 : w7.cell? ⟨gb, 1, none⟩ = some (.int .i64 s.m.n) := (Sat.front [_, _, _, _] qA).cell 1 rfl
        have p2 : w7.cell? ⟨gb, 2, none⟩ = some (.slice s.y s.m.b.length s.e) := (Sat.front [_, _, _, _] qA).cell 2 rfl
        have p3 : w7.cell? ⟨gb, 3, none⟩ = some (.int .i64 s.m.f.kind) := (Sat.front [_, _, _, _] qA).cell 3 rfl
        have p4 : w7.cell? ⟨gb, 4, none⟩ = some (.int .i64 s.m.f.stream) := (Sat.front [_, _, _, _] qA).cell 4 rfl
        have p5 : w7.cell? ⟨gb, 5, none⟩ = some (.int .i64 s.m.f.code) := (Sat.front [_, _, _, _] qA).cell 5 rfl
        have p6 : w7.cell? ⟨gb, 6, none⟩ = some (.int .i64 s.m.f.n) := (Sat.front [_, _, _, _] qA).cell 6 rfl
        have p7 : w7.cell? ⟨gb, 7, none⟩ = some (.int .i64 s.m.f.addr.kind) := (Sat.front [_, _, _, _] qA).cell 7 rfl
        have p8 : w7.cell? ⟨gb, 8, none⟩ = some (.slice s.x s.m.f.addr.ip.length s.c) := (Sat.front [_, _, _, _] qA).cell 8 rfl
        have p9 : w7.cell? ⟨gb, 9, none⟩ = some (.string s.m.f.addr.name) := (Sat.front [_, _, _, _] qA).cell 9 rfl
        have p10 : w7.cell? ⟨gb, 10, none⟩ = some (.int .i64 s.m.f.addr.port) := (Sat.front [_, _, _, _] qA).cell 10 rfl
        have p11 : w7.cell? ⟨gb, 11, none⟩ = some (.slice s.z s.m.f.data.length s.k) := (Sat.front [_, _, _, _] qA).cell 11 rfl
        have HE2 := rst_Got f m s.m.f s.x s.z s.c s.k (hrf.out.mono qA.below) (Sat.front [_, _, _] qA)
        unfold frV at HE2
        have HE2 := hid_ HE2
        go_wp2_with fail
        refine HE2.out.mono ?_
        rintro _ w8 ⟨vd2, vf2, rfl, qB⟩
        obtain ⟨aB, cB, rfl, hlB, hmB⟩ := OwnL.form qB.drop
        obtain ⟨aA, cA, rfl, _, _⟩ := OwnL.form (Sat.front [_, _, _, _] qB)
        have kA : (convert 22 9 vd).run Try.prog w8 = .ok (.string (strOf (m.gotD s.m.f))) w8 := conv_rd (P := Try.prog) (dst := 9) Try.underlying22 Try.underlying5 Try.underlying9 (OwnB.rd (Sat.front [_, _, _] qB))
        have kB : (convert 22 9 vd2).run Try.prog w8 = .ok (.string (strOf (m.gotD s.m.f))) w8 := conv_rd (P := Try.prog) (dst := 9) Try.underlying22 Try.underlying5 Try.underlying9 (OwnB.rd qB)
        have HS := hid_ (ref_SameFrames (c := cA) (d := cB) rfl (by omega) (FramesA.rd (Sat.front [_, _, _, _] qB)) (FramesA.rd qB.drop))
        go_wp2_with fail
        refine HS.out.mono ?_
        rintro _ w9 ⟨rfl, hb9⟩
        have qC := (Sat.re [2, 5, 0, 1, 3, 4, 6] [_, _, _, _, _, _, _] (L := []) qB).under hb9
        obtain ⟨s9, hs9⟩ : ∃ s9, m.got s.m.f = s9 := ⟨_, rfl⟩
        have hX : Sat w w9 [RSt f s9, StA g s9] := by rw [← hs9]; exact keep2' qC
        clear hs9
        obtain ⟨gc9, v9, hok9, h91⟩ := RSt.opn hX
        obtain ⟨a9, c9, rfl, _, _⟩ := OwnS.form (Sat.front [_, _] h91)
        have r0 : w9.cell? ⟨f, 0, none⟩ = some (.int .i64 s9.id) := h91.cell 0 rfl
        have r3 : w9.cell? ⟨f, 3, none⟩ = some (.slice a9 s9.wait.length c9) := h91.cell 3 rfl
        have d9 : (s9.done != s9.done) = false := bne_self_eq_false _
        have hw9 := hok9.2.2.2.2
        clear h91
        go_wp2_with fail
        go_quiet ((first | (go_at_call 18; exact quiet_same (stream_Done g s9 (Sat.drop (Sat.drewN hX _)))) | (go_at_call 30; exact quiet_same (rst_Done f s9 (Sat.drewN hX _))) | (go_at_call 16; exact quiet_same (stream_Waits g s9 (Sat.drop (Sat.drewN hX _)))) | (go_at_call 31; exact quiet_same (stream_Id g s9 (Sat.drop (Sat.drewN hX _))))))
        go_wp2_with fail
        go_roundg (n - (i + 1))
        case measure => omega
        case rel => exact ⟨i + 1, s9, by omega, by omega, by go_num, Sat.drewN hX _⟩
      · obtain rfl : i = n := by omega
        go_wp2_with fail
        refine (stream_awake q3).mono ?_
        rintro _ w5 ⟨rfl, q5⟩
        go_wp2_with fail
        go_ret
        exact ⟨rfl, q5.below⟩
  · have hbad : id < 1 ∨ 65535 < id ∨ cr < 1 ∨ 65536 < cr := by omega
    have HS := hid_ (stream_New_no (w := w) id cr hbad)
    have HR := hid_ (rst_New_no (w := w) id cr hbad)
    clear hbad hgood
    go_enter Try.func8, Try.ntmps8
    go_wp2_with fail
    refine HS.out.mono ?_
    rintro _ _ ⟨rfl, rfl⟩
    go_wp2_with fail
    refine HR.out.mono ?_
    rintro _ _ ⟨rfl, rfl⟩
    go_wp2_with fail
    refine (stream_awake hs).mono ?_
    rintro _ w5 ⟨rfl, q5⟩
    go_wp2_with fail
    go_ret
    exact ⟨rfl, q5.below⟩
end
end Go.Proofs.Ytinlemeogdnanaa
