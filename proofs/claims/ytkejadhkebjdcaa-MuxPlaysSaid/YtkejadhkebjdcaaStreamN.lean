/- What a stream's end has to send: Next, walked. -/
import Derived.Test.YtkejadhkebjdcaaStreamW
import Derived.Test.YtkejadhkebjdcaaFrM
import Derived.Test.YtkejadhkebjdcaaClone
import Derived.Deep.RegionHeld3
import Derived.Deep.LoopGhost
import Derived.Deep.DeepMust
import Derived.Deep.AppendLies
namespace Go.Proofs.Ytkejadhkebjdcaa
open Go Go.RowKit
set_option linter.unusedVariables false
set_option linter.unusedSimpArgs false

def StM.finNow (s : StM) : Bool := s.wait.length == 0 && s.ended && !s.told
def StM.sent (s : StM) : Nat := (takeC s.may s.wait.length).toNat
/-- The pieces are gone. -/
def StM.mid (s : StM) : StM := { s with may := s.may - s.sent, wait := s.wait.drop s.sent }
def StM.next (s : StM) : StM := if s.cut then s else { s.mid with told := s.told || s.mid.finNow }
def StM.nextL (s : StM) : List FrM :=
  if s.cut then [] else (chunk (s.wait.take s.sent)).map (FrM.dataF s.id) ++ if s.mid.finNow then [FrM.finF s.id] else []

theorem finfo : ∃ i, Try.prog.info? 43 = some i ∧ i.zero = some (.agg #[.int .i64 0, .int .i64 0, .int .i64 0, .int .i64 0, .int .i64 0, .slice none 0 0, .string ByteArray.empty, .int .i64 0, .slice none 0 0]) ∧ i.size = 9 ∧ i.bytes = 112 := info_at (by kernel_rfl)

section
variable {w0 w : World} {L : List Assn}

theorem stream_Next_nil : Calls Try.prog 22 #[.pointer none] w fun e w' => e = .returned (.slice none 0 0) ∧ w = w' := by
  go_enter Try.func22, Try.ntmps22
  go_wp2_with fail
  go_step3
  go_wp2
  rw [Exit.noGoto_ret]
  go_ret
  exact ⟨rfl, rfl⟩

/-- What stands at a round's head: what went, what is left. -/
structure NextI (s : StM) (done : List (List UInt8)) (c : Int) (cur : List UInt8) : Prop where
  all : done ++ chunk (cur.take (takeC c cur.length).toNat) = chunk (s.wait.take s.sent)
  left : c - takeC c cur.length = s.may - s.sent
  rest : cur.drop (takeC c cur.length).toNat = s.wait.drop s.sent
  le : cur.length ≤ 65536
  n : done.length ≤ 65536
  nc : done.length + cur.length ≤ 65536

theorem StM.next_of {s : StM} (hc : Hid (s.cut = false)) : s.next = { s.mid with told := s.told || s.mid.finNow } := by unfold StM.next; rw [hc.out]; simp
theorem StM.nextL_of {s : StM} (hc : Hid (s.cut = false)) : s.nextL = (chunk (s.wait.take s.sent)).map (FrM.dataF s.id) ++ if s.mid.finNow then [FrM.finF s.id] else [] := by unfold StM.nextL; rw [hc.out]; simp
theorem StM.next_eq {s : StM} (hc : Hid (s.cut = false)) {may : Int} {wait : List UInt8} {told : Bool} (h1 : may = s.mid.may) (h2 : wait = s.mid.wait) (h3 : told = (s.told || s.mid.finNow)) :
    (⟨s.id, may, s.others, wait, s.ended, told, s.over, false⟩ : StM) = s.next := by
  rw [StM.next_of hc, h1, h2, h3]
  have := hc.out
  simp [StM.mid, this]
theorem StM.next_ok {s : StM} (h : s.ok) : s.next.ok := by
  obtain ⟨h1, h2, h3, h4, h5⟩ := h
  unfold StM.next
  split
  · exact ⟨h1, h2, h3, h4, h5⟩
  · exact ⟨h1, h2, h3, h4, by simp [StM.mid]; omega⟩
theorem NextI.start {s : StM} (hok : s.ok) : NextI s [] s.may s.wait := by
  obtain ⟨_, _, _, _, h5⟩ := hok
  refine ⟨rfl, ?_, rfl, h5, by simp, by simp; exact h5⟩
  unfold StM.sent takeC
  omega
theorem NextI.stop {s : StM} {done : List (List UInt8)} {c : Int} {cur : List UInt8} (h : NextI s done c cur) (h0 : takeC c (min (cur.length : Int) 1000) = 0) :
    done = chunk (s.wait.take s.sent) ∧ c = s.mid.may ∧ cur = s.mid.wait := by
  have hT : takeC c cur.length = 0 := by unfold takeC at *; omega
  have h1 := h.all
  have h2 := h.left
  have h3 := h.rest
  rw [hT] at h1 h2 h3
  simp only [Int.toNat_zero, List.take_zero, List.drop_zero, chunk_nil, List.append_nil] at h1 h3
  exact ⟨h1, by unfold StM.mid; simp only; omega, h3⟩
theorem NextI.step {s : StM} {done : List (List UInt8)} {c : Int} {cur : List UInt8} (h : NextI s done c cur) {n : Nat} (hn : takeC c (min (cur.length : Int) 1000) = n) (h0 : 0 < n) :
    NextI s (done ++ [cur.take n]) (c - n) (cur.drop n) := by
  obtain ⟨T, hT⟩ : ∃ T : Nat, takeC c cur.length = T := ⟨(takeC c cur.length).toNat, by unfold takeC; omega⟩
  have hTn : n = min T 1000 ∧ T ≤ cur.length ∧ (n : Int) ≤ c := by unfold takeC at *; omega
  have hT' : takeC (c - n) ((cur.drop n).length) = ((T - n : Nat) : Int) := by
    rw [List.length_drop]
    unfold takeC at *
    omega
  have h1 := h.all
  have h2 := h.left
  have h3 := h.rest
  rw [hT] at h1 h2 h3
  simp only [Int.toNat_natCast] at h1 h3
  have hlen : (cur.take T).length = T := by rw [List.length_take]; omega
  refine ⟨?_, ?_, ?_, ?_, ?_, ?_⟩
  · rw [hT']
    simp only [Int.toNat_natCast]
    rw [← h1, chunk_cons (l := cur.take T) (by omega), List.append_assoc]
    congr 1
    rw [List.take_take, Nat.min_comm, ← hTn.1]
    simp only [List.cons_append, List.nil_append]
    congr 2
    by_cases h4 : T ≤ 1000
    · have e : n = T := by omega
      subst e
      rw [List.drop_of_length_le (l := List.take n cur) (by omega), Nat.sub_self, List.take_zero]
    · have e : n = 1000 := by omega
      subst e
      rw [List.drop_take]
  · rw [hT']; omega
  · rw [hT']
    simp only [Int.toNat_natCast]
    rw [List.drop_drop, ← h3]
    congr 1
    omega
  · rw [List.length_drop]; have := h.le; omega
  · have := h.nc; simp; omega
  · have := h.nc; simp; omega

set_option maxHeartbeats 2000000 in
set_option maxRecDepth 100000 in
theorem stream_Next (g : Nat) (s : StM) (hs : Sat w0 w (StA g s :: L)) :
    Calls Try.prog 22 #[.pointer (some ⟨g, 0, none⟩)] w fun e w' => ∃ v, e = .returned v ∧ Sat w0 w' (FramesA v s.nextL :: StA g s.next :: L) := by
  obtain ⟨gc, v, hok, h1⟩ := StA.opn hs
  have c7 : w.cell? ⟨g, 7, none⟩ = some (.bool s.cut) := h1.cell 7 rfl
  cases hc : s.cut
  · have hcut := hid_ hc
    rw [hc] at c7
    rw [hc] at h1
    clear hc
    go_enter Try.func22, Try.ntmps22
    go_wp2_with fail
    go_step3
    go_wp2_with fail
    go_wp2_with fail
    go_step3
    go_wp2_with fail
    go_loopg [3] (s.wait.length) (fun k v3 wr => ∃ (done : List (List UInt8)) (c : Int) (cur : List UInt8) (vw : Value), NextI s done c cur ∧ cur.length ≤ k ∧
      Sat w0 wr (FramesA v3 (done.map (FrM.dataF s.id)) :: Blk g (.cells #[.int .i64 s.id, .pointer (some ⟨gc, 0, none⟩), .int .i64 s.others, vw, .bool s.ended, .bool s.told, .bool s.over, .bool false] 78 (0, 0)) :: Credit gc c :: OwnB 5 vw cur :: L))
    case atStart => exact ⟨[], s.may, s.wait, v, NextI.start hok, Nat.le_refl _, OwnL.nilI h1⟩
    case round =>
      obtain ⟨done, c, cur, vw, hI, hk, hs1⟩ := hrel
      obtain ⟨a4, cap4, rfl, _, _⟩ := OwnS.form (Sat.front [_, _, _] hs1)
      have c1 : wr.cell? ⟨g, 1, none⟩ = some (.pointer (some ⟨gc, 0, none⟩)) := (Sat.front [_] hs1).cell 1 rfl
      have c3 : wr.cell? ⟨g, 3, none⟩ = some (.slice a4 cur.length cap4) := (Sat.front [_] hs1).cell 3 rfl
      go_wp2_with fail
      go_region_held3 (fun w' => w'.cell? ⟨g, 1, none⟩ = some (.pointer (some ⟨gc, 0, none⟩)) ∧ w'.cell? ⟨g, 3, none⟩ = some (.slice a4 cur.length cap4))
        (first | exact ⟨c1, c3⟩ | exact ⟨(Sat.front [_, _] h2).cell 1 rfl, (Sat.front [_, _] h2).cell 3 rfl⟩)
        (first | (go_at_call 48; refine (credit_Take gc c _ (Sat.front [_, _] hs1.drew)).mono ?_; rintro _ w2 ⟨rfl, h2⟩))
      have hb := takeC_bd (n := c) (min (cur.length : Int) 1000) (CreditT.opn (Sat.front [_, _] hs1)).1
      have hn2 : takeC c (min (cur.length : Int) 1000) ≤ 1000 ∧ takeC c (min (cur.length : Int) 1000) ≤ cur.length := by unfold takeC; omega
      generalize hn : takeC c (min (cur.length : Int) 1000) = n at *
      have Hn := hid_ hn
      clear hn c1 c3
      by_cases h0 : n = 0
      · subst h0
        obtain ⟨e1, e2, e3⟩ := hI.stop Hn.out
        have c0 : w2.cell? ⟨g, 0, none⟩ = some (.int .i64 s.id) := (Sat.front [_, _] h2).cell 0 rfl
        have c4 : w2.cell? ⟨g, 4, none⟩ = some (.bool s.ended) := (Sat.front [_, _] h2).cell 4 rfl
        have c5 : w2.cell? ⟨g, 5, none⟩ = some (.bool s.told) := (Sat.front [_, _] h2).cell 5 rfl
        have f5 : w2.frozen? ⟨g, 5, none⟩ = false := (Sat.front [_, _] h2).frozen 5
        have c3 : w2.cell? ⟨g, 3, none⟩ = some (.slice a4 cur.length cap4) := (Sat.front [_, _] h2).cell 3 rfl
        by_cases hf : s.mid.finNow = true
        · have hf' := hf
          unfold StM.finNow at hf'
          rw [← e3] at hf'
          simp only [Bool.and_eq_true, beq_iff_eq, Bool.not_eq_true'] at hf'
          obtain ⟨⟨f1, f2⟩, f3⟩ := hf'
          have f2' : s.ended = true := f2
          have f3' : s.told = false := f3
          rw [f2'] at c4
          rw [f3'] at c5
          obtain rfl : cur = [] := List.eq_nil_of_length_eq_zero f1
          have E1 := hid_ e1
          have E2 := hid_ e2
          have E3 := hid_ e3
          have F2 := hid_ f2'
          have F3 := hid_ f3'
          have HF := hid_ hf
          clear e1 e2 e3 hf f1 f2 f3 f2' f3'
          have hA : Sat w0 w2 (FramesA u3 (done.map (FrM.dataF s.id)) :: _) := Sat.front [_] h2
          have hlen : (done.map (FrM.dataF s.id)).length = done.length := List.length_map _
          have hdn := hI.n
          have hA5 := (Sat.front [_, _] h2).set 5 (.bool true)
          obtain ⟨i0, hi, hz0, hz1, hz2⟩ := finfo
          have hT : ∀ o, Sat w0 ((w2.setCell ⟨g, 5, none⟩ (.bool true)).alloc o) (FramesA u3 (done.map (FrM.dataF s.id)) :: FrE (FrM.finF s.id) (frC (FrM.finF s.id) (.slice none 0 0) (.slice none 0 0)) :: _) :=
            fun o => (FrE.shut (f := FrM.finF s.id) (OwnB.nilI (OwnB.nilI (Sat.front [_, _] (hA5.alloc_ o))))).swap
          go_wp2_with (at_builtin; go_must (refine wpList_append_one (w0 := w0) (e := 43) (sz := 9) (El := FrE) rfl _ _ 34 34 rfl Try.underlying34 hi hz0 hz1 hz2 rfl (FrM.finF s.id) rfl (hT _) rfl (src_blk (t := 43) (cs := frC (FrM.finF s.id) (.slice none 0 0) (.slice none 0 0)) Try.underlying34 ?c2 rfl ?c3) ?c4 ?c5 ?c6))
          case c2 => exact alloc_at (setCell_size _ _ _).symm
          case c3 => exact frC_one _ rfl rfl
          case c4 => rw [hlen]; simp only [maxLen]; omega
          case c5 => rw [hlen]; omega
          intro a' c' w3 h6
          go_wp2
          rw [Exit.noGoto_ret]
          go_ret
          have h7 := Sat.back [_, _, _] h6
          have h8 := StA.mk (StM.next_eq (may := c) (wait := []) (told := true) hcut E2.out E3.out (by rw [F3.out, HF.out]; rfl)) (StM.next_ok hok) h7
          rw [StM.nextL_of hcut, ← E1.out, HF.out]
          exact ⟨_, rfl, h8.swap⟩
        · have HF := hid_ (show s.mid.finNow = false by simpa using hf)
          clear hf
          have h7 := Sat.re [2, 0, 3, 1] [_, _, _, _] h2
          have h8 := (StA.mk (StM.next_eq (may := c - 0) (wait := cur) (told := s.told) hcut (by omega) e3 (by rw [HF.out]; simp)) (StM.next_ok hok) h7).swap
          have hend := hid_ (show s.nextL = done.map (FrM.dataF s.id) by rw [StM.nextL_of hcut, ← e1, HF.out]; simp)
          have hfin := HF.out
          unfold StM.finNow at hfin
          rw [← e3, show s.mid.ended = s.ended from rfl, show s.mid.told = s.told from rfl] at hfin
          clear e1 e2 e3 h7
          by_cases hcz : cur.length = 0
          · obtain rfl : cur = [] := List.eq_nil_of_length_eq_zero hcz
            clear hcz
            cases he : s.ended
            all_goals cases ht : s.told
            all_goals first
              | (exfalso; rw [he, ht] at hfin; simp at hfin; done)
              | (rw [he] at c4; rw [ht] at c5; clear hfin he ht
                 go_wp2
                 (try rw [Exit.noGoto_ret])
                 go_ret
                 rw [hend.out]
                 exact ⟨_, rfl, h8⟩)
          · have hcb : ((cur.length : Int) == 0) = false := by rw [beq_eq_false_iff_ne]; omega
            clear hfin
            go_wp2
            (try rw [Exit.noGoto_ret])
            go_ret
            rw [hend.out]
            exact ⟨_, rfl, h8⟩
      · have h0b : (n == 0) = false := by simp [h0]
        obtain ⟨nn, rfl⟩ := Int.eq_ofNat_of_zero_le hb.1
        have hnn1 : nn ≤ cur.length := by omega
        have c0 : w2.cell? ⟨g, 0, none⟩ = some (.int .i64 s.id) := (Sat.front [_, _] h2).cell 0 rfl
        have c3 : w2.cell? ⟨g, 3, none⟩ = some (.slice a4 cur.length cap4) := (Sat.front [_, _] h2).cell 3 rfl
        have hB : Sat w0 w2 (OwnB 5 (.slice a4 cur.length cap4) cur :: _) := Sat.front [_, _, _] h2
        obtain ⟨b4, off4, cap4', he4, _, _, _, _⟩ := (OwnB.rd hB).at (i := 0) (by omega)
        injection he4 with he4 _ he5
        subst he4
        subst he5
        have hhd : ∀ wx, Below w2.heap.size w2 wx → RdB wx (.slice (some ⟨b4, off4, none⟩) nn cap4) (cur.take nn) := by
          intro wx hbx
          have hq := OwnB.rd (l := cur.take nn) (by
            have := OwnS.head (k := nn) hB hnn1
            rw [Nat.mul_one, bytesC_take] at this
            have hl : (cur.take nn).length = nn := by rw [List.length_take]; omega
            unfold OwnB
            rw [hl]
            exact this)
          exact hq.mono hbx
        have hn0' : (0 : Int) ≤ (nn : Int) := by omega
        have hn1' : (nn : Int) ≤ (cur.length : Int) := by omega
        have hn2' : (cur.length : Int) ≤ (cap4 : Int) := by omega
        have hn3' : (nn : Int) ≤ (cap4 : Int) := by omega
        have hlt : (cur.take nn).length = nn := by rw [List.length_take]; omega
        have hlen : (done.map (FrM.dataF s.id)).length = done.length := List.length_map _
        have hdn := hI.n
        have hc4 : (done.map (FrM.dataF s.id)).length + 1 ≤ maxLen := by rw [hlen]; simp only [maxLen]; omega
        have hc5 : ((done.map (FrM.dataF s.id)).length + 1) * 112 ≤ 140737488355328 := by rw [hlen]; omega
        obtain ⟨i0, hi, hz0, hz1, hz2⟩ := finfo
        clear hlen
        go_wp2_with fail
        go_region_held3 (fun w' => w'.cell? ⟨g, 0, none⟩ = some (.int .i64 s.id) ∧ w'.cell? ⟨g, 3, none⟩ = some (.slice (some ⟨b4, off4, none⟩) cur.length cap4))
          (first | exact ⟨c0, c3⟩ | exact ⟨(Sat.front [_, _, _] h3).cell 0 rfl, (Sat.front [_, _, _] h3).cell 3 rfl⟩ | exact ⟨(Sat.front [_, _, _] (h3.alloc_ _)).cell 0 rfl, (Sat.front [_, _, _] (h3.alloc_ _)).cell 3 rfl⟩ | exact ⟨(Sat.front [_, _] h6).cell 0 rfl, (Sat.front [_, _] h6).cell 3 rfl⟩)
          (first | (go_at_call 49; refine (clone_any _ (cur.take nn) (hhd _ ?hbl) (by simp; omega)).mono ?_; (case hbl => exact (Below.refl _ _).drew); rintro _ w3 ⟨a3, k3, rfl, h3⟩; replace h3 := h2.drew.trans h3; rw [hlt] at h3) | (refine step_append_one (w0 := w0) (e := 43) (sz := 9) (El := FrE) rfl _ _ 34 34 rfl Try.underlying34 hi hz0 hz1 hz2 rfl (FrM.dataF s.id (cur.take nn)) rfl ((Sat.re [1, 0] [_, _] (FrE.shut (f := FrM.dataF s.id (cur.take nn)) (OwnB.nilI (Sat.re [0, 2, 1, 3] [_, _, _, _] (h3.alloc_ _)))))) rfl (src_blk (t := 43) (cs := frC (FrM.dataF s.id (cur.take nn)) (.slice none 0 0) (.slice a3 nn k3)) Try.underlying34 (alloc_at rfl) rfl (frC_one _ rfl rfl)) hc4 hc5 ?_; intro a' c' w4 h6))
        have hst := hI.step Hn.out (by omega)
        rw [List.length_map] at h6
        have k3 : w4.cell? ⟨g, 3, none⟩ = some (.slice (some ⟨b4, off4, none⟩) cur.length cap4) := (Sat.front [_, _] h6).cell 3 rfl
        have f3 : w4.frozen? ⟨g, 3, none⟩ = false := (Sat.front [_, _] h6).frozen 3
        have hdl : (cur.drop nn).length = cur.length - nn := List.length_drop
        by_cases hcap : nn = cap4
        · subst hcap
          obtain hcn : cur.length = nn := by omega
          go_wp2_with fail
          go_roundg (cur.length - nn)
          case measure => omega
          case rel =>
            have h7 := (Sat.front [_, _] h6).set 3 (.slice (some ⟨b4, off4, none⟩) 0 0)
            have h8 := Sat.re [1, 2, 3, 0] [_, _, _, _] (OwnB.cutAll (Sat.front [_, _, _] h7) hcn)
            exact ⟨done ++ [cur.take nn], c - nn, cur.drop nn, _, hst, by omega, by rw [List.map_append]; exact Sat.re [1, 0, 2, 3] [_, _, _, _] h8⟩
        · have hcap' : nn < cap4 := by omega
          go_wp2_with fail
          go_roundg (cur.length - nn)
          case measure => omega
          case rel =>
            have h7 := (Sat.front [_, _] h6).set 3 (.slice (some ⟨b4, off4 + nn, none⟩) (cur.length - nn) (cap4 - nn))
            have h8 := Sat.re [1, 2, 3, 0] [_, _, _, _] (OwnB.cut (Sat.front [_, _, _] h7) hnn1)
            exact ⟨done ++ [cur.take nn], c - nn, cur.drop nn, _, hst, by omega, by rw [List.map_append]; exact Sat.re [1, 0, 2, 3] [_, _, _, _] h8⟩
  · have e1 : s.nextL = [] := by unfold StM.nextL; rw [hc]; simp
    have e2 : s.next = s := by unfold StM.next; rw [hc]; simp
    rw [e1, e2]
    rw [hc] at c7
    clear hc e1 e2
    go_enter Try.func22, Try.ntmps22
    go_wp2_with fail
    go_step3
    go_wp2
    rw [Exit.noGoto_ret]
    go_ret
    exact ⟨_, rfl, OwnL.nilI hs⟩
end
end Go.Proofs.Ytkejadhkebjdcaa
