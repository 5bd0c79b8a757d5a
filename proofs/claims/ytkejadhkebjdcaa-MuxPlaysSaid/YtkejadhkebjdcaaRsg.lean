/- The document's Stream: Got, walked case by case (printed by gen_rsg.py). -/
import Derived.Test.YtkejadhkebjdcaaRsn
namespace Go.Proofs.Ytkejadhkebjdcaa
open Go Go.RowKit
set_option linter.unusedVariables false
set_option linter.unusedSimpArgs false

/-- What the document's Got answers. -/
def RGotR (w0 : World) (L : List Assn) (g : Nat) (d : List UInt8) (l : List FrM) (k : Int) (s : StM) (e : Ending) (w' : World) : Prop :=
  ∃ vd vf, e = .returned (.tuple #[vd, vf, .int .i64 k]) ∧ Sat w0 w' (OwnB 5 vd d :: FramesA vf l :: RSt g s :: L)
section
variable {w0 w : World} {L : List Assn}
theorem rst_DoneV {g : Nat} {s : StM} {b : Bool} (hd : Hid (s.done = b)) (hs : Sat w0 w (RSt g s :: L)) :
    Calls Try.prog 55 #[.pointer (some ⟨g, 0, none⟩)] w fun e w' => e = .returned (.bool b) ∧ w = w' := by
  rw [← hd.out]
  exact rst_Done g s hs
theorem ref_MayV {f : FrM} {b : Bool} {x z : Option Addr} {c k : Nat} (hm : Hid (f.may = b)) (hr : RdV w f x z c k) :
    Calls Try.prog 59 #[frV f (.slice x f.addr.ip.length c) (.slice z f.data.length k)] w fun e w' => e = .returned (.bool b) ∧ Below w.heap.size w w' := by
  rw [← hm.out]
  exact ref_MayFrame f x z c k hr
theorem rcredit_GiveV {g : Nat} {n k : Int} {b : Bool} (hg : Hid (giveB n k = b)) (hs : Sat w0 w (RCredit g n :: L)) :
    Calls Try.prog 60 #[.pointer (some ⟨g, 0, none⟩), .int .i64 k] w fun e w' => e = .returned (.bool b) ∧ Sat w0 w' (RCredit g (giveC n k) :: L) := by
  rw [← hg.out]
  exact rcredit_Give g n k hs
theorem RCell0.of {g : Nat} {s : StM} (h : Sat w0 w (RSt g s :: L)) : w.cell? ⟨g, 0, none⟩ = some (.int .i64 s.id) := by
  obtain ⟨gc, v, _, h2⟩ := RSt.opn h
  exact h2.cell 0 rfl
set_option maxRecDepth 100000 in
set_option maxHeartbeats 2000000 in
theorem rst_Got_no (g : Nat) (s : StM) (f : FrM) (x z : Option Addr) (c k : Nat) (hr : RdV w f x z c k) (hh : s.hears f = false) (hs : Sat w0 w (RSt g s :: L)) :
    Calls Try.prog 37 #[.pointer (some ⟨g, 0, none⟩), frV f (.slice x f.addr.ip.length c) (.slice z f.data.length k)] w (RGotR w0 L g [] [] 0 s) := by
  have hA : ∀ o, Sat w0 (w.alloc o) (Blk w.heap.size o :: RSt g s :: L) := fun o => hs.alloc o
  have hB : ∀ o, Below w.heap.size w (w.alloc o) := fun o => (Below.refl _ _).alloc (Nat.le_refl _) o
  have hok := RSt.ok hs
  have hlt : g < w.heap.size := by
    obtain ⟨gc, v, _, h1⟩ := RSt.opn hs
    exact h1.lt
  have hne : w.heap.size ≠ g := by omega
  have hcase : s.done = true ∨ (s.done = false ∧ f.may = false) ∨ (s.done = false ∧ f.may = true ∧ (f.stream == s.id) = false) := by
    unfold StM.hears at hh
    revert hh
    cases s.done <;> cases (f.stream == s.id) <;> cases f.may <;> simp
  clear hh
  unfold frV
  rcases hcase with hd | ⟨hd, hm⟩ | ⟨hd, hm, hq⟩
  · have HD := hid_ hd
    clear hd
    go_enter Try.func37, Try.ntmps37
    go_wp2_with fail
    go_quiet ((go_at_call 55; exact quiet_same (rst_DoneV HD ((hA _).drop.drewN _))))
    go_wp2_with fail
    go_ret3
    exact ⟨_, _, rfl, OwnB.nilI (OwnL.nilI ((hA _).drop.drewN _))⟩
  · have HD := hid_ hd
    have HM := hid_ hm
    clear hd hm
    go_enter Try.func37, Try.ntmps37
    go_wp2_with fail
    have b0 := box9 (hs.alloc (.cells #[.int .i64 f.kind, .int .i64 f.stream, .int .i64 f.code, .int .i64 f.n, .int .i64 f.addr.kind, .slice x f.addr.ip.length c, .string f.addr.name, .int .i64 f.addr.port, .slice z f.data.length k] 43 (0, 0)))
    have b1 := RCell0.of (hA (.cells #[.int .i64 f.kind, .int .i64 f.stream, .int .i64 f.code, .int .i64 f.n, .int .i64 f.addr.kind, .slice x f.addr.ip.length c, .string f.addr.name, .int .i64 f.addr.port, .slice z f.data.length k] 43 (0, 0))).drop
    refine wp_region_held_drew (S := (fun w' => Box9 w' w.heap.size f (.slice x f.addr.ip.length c) (.slice z f.data.length k) ∧ w'.cell? ⟨g, 0, none⟩ = some (.int .i64 s.id))) (by kernel_rfl) ⟨b0, b1⟩ (fun hHeld => ?_)
    refine wpAnyH_take (i := 0) (oi := ⟨(some 8), _, _, _, _, _⟩) (v := ?va0) rfl (by kernel_rfl) (by kernel_rfl) (by kernel_rfl) (fun _ _ _ h => h) (Or.inl ⟨by rfl, ?ya0⟩) hHeld ?_
    case ya0 => intro W hW; (try dsimp only at hW); go_simp; try with_reducible rfl
    try simp only [Act.put, List.setIfInBounds_toArray, List.set_cons_zero, List.set_cons_succ]
    refine wpAnyH_ready (rs := [1]) (by kernel_rfl) (by simp) ?_
    refine AllReadyH.cons (o := ⟨some 9, _, _, _, _, _⟩) rfl (fun K hK => ?_) AllReadyH.nil
    go_simp
    go_at_call 55
    refine (rst_DoneV HD ((hA _).drop.drew)).mono ?_
    rintro _ w2 ⟨rfl, rfl⟩
    refine hK.out _ _ ⟨b0, b1⟩ (fun hHeld => ?_)
    clear hK K
    try simp only [Act.put, List.setIfInBounds_toArray, List.set_cons_zero, List.set_cons_succ]
    refine wpAnyH_take (i := 2) (oi := ⟨(some 10), _, _, _, _, _⟩) (v := ?vb2) rfl (by kernel_rfl) (by kernel_rfl) (by kernel_rfl) (fun _ _ _ h => h) (Or.inl ⟨by rfl, ?yb2⟩) hHeld ?_
    case yb2 => intro W hW; (try dsimp only at hW); go_simp; try with_reducible rfl
    try simp only [Act.put, List.setIfInBounds_toArray, List.set_cons_zero, List.set_cons_succ]
    refine wpAnyH_take (i := 3) (oi := ⟨(some 11), _, _, _, _, _⟩) (v := ?vb3) rfl (by kernel_rfl) (by kernel_rfl) (by kernel_rfl) (fun _ _ _ h => h) (Or.inl ⟨by rfl, ?yb3⟩) hHeld ?_
    case yb3 => intro W hW; (try dsimp only at hW); go_simp; try with_reducible rfl
    try simp only [Act.put, List.setIfInBounds_toArray, List.set_cons_zero, List.set_cons_succ]
    refine wpAnyH_ready (rs := [4]) (by kernel_rfl) (by simp) ?_
    refine AllReadyH.cons (o := ⟨some 12, _, _, _, _, _⟩) rfl (fun K hK => ?_) AllReadyH.nil
    go_simp
    go_at_call 59
    refine (ref_MayV HM (hr.mono ((hB _).drew))).mono ?_
    rintro _ w3 ⟨rfl, h3⟩
    have h4 := (hA _).drew.under h3
    refine hK.out _ _ ⟨box9 h4, RCell0.of h4.drop⟩ (fun hHeld => ?_)
    clear hK K
    try simp only [Act.put, List.setIfInBounds_toArray, List.set_cons_zero, List.set_cons_succ]
    refine wpAnyH_take (i := 5) (oi := ⟨(some 13), _, _, _, _, _⟩) (v := ?vc5) rfl (by kernel_rfl) (by kernel_rfl) (by kernel_rfl) (fun _ _ _ h => h) (Or.inl ⟨by rfl, ?yc5⟩) hHeld ?_
    case yc5 => intro W hW; (try dsimp only at hW); go_simp; try with_reducible rfl
    try simp only [Act.put, List.setIfInBounds_toArray, List.set_cons_zero, List.set_cons_succ]
    refine wpAnyH_take (i := 6) (oi := ⟨(some 14), _, _, _, _, _⟩) (v := ?vc6) rfl (by kernel_rfl) (by kernel_rfl) (by kernel_rfl) (fun _ _ _ h => h) (Or.inl ⟨by rfl, ?yc6⟩) hHeld ?_
    case yc6 => intro W hW; (try dsimp only at hW); go_simp; try with_reducible rfl
    try simp only [Act.put, List.setIfInBounds_toArray, List.set_cons_zero, List.set_cons_succ]
    refine wpAnyH_take (i := 7) (oi := ⟨(some 15), _, _, _, _, _⟩) (v := ?vc7) rfl (by kernel_rfl) (by kernel_rfl) (by kernel_rfl) (fun _ _ _ h => h) (Or.inl ⟨by rfl, ?yc7⟩) hHeld ?_
    case yc7 => intro W hW; (try dsimp only at hW); go_simp; try with_reducible rfl
    try simp only [Act.put, List.setIfInBounds_toArray, List.set_cons_zero, List.set_cons_succ]
    refine wpAnyH_take (i := 8) (oi := ⟨(some 16), _, _, _, _, _⟩) (v := undef) rfl (by kernel_rfl) (by kernel_rfl) (by kernel_rfl) (fun _ _ _ h => h) (Or.inr ⟨by rfl, rfl⟩) hHeld ?_
    try simp only [Act.put, List.setIfInBounds_toArray, List.set_cons_zero, List.set_cons_succ]
    refine wpAnyH_take (i := 9) (oi := ⟨(some 17), _, _, _, _, _⟩) (v := undef) rfl (by kernel_rfl) (by kernel_rfl) (by kernel_rfl) (fun _ _ _ h => h) (Or.inr ⟨by rfl, rfl⟩) hHeld ?_
    try simp only [Act.put, List.setIfInBounds_toArray, List.set_cons_zero, List.set_cons_succ]
    refine wpAnyH_take (i := 10) (oi := ⟨(some 18), _, _, _, _, _⟩) (v := undef) rfl (by kernel_rfl) (by kernel_rfl) (by kernel_rfl) (fun _ _ _ h => h) (Or.inr ⟨by rfl, rfl⟩) hHeld ?_
    try simp only [Act.put, List.setIfInBounds_toArray, List.set_cons_zero, List.set_cons_succ]
    refine wpAnyH_take (i := 11) (oi := ⟨(some 19), _, _, _, _, _⟩) (v := undef) rfl (by kernel_rfl) (by kernel_rfl) (by kernel_rfl) (fun _ _ _ h => h) (Or.inr ⟨by rfl, rfl⟩) hHeld ?_
    try simp only [Act.put, List.setIfInBounds_toArray, List.set_cons_zero, List.set_cons_succ]
    refine wpAnyH_take (i := 12) (oi := ⟨(some 20), _, _, _, _, _⟩) (v := undef) rfl (by kernel_rfl) (by kernel_rfl) (by kernel_rfl) (fun _ _ _ h => h) (Or.inr ⟨by rfl, rfl⟩) hHeld ?_
    try simp only [Act.put, List.setIfInBounds_toArray, List.set_cons_zero, List.set_cons_succ]
    refine wpAnyH_take (i := 13) (oi := ⟨(some 21), _, _, _, _, _⟩) (v := undef) rfl (by kernel_rfl) (by kernel_rfl) (by kernel_rfl) (fun _ _ _ h => h) (Or.inr ⟨by rfl, rfl⟩) hHeld ?_
    try simp only [Act.put, List.setIfInBounds_toArray, List.set_cons_zero, List.set_cons_succ]
    refine wpAnyH_take (i := 14) (oi := ⟨(some 22), _, _, _, _, _⟩) (v := undef) rfl (by kernel_rfl) (by kernel_rfl) (by kernel_rfl) (fun _ _ _ h => h) (Or.inr ⟨by rfl, rfl⟩) hHeld ?_
    try simp only [Act.put, List.setIfInBounds_toArray, List.set_cons_zero, List.set_cons_succ]
    refine wpAnyH_take (i := 15) (oi := ⟨(some 23), _, _, _, _, _⟩) (v := ?vd15) rfl (by kernel_rfl) (by kernel_rfl) (by kernel_rfl) (fun _ _ _ h => h) (Or.inl ⟨by rfl, ?yd15⟩) hHeld ?_
    case yd15 => intro W hW; (try dsimp only at hW); go_simp; try with_reducible rfl
    try simp only [Act.put, List.setIfInBounds_toArray, List.set_cons_zero, List.set_cons_succ]
    refine wpAnyH_done (by kernel_rfl) ?_ _
    go_wp2_with fail
    go_ret3
    exact ⟨_, _, rfl, OwnB.nilI (OwnL.nilI h4.drop)⟩
  · have HD := hid_ hd
    have HM := hid_ hm
    have hq' : (f.stream != s.id) = true := by unfold bne; rw [hq]; rfl
    clear hd hq hm
    go_enter Try.func37, Try.ntmps37
    go_wp2_with fail
    have b0 := box9 (hs.alloc (.cells #[.int .i64 f.kind, .int .i64 f.stream, .int .i64 f.code, .int .i64 f.n, .int .i64 f.addr.kind, .slice x f.addr.ip.length c, .string f.addr.name, .int .i64 f.addr.port, .slice z f.data.length k] 43 (0, 0)))
    have b1 := RCell0.of (hA (.cells #[.int .i64 f.kind, .int .i64 f.stream, .int .i64 f.code, .int .i64 f.n, .int .i64 f.addr.kind, .slice x f.addr.ip.length c, .string f.addr.name, .int .i64 f.addr.port, .slice z f.data.length k] 43 (0, 0))).drop
    go_region_held3 (fun w' => Box9 w' w.heap.size f (.slice x f.addr.ip.length c) (.slice z f.data.length k) ∧ w'.cell? ⟨g, 0, none⟩ = some (.int .i64 s.id))
      (first | exact ⟨b0, b1⟩ | exact ⟨box9 h4, RCell0.of h4.drop⟩)
      (first | (go_at_call 55; refine (rst_DoneV HD ((hA _).drop.drew)).mono ?_; rintro _ w3 ⟨rfl, rfl⟩) | (go_at_call 59; refine (ref_MayV HM (hr.mono ((hB _).drew))).mono ?_; rintro _ w3 ⟨rfl, h3⟩; have h4 := (hA _).drew.under h3))
    go_wp2_with fail
    go_ret3
    exact ⟨_, _, rfl, OwnB.nilI (OwnL.nilI h4.drop)⟩
set_option maxRecDepth 100000 in
set_option maxHeartbeats 2000000 in
theorem rst_Got_other (g : Nat) (s : StM) (f : FrM) (x z : Option Addr) (c k : Nat) (hr : RdV w f x z c k) (hh : s.hears f = true) (h3 : f.kind ≠ 3) (h4' : f.kind ≠ 4) (h5 : f.kind ≠ 5) (h6 : f.kind ≠ 6) (hs : Sat w0 w (RSt g s :: L)) :
    Calls Try.prog 37 #[.pointer (some ⟨g, 0, none⟩), frV f (.slice x f.addr.ip.length c) (.slice z f.data.length k)] w (RGotR w0 L g [] [] 0 s) := by
  have hA : ∀ o, Sat w0 (w.alloc o) (Blk w.heap.size o :: RSt g s :: L) := fun o => hs.alloc o
  have hB : ∀ o, Below w.heap.size w (w.alloc o) := fun o => (Below.refl _ _).alloc (Nat.le_refl _) o
  unfold StM.hears at hh
  simp only [Bool.and_eq_true, Bool.not_eq_true', beq_iff_eq] at hh
  obtain ⟨⟨hd, hq⟩, hm⟩ := hh
  have HD := hid_ hd
  have HM := hid_ hm
  have hq' : (f.stream != s.id) = false := by unfold bne; rw [hq]; simp
  have hok := RSt.ok hs
  have hlt : g < w.heap.size := by
    obtain ⟨gc, v, _, h1⟩ := RSt.opn hs
    exact h1.lt
  have hne : w.heap.size ≠ g := by omega
  clear hd hm
  have HQ := hid_ hq
  clear hq
  have k3 : (f.kind == 3) = false := by simp [h3]
  have k4 : (f.kind == 4) = false := by simp [h4']
  have k5 : (f.kind == 5) = false := by simp [h5]
  have k6 : (f.kind == 6) = false := by simp [h6]
  clear h3 h4' h5 h6
  unfold frV
  go_enter Try.func37, Try.ntmps37
  go_wp2_with fail
  have b0 := box9 (hs.alloc (.cells #[.int .i64 f.kind, .int .i64 f.stream, .int .i64 f.code, .int .i64 f.n, .int .i64 f.addr.kind, .slice x f.addr.ip.length c, .string f.addr.name, .int .i64 f.addr.port, .slice z f.data.length k] 43 (0, 0)))
  have b1 := RCell0.of (hA (.cells #[.int .i64 f.kind, .int .i64 f.stream, .int .i64 f.code, .int .i64 f.n, .int .i64 f.addr.kind, .slice x f.addr.ip.length c, .string f.addr.name, .int .i64 f.addr.port, .slice z f.data.length k] 43 (0, 0))).drop
  go_region_held3 (fun w' => Box9 w' w.heap.size f (.slice x f.addr.ip.length c) (.slice z f.data.length k) ∧ w'.cell? ⟨g, 0, none⟩ = some (.int .i64 s.id))
    (first | exact ⟨b0, b1⟩ | exact ⟨box9 h4, RCell0.of h4.drop⟩)
    (first | (go_at_call 55; refine (rst_DoneV HD ((hA _).drop.drew)).mono ?_; rintro _ w3 ⟨rfl, rfl⟩) | (go_at_call 59; refine (ref_MayV HM (hr.mono ((hB _).drew))).mono ?_; rintro _ w3 ⟨rfl, h3⟩; have h4 := (hA _).drew.under h3))
  obtain ⟨p0, p1, p2, p3, p4, p5, p6, p7, p8⟩ := box9 h4
  go_wp2_with fail
  go_ret3
  exact ⟨_, _, rfl, OwnB.nilI (OwnL.nilI h4.drop)⟩
set_option maxRecDepth 100000 in
set_option maxHeartbeats 2000000 in
theorem rst_Got_reset (g : Nat) (s : StM) (f : FrM) (x z : Option Addr) (c k : Nat) (hr : RdV w f x z c k) (hh : s.hears f = true) (h5 : f.kind = 5) (hs : Sat w0 w (RSt g s :: L)) :
    Calls Try.prog 37 #[.pointer (some ⟨g, 0, none⟩), frV f (.slice x f.addr.ip.length c) (.slice z f.data.length k)] w (RGotR w0 L g [] [] 2 s.reset) := by
  have hA : ∀ o, Sat w0 (w.alloc o) (Blk w.heap.size o :: RSt g s :: L) := fun o => hs.alloc o
  have hB : ∀ o, Below w.heap.size w (w.alloc o) := fun o => (Below.refl _ _).alloc (Nat.le_refl _) o
  unfold StM.hears at hh
  simp only [Bool.and_eq_true, Bool.not_eq_true', beq_iff_eq] at hh
  obtain ⟨⟨hd, hq⟩, hm⟩ := hh
  have HD := hid_ hd
  have HM := hid_ hm
  have hq' : (f.stream != s.id) = false := by unfold bne; rw [hq]; simp
  have hok := RSt.ok hs
  have hlt : g < w.heap.size := by
    obtain ⟨gc, v, _, h1⟩ := RSt.opn hs
    exact h1.lt
  have hne : w.heap.size ≠ g := by omega
  clear hd hm
  have HQ := hid_ hq
  clear hq
  have k3 : (f.kind == 3) = false := by simp [h5]
  have k4 : (f.kind == 4) = false := by simp [h5]
  have k6 : (f.kind == 6) = false := by simp [h5]
  have k5 : (f.kind == 5) = true := by simp [h5]
  clear h5
  unfold frV
  go_enter Try.func37, Try.ntmps37
  go_wp2_with fail
  have b0 := box9 (hs.alloc (.cells #[.int .i64 f.kind, .int .i64 f.stream, .int .i64 f.code, .int .i64 f.n, .int .i64 f.addr.kind, .slice x f.addr.ip.length c, .string f.addr.name, .int .i64 f.addr.port, .slice z f.data.length k] 43 (0, 0)))
  have b1 := RCell0.of (hA (.cells #[.int .i64 f.kind, .int .i64 f.stream, .int .i64 f.code, .int .i64 f.n, .int .i64 f.addr.kind, .slice x f.addr.ip.length c, .string f.addr.name, .int .i64 f.addr.port, .slice z f.data.length k] 43 (0, 0))).drop
  go_region_held3 (fun w' => Box9 w' w.heap.size f (.slice x f.addr.ip.length c) (.slice z f.data.length k) ∧ w'.cell? ⟨g, 0, none⟩ = some (.int .i64 s.id))
    (first | exact ⟨b0, b1⟩ | exact ⟨box9 h4, RCell0.of h4.drop⟩)
    (first | (go_at_call 55; refine (rst_DoneV HD ((hA _).drop.drew)).mono ?_; rintro _ w3 ⟨rfl, rfl⟩) | (go_at_call 59; refine (ref_MayV HM (hr.mono ((hB _).drew))).mono ?_; rintro _ w3 ⟨rfl, h3⟩; have h4 := (hA _).drew.under h3))
  obtain ⟨p0, p1, p2, p3, p4, p5, p6, p7, p8⟩ := box9 h4
  go_wp2_with fail
  refine (rst_reset g s 0 h4.drop).mono ?_
  rintro _ w5 ⟨rfl, h5⟩
  go_wp2_with fail
  go_ret3
  exact ⟨_, _, rfl, OwnB.nilI (OwnL.nilI h5)⟩
set_option maxRecDepth 100000 in
set_option maxHeartbeats 2000000 in
theorem rst_Got_fin_no (g : Nat) (s : StM) (f : FrM) (x z : Option Addr) (c k : Nat) (hr : RdV w f x z c k) (hh : s.hears f = true) (hk : f.kind = 4) (ho : s.over = true) (hs : Sat w0 w (RSt g s :: L)) :
    Calls Try.prog 37 #[.pointer (some ⟨g, 0, none⟩), frV f (.slice x f.addr.ip.length c) (.slice z f.data.length k)] w (RGotR w0 L g [] [FrM.resetF s.id 1] 2 s.reset) := by
  have hA : ∀ o, Sat w0 (w.alloc o) (Blk w.heap.size o :: RSt g s :: L) := fun o => hs.alloc o
  have hB : ∀ o, Below w.heap.size w (w.alloc o) := fun o => (Below.refl _ _).alloc (Nat.le_refl _) o
  unfold StM.hears at hh
  simp only [Bool.and_eq_true, Bool.not_eq_true', beq_iff_eq] at hh
  obtain ⟨⟨hd, hq⟩, hm⟩ := hh
  have HD := hid_ hd
  have HM := hid_ hm
  have hq' : (f.stream != s.id) = false := by unfold bne; rw [hq]; simp
  have hok := RSt.ok hs
  have hlt : g < w.heap.size := by
    obtain ⟨gc, v, _, h1⟩ := RSt.opn hs
    exact h1.lt
  have hne : w.heap.size ≠ g := by omega
  clear hd hm
  have HQ := hid_ hq
  clear hq
  have k3 : (f.kind == 3) = false := by simp [hk]
  have k4 : (f.kind == 4) = true := by simp [hk]
  clear hk
  unfold frV
  go_enter Try.func37, Try.ntmps37
  go_wp2_with fail
  have b0 := box9 (hs.alloc (.cells #[.int .i64 f.kind, .int .i64 f.stream, .int .i64 f.code, .int .i64 f.n, .int .i64 f.addr.kind, .slice x f.addr.ip.length c, .string f.addr.name, .int .i64 f.addr.port, .slice z f.data.length k] 43 (0, 0)))
  have b1 := RCell0.of (hA (.cells #[.int .i64 f.kind, .int .i64 f.stream, .int .i64 f.code, .int .i64 f.n, .int .i64 f.addr.kind, .slice x f.addr.ip.length c, .string f.addr.name, .int .i64 f.addr.port, .slice z f.data.length k] 43 (0, 0))).drop
  go_region_held3 (fun w' => Box9 w' w.heap.size f (.slice x f.addr.ip.length c) (.slice z f.data.length k) ∧ w'.cell? ⟨g, 0, none⟩ = some (.int .i64 s.id))
    (first | exact ⟨b0, b1⟩ | exact ⟨box9 h4, RCell0.of h4.drop⟩)
    (first | (go_at_call 55; refine (rst_DoneV HD ((hA _).drop.drew)).mono ?_; rintro _ w3 ⟨rfl, rfl⟩) | (go_at_call 59; refine (ref_MayV HM (hr.mono ((hB _).drew))).mono ?_; rintro _ w3 ⟨rfl, h3⟩; have h4 := (hA _).drew.under h3))
  obtain ⟨p0, p1, p2, p3, p4, p5, p6, p7, p8⟩ := box9 h4
  obtain ⟨gc, v, _, h1⟩ := RSt.opn h4.drop
  have q6 : w3.cell? ⟨g, 6, none⟩ = some (.bool true) := by
    rw [← ho]
    exact h1.cell 6 rfl
  have HO := hid_ ho
  have f6 := h1.frozen 6
  clear ho
  go_wp2_with fail
  have h7 := RSt.mk (s' := s) (by rw [← HO.out]) hok (h1.set 6 (.bool true))
  refine (rst_reset g s 1 h7).mono ?_
  rintro _ w5 ⟨rfl, h5⟩
  unfold frV
  go_wp2_with fail
  go_ret3
  exact ⟨_, _, rfl, OwnB.nilI (FramesA.one (f := FrM.resetF s.id 1) rfl rfl (h5.alloc _))⟩
set_option maxRecDepth 100000 in
set_option maxHeartbeats 2000000 in
theorem rst_Got_fin (g : Nat) (s : StM) (f : FrM) (x z : Option Addr) (c k : Nat) (hr : RdV w f x z c k) (hh : s.hears f = true) (hk : f.kind = 4) (ho : s.over = false) (hs : Sat w0 w (RSt g s :: L)) :
    Calls Try.prog 37 #[.pointer (some ⟨g, 0, none⟩), frV f (.slice x f.addr.ip.length c) (.slice z f.data.length k)] w (RGotR w0 L g [] [] 1 { s with over := true }) := by
  have hA : ∀ o, Sat w0 (w.alloc o) (Blk w.heap.size o :: RSt g s :: L) := fun o => hs.alloc o
  have hB : ∀ o, Below w.heap.size w (w.alloc o) := fun o => (Below.refl _ _).alloc (Nat.le_refl _) o
  unfold StM.hears at hh
  simp only [Bool.and_eq_true, Bool.not_eq_true', beq_iff_eq] at hh
  obtain ⟨⟨hd, hq⟩, hm⟩ := hh
  have HD := hid_ hd
  have HM := hid_ hm
  have hq' : (f.stream != s.id) = false := by unfold bne; rw [hq]; simp
  have hok := RSt.ok hs
  have hlt : g < w.heap.size := by
    obtain ⟨gc, v, _, h1⟩ := RSt.opn hs
    exact h1.lt
  have hne : w.heap.size ≠ g := by omega
  clear hd hm
  have HQ := hid_ hq
  clear hq
  have k3 : (f.kind == 3) = false := by simp [hk]
  have k4 : (f.kind == 4) = true := by simp [hk]
  clear hk
  unfold frV
  go_enter Try.func37, Try.ntmps37
  go_wp2_with fail
  have b0 := box9 (hs.alloc (.cells #[.int .i64 f.kind, .int .i64 f.stream, .int .i64 f.code, .int .i64 f.n, .int .i64 f.addr.kind, .slice x f.addr.ip.length c, .string f.addr.name, .int .i64 f.addr.port, .slice z f.data.length k] 43 (0, 0)))
  have b1 := RCell0.of (hA (.cells #[.int .i64 f.kind, .int .i64 f.stream, .int .i64 f.code, .int .i64 f.n, .int .i64 f.addr.kind, .slice x f.addr.ip.length c, .string f.addr.name, .int .i64 f.addr.port, .slice z f.data.length k] 43 (0, 0))).drop
  go_region_held3 (fun w' => Box9 w' w.heap.size f (.slice x f.addr.ip.length c) (.slice z f.data.length k) ∧ w'.cell? ⟨g, 0, none⟩ = some (.int .i64 s.id))
    (first | exact ⟨b0, b1⟩ | exact ⟨box9 h4, RCell0.of h4.drop⟩)
    (first | (go_at_call 55; refine (rst_DoneV HD ((hA _).drop.drew)).mono ?_; rintro _ w3 ⟨rfl, rfl⟩) | (go_at_call 59; refine (ref_MayV HM (hr.mono ((hB _).drew))).mono ?_; rintro _ w3 ⟨rfl, h3⟩; have h4 := (hA _).drew.under h3))
  obtain ⟨p0, p1, p2, p3, p4, p5, p6, p7, p8⟩ := box9 h4
  obtain ⟨gc, v, _, h1⟩ := RSt.opn h4.drop
  have q6 : w3.cell? ⟨g, 6, none⟩ = some (.bool false) := by
    rw [← ho]
    exact h1.cell 6 rfl
  have f6 := h1.frozen 6
  clear ho
  go_wp2_with fail
  go_ret3
  exact ⟨_, _, rfl, OwnB.nilI (OwnL.nilI (RSt.shut (s := { s with over := true }) hok (h1.set 6 (.bool true))))⟩
set_option maxRecDepth 100000 in
set_option maxHeartbeats 2000000 in
theorem rst_Got_give (g : Nat) (s : StM) (f : FrM) (x z : Option Addr) (c k : Nat) (hr : RdV w f x z c k) (hh : s.hears f = true) (hk : f.kind = 6) (hg : giveB s.may f.n = true) (hs : Sat w0 w (RSt g s :: L)) :
    Calls Try.prog 37 #[.pointer (some ⟨g, 0, none⟩), frV f (.slice x f.addr.ip.length c) (.slice z f.data.length k)] w (RGotR w0 L g [] [] 0 { s with may := giveC s.may f.n }) := by
  have hA : ∀ o, Sat w0 (w.alloc o) (Blk w.heap.size o :: RSt g s :: L) := fun o => hs.alloc o
  have hB : ∀ o, Below w.heap.size w (w.alloc o) := fun o => (Below.refl _ _).alloc (Nat.le_refl _) o
  unfold StM.hears at hh
  simp only [Bool.and_eq_true, Bool.not_eq_true', beq_iff_eq] at hh
  obtain ⟨⟨hd, hq⟩, hm⟩ := hh
  have HD := hid_ hd
  have HM := hid_ hm
  have hq' : (f.stream != s.id) = false := by unfold bne; rw [hq]; simp
  have hok := RSt.ok hs
  have hlt : g < w.heap.size := by
    obtain ⟨gc, v, _, h1⟩ := RSt.opn hs
    exact h1.lt
  have hne : w.heap.size ≠ g := by omega
  clear hd hm
  have HQ := hid_ hq
  clear hq
  have k3 : (f.kind == 3) = false := by simp [hk]
  have k4 : (f.kind == 4) = false := by simp [hk]
  have k6 : (f.kind == 6) = true := by simp [hk]
  clear hk
  unfold frV
  go_enter Try.func37, Try.ntmps37
  go_wp2_with fail
  have b0 := box9 (hs.alloc (.cells #[.int .i64 f.kind, .int .i64 f.stream, .int .i64 f.code, .int .i64 f.n, .int .i64 f.addr.kind, .slice x f.addr.ip.length c, .string f.addr.name, .int .i64 f.addr.port, .slice z f.data.length k] 43 (0, 0)))
  have b1 := RCell0.of (hA (.cells #[.int .i64 f.kind, .int .i64 f.stream, .int .i64 f.code, .int .i64 f.n, .int .i64 f.addr.kind, .slice x f.addr.ip.length c, .string f.addr.name, .int .i64 f.addr.port, .slice z f.data.length k] 43 (0, 0))).drop
  go_region_held3 (fun w' => Box9 w' w.heap.size f (.slice x f.addr.ip.length c) (.slice z f.data.length k) ∧ w'.cell? ⟨g, 0, none⟩ = some (.int .i64 s.id))
    (first | exact ⟨b0, b1⟩ | exact ⟨box9 h4, RCell0.of h4.drop⟩)
    (first | (go_at_call 55; refine (rst_DoneV HD ((hA _).drop.drew)).mono ?_; rintro _ w3 ⟨rfl, rfl⟩) | (go_at_call 59; refine (ref_MayV HM (hr.mono ((hB _).drew))).mono ?_; rintro _ w3 ⟨rfl, h3⟩; have h4 := (hA _).drew.under h3))
  obtain ⟨p0, p1, p2, p3, p4, p5, p6, p7, p8⟩ := box9 h4
  have HG := hid_ hg
  clear hg
  obtain ⟨gc, v, _, h1⟩ := RSt.opn h4.swap
  have q2 : w3.cell? ⟨g, 2, none⟩ = some (.pointer (some ⟨gc, 0, none⟩)) := h1.cell 2 rfl
  go_wp2_with fail
  go_region_held3 (fun w' => w'.cell? ⟨w.heap.size, 3, none⟩ = some (.int .i64 f.n) ∧ w'.cell? ⟨g, 2, none⟩ = some (.pointer (some ⟨gc, 0, none⟩)))
    (first | exact ⟨p3, q2⟩ | exact ⟨(Sat.front [_, _, _] h7).cell 3 rfl, (Sat.front [_] h7).cell 2 rfl⟩)
    (first | (go_at_call 60; refine (rcredit_GiveV HG (Sat.front [_] h1.drew)).mono ?_; rintro _ w7 ⟨rfl, h7⟩))
  obtain ⟨p0, p1, p2, p3, p4, p5, p6, p7, p8⟩ := box9 (Sat.front [_, _, _] h7)
  have h9 := RSt.mk (s' := { s with may := giveC s.may f.n }) rfl hok (Sat.re [1, 0, 2, 3] [_, _, _, _] h7)
  go_wp2_with fail
  go_ret3
  exact ⟨_, _, rfl, OwnB.nilI (OwnL.nilI h9.swap.drop)⟩
set_option maxRecDepth 100000 in
set_option maxHeartbeats 2000000 in
theorem rst_Got_give_no (g : Nat) (s : StM) (f : FrM) (x z : Option Addr) (c k : Nat) (hr : RdV w f x z c k) (hh : s.hears f = true) (hk : f.kind = 6) (hg : giveB s.may f.n = false) (hs : Sat w0 w (RSt g s :: L)) :
    Calls Try.prog 37 #[.pointer (some ⟨g, 0, none⟩), frV f (.slice x f.addr.ip.length c) (.slice z f.data.length k)] w (RGotR w0 L g [] [FrM.resetF s.id 1] 2 s.reset) := by
  have hA : ∀ o, Sat w0 (w.alloc o) (Blk w.heap.size o :: RSt g s :: L) := fun o => hs.alloc o
  have hB : ∀ o, Below w.heap.size w (w.alloc o) := fun o => (Below.refl _ _).alloc (Nat.le_refl _) o
  unfold StM.hears at hh
  simp only [Bool.and_eq_true, Bool.not_eq_true', beq_iff_eq] at hh
  obtain ⟨⟨hd, hq⟩, hm⟩ := hh
  have HD := hid_ hd
  have HM := hid_ hm
  have hq' : (f.stream != s.id) = false := by unfold bne; rw [hq]; simp
  have hok := RSt.ok hs
  have hlt : g < w.heap.size := by
    obtain ⟨gc, v, _, h1⟩ := RSt.opn hs
    exact h1.lt
  have hne : w.heap.size ≠ g := by omega
  clear hd hm
  have HQ := hid_ hq
  clear hq
  have k3 : (f.kind == 3) = false := by simp [hk]
  have k4 : (f.kind == 4) = false := by simp [hk]
  have k6 : (f.kind == 6) = true := by simp [hk]
  clear hk
  unfold frV
  go_enter Try.func37, Try.ntmps37
  go_wp2_with fail
  have b0 := box9 (hs.alloc (.cells #[.int .i64 f.kind, .int .i64 f.stream, .int .i64 f.code, .int .i64 f.n, .int .i64 f.addr.kind, .slice x f.addr.ip.length c, .string f.addr.name, .int .i64 f.addr.port, .slice z f.data.length k] 43 (0, 0)))
  have b1 := RCell0.of (hA (.cells #[.int .i64 f.kind, .int .i64 f.stream, .int .i64 f.code, .int .i64 f.n, .int .i64 f.addr.kind, .slice x f.addr.ip.length c, .string f.addr.name, .int .i64 f.addr.port, .slice z f.data.length k] 43 (0, 0))).drop
  go_region_held3 (fun w' => Box9 w' w.heap.size f (.slice x f.addr.ip.length c) (.slice z f.data.length k) ∧ w'.cell? ⟨g, 0, none⟩ = some (.int .i64 s.id))
    (first | exact ⟨b0, b1⟩ | exact ⟨box9 h4, RCell0.of h4.drop⟩)
    (first | (go_at_call 55; refine (rst_DoneV HD ((hA _).drop.drew)).mono ?_; rintro _ w3 ⟨rfl, rfl⟩) | (go_at_call 59; refine (ref_MayV HM (hr.mono ((hB _).drew))).mono ?_; rintro _ w3 ⟨rfl, h3⟩; have h4 := (hA _).drew.under h3))
  obtain ⟨p0, p1, p2, p3, p4, p5, p6, p7, p8⟩ := box9 h4
  have HG := hid_ hg
  clear hg
  obtain ⟨gc, v, _, h1⟩ := RSt.opn h4.swap
  have q2 : w3.cell? ⟨g, 2, none⟩ = some (.pointer (some ⟨gc, 0, none⟩)) := h1.cell 2 rfl
  go_wp2_with fail
  go_region_held3 (fun w' => w'.cell? ⟨w.heap.size, 3, none⟩ = some (.int .i64 f.n) ∧ w'.cell? ⟨g, 2, none⟩ = some (.pointer (some ⟨gc, 0, none⟩)))
    (first | exact ⟨p3, q2⟩ | exact ⟨(Sat.front [_, _, _] h7).cell 3 rfl, (Sat.front [_] h7).cell 2 rfl⟩)
    (first | (go_at_call 60; refine (rcredit_GiveV HG (Sat.front [_] h1.drew)).mono ?_; rintro _ w7 ⟨rfl, h7⟩))
  have hgc : giveC s.may f.n = s.may := by unfold giveC; rw [HG.out]; simp
  rw [hgc] at h7
  have h9 := RSt.mk (s' := s) rfl hok (Sat.re [1, 0, 2, 3] [_, _, _, _] h7)
  go_wp2_with fail
  refine (rst_reset g s 1 h9.swap.drop).mono ?_
  rintro _ w5 ⟨rfl, h5⟩
  unfold frV
  go_wp2_with fail
  go_ret3
  exact ⟨_, _, rfl, OwnB.nilI (FramesA.one (f := FrM.resetF s.id 1) rfl rfl (h5.alloc _))⟩
set_option maxRecDepth 100000 in
set_option maxHeartbeats 2000000 in
theorem rst_Got_data_over (g : Nat) (s : StM) (f : FrM) (x z : Option Addr) (c k : Nat) (hr : RdV w f x z c k) (hh : s.hears f = true) (hk : f.kind = 3) (ho : s.over = true) (hs : Sat w0 w (RSt g s :: L)) :
    Calls Try.prog 37 #[.pointer (some ⟨g, 0, none⟩), frV f (.slice x f.addr.ip.length c) (.slice z f.data.length k)] w (RGotR w0 L g [] [FrM.resetF s.id 1] 2 s.reset) := by
  have hA : ∀ o, Sat w0 (w.alloc o) (Blk w.heap.size o :: RSt g s :: L) := fun o => hs.alloc o
  have hB : ∀ o, Below w.heap.size w (w.alloc o) := fun o => (Below.refl _ _).alloc (Nat.le_refl _) o
  unfold StM.hears at hh
  simp only [Bool.and_eq_true, Bool.not_eq_true', beq_iff_eq] at hh
  obtain ⟨⟨hd, hq⟩, hm⟩ := hh
  have HD := hid_ hd
  have HM := hid_ hm
  have hq' : (f.stream != s.id) = false := by unfold bne; rw [hq]; simp
  have hok := RSt.ok hs
  have hlt : g < w.heap.size := by
    obtain ⟨gc, v, _, h1⟩ := RSt.opn hs
    exact h1.lt
  have hne : w.heap.size ≠ g := by omega
  clear hd hm
  have HQ := hid_ hq
  clear hq
  have k3 : (f.kind == 3) = true := by simp [hk]
  clear hk
  unfold frV
  go_enter Try.func37, Try.ntmps37
  go_wp2_with fail
  have b0 := box9 (hs.alloc (.cells #[.int .i64 f.kind, .int .i64 f.stream, .int .i64 f.code, .int .i64 f.n, .int .i64 f.addr.kind, .slice x f.addr.ip.length c, .string f.addr.name, .int .i64 f.addr.port, .slice z f.data.length k] 43 (0, 0)))
  have b1 := RCell0.of (hA (.cells #[.int .i64 f.kind, .int .i64 f.stream, .int .i64 f.code, .int .i64 f.n, .int .i64 f.addr.kind, .slice x f.addr.ip.length c, .string f.addr.name, .int .i64 f.addr.port, .slice z f.data.length k] 43 (0, 0))).drop
  go_region_held3 (fun w' => Box9 w' w.heap.size f (.slice x f.addr.ip.length c) (.slice z f.data.length k) ∧ w'.cell? ⟨g, 0, none⟩ = some (.int .i64 s.id))
    (first | exact ⟨b0, b1⟩ | exact ⟨box9 h4, RCell0.of h4.drop⟩)
    (first | (go_at_call 55; refine (rst_DoneV HD ((hA _).drop.drew)).mono ?_; rintro _ w3 ⟨rfl, rfl⟩) | (go_at_call 59; refine (ref_MayV HM (hr.mono ((hB _).drew))).mono ?_; rintro _ w3 ⟨rfl, h3⟩; have h4 := (hA _).drew.under h3))
  obtain ⟨p0, p1, p2, p3, p4, p5, p6, p7, p8⟩ := box9 h4
  obtain ⟨gc, v, _, h1⟩ := RSt.opn h4.drop
  have q6 : w3.cell? ⟨g, 6, none⟩ = some (.bool true) := by
    rw [← ho]
    exact h1.cell 6 rfl
  have q1 : w3.cell? ⟨g, 1, none⟩ = some (.int .i64 s.others) := h1.cell 1 rfl
  clear ho
  go_wp2_with fail
  go_quiet (fail)
  go_wp2_with fail
  refine (rst_reset g s 1 (h4.drop.drewN _)).mono ?_
  rintro _ w5 ⟨rfl, h5⟩
  unfold frV
  go_wp2_with fail
  go_ret3
  exact ⟨_, _, rfl, OwnB.nilI (FramesA.one (f := FrM.resetF s.id 1) rfl rfl (h5.alloc _))⟩
set_option maxRecDepth 100000 in
set_option maxHeartbeats 2000000 in
theorem rst_Got_data_long (g : Nat) (s : StM) (f : FrM) (x z : Option Addr) (c k : Nat) (hr : RdV w f x z c k) (hh : s.hears f = true) (hk : f.kind = 3) (ho : s.over = false) (hl : decide ((f.data.length : Int) ≤ s.others) = false) (hs : Sat w0 w (RSt g s :: L)) :
    Calls Try.prog 37 #[.pointer (some ⟨g, 0, none⟩), frV f (.slice x f.addr.ip.length c) (.slice z f.data.length k)] w (RGotR w0 L g [] [FrM.resetF s.id 1] 2 s.reset) := by
  have hA : ∀ o, Sat w0 (w.alloc o) (Blk w.heap.size o :: RSt g s :: L) := fun o => hs.alloc o
  have hB : ∀ o, Below w.heap.size w (w.alloc o) := fun o => (Below.refl _ _).alloc (Nat.le_refl _) o
  unfold StM.hears at hh
  simp only [Bool.and_eq_true, Bool.not_eq_true', beq_iff_eq] at hh
  obtain ⟨⟨hd, hq⟩, hm⟩ := hh
  have HD := hid_ hd
  have HM := hid_ hm
  have hq' : (f.stream != s.id) = false := by unfold bne; rw [hq]; simp
  have hok := RSt.ok hs
  have hlt : g < w.heap.size := by
    obtain ⟨gc, v, _, h1⟩ := RSt.opn hs
    exact h1.lt
  have hne : w.heap.size ≠ g := by omega
  clear hd hm
  have HQ := hid_ hq
  clear hq
  have k3 : (f.kind == 3) = true := by simp [hk]
  clear hk
  unfold frV
  go_enter Try.func37, Try.ntmps37
  go_wp2_with fail
  have b0 := box9 (hs.alloc (.cells #[.int .i64 f.kind, .int .i64 f.stream, .int .i64 f.code, .int .i64 f.n, .int .i64 f.addr.kind, .slice x f.addr.ip.length c, .string f.addr.name, .int .i64 f.addr.port, .slice z f.data.length k] 43 (0, 0)))
  have b1 := RCell0.of (hA (.cells #[.int .i64 f.kind, .int .i64 f.stream, .int .i64 f.code, .int .i64 f.n, .int .i64 f.addr.kind, .slice x f.addr.ip.length c, .string f.addr.name, .int .i64 f.addr.port, .slice z f.data.length k] 43 (0, 0))).drop
  go_region_held3 (fun w' => Box9 w' w.heap.size f (.slice x f.addr.ip.length c) (.slice z f.data.length k) ∧ w'.cell? ⟨g, 0, none⟩ = some (.int .i64 s.id))
    (first | exact ⟨b0, b1⟩ | exact ⟨box9 h4, RCell0.of h4.drop⟩)
    (first | (go_at_call 55; refine (rst_DoneV HD ((hA _).drop.drew)).mono ?_; rintro _ w3 ⟨rfl, rfl⟩) | (go_at_call 59; refine (ref_MayV HM (hr.mono ((hB _).drew))).mono ?_; rintro _ w3 ⟨rfl, h3⟩; have h4 := (hA _).drew.under h3))
  obtain ⟨p0, p1, p2, p3, p4, p5, p6, p7, p8⟩ := box9 h4
  obtain ⟨gc, v, _, h1⟩ := RSt.opn h4.drop
  have q6 : w3.cell? ⟨g, 6, none⟩ = some (.bool false) := by
    rw [← ho]
    exact h1.cell 6 rfl
  have q1 : w3.cell? ⟨g, 1, none⟩ = some (.int .i64 s.others) := h1.cell 1 rfl
  clear ho
  go_wp2_with fail
  go_quiet (fail)
  go_wp2_with fail
  refine (rst_reset g s 1 (h4.drop.drewN _)).mono ?_
  rintro _ w5 ⟨rfl, h5⟩
  unfold frV
  go_wp2_with fail
  go_ret3
  exact ⟨_, _, rfl, OwnB.nilI (FramesA.one (f := FrM.resetF s.id 1) rfl rfl (h5.alloc _))⟩
set_option maxRecDepth 100000 in
set_option maxHeartbeats 2000000 in
theorem rst_Got_data (g : Nat) (s : StM) (f : FrM) (x z : Option Addr) (c k : Nat) (hr : RdV w f x z c k) (hh : s.hears f = true) (hk : f.kind = 3) (ho : s.over = false) (hl : decide ((f.data.length : Int) ≤ s.others) = true) (hs : Sat w0 w (RSt g s :: L)) :
    Calls Try.prog 37 #[.pointer (some ⟨g, 0, none⟩), frV f (.slice x f.addr.ip.length c) (.slice z f.data.length k)] w (RGotR w0 L g f.data [FrM.winF s.id f.data.length] 0 s) := by
  have hA : ∀ o, Sat w0 (w.alloc o) (Blk w.heap.size o :: RSt g s :: L) := fun o => hs.alloc o
  have hB : ∀ o, Below w.heap.size w (w.alloc o) := fun o => (Below.refl _ _).alloc (Nat.le_refl _) o
  unfold StM.hears at hh
  simp only [Bool.and_eq_true, Bool.not_eq_true', beq_iff_eq] at hh
  obtain ⟨⟨hd, hq⟩, hm⟩ := hh
  have HD := hid_ hd
  have HM := hid_ hm
  have hq' : (f.stream != s.id) = false := by unfold bne; rw [hq]; simp
  have hok := RSt.ok hs
  have hlt : g < w.heap.size := by
    obtain ⟨gc, v, _, h1⟩ := RSt.opn hs
    exact h1.lt
  have hne : w.heap.size ≠ g := by omega
  clear hd hm
  have HQ := hid_ hq
  clear hq
  have k3 : (f.kind == 3) = true := by simp [hk]
  clear hk
  unfold frV
  go_enter Try.func37, Try.ntmps37
  go_wp2_with fail
  have b0 := box9 (hs.alloc (.cells #[.int .i64 f.kind, .int .i64 f.stream, .int .i64 f.code, .int .i64 f.n, .int .i64 f.addr.kind, .slice x f.addr.ip.length c, .string f.addr.name, .int .i64 f.addr.port, .slice z f.data.length k] 43 (0, 0)))
  have b1 := RCell0.of (hA (.cells #[.int .i64 f.kind, .int .i64 f.stream, .int .i64 f.code, .int .i64 f.n, .int .i64 f.addr.kind, .slice x f.addr.ip.length c, .string f.addr.name, .int .i64 f.addr.port, .slice z f.data.length k] 43 (0, 0))).drop
  go_region_held3 (fun w' => Box9 w' w.heap.size f (.slice x f.addr.ip.length c) (.slice z f.data.length k) ∧ w'.cell? ⟨g, 0, none⟩ = some (.int .i64 s.id))
    (first | exact ⟨b0, b1⟩ | exact ⟨box9 h4, RCell0.of h4.drop⟩)
    (first | (go_at_call 55; refine (rst_DoneV HD ((hA _).drop.drew)).mono ?_; rintro _ w3 ⟨rfl, rfl⟩) | (go_at_call 59; refine (ref_MayV HM (hr.mono ((hB _).drew))).mono ?_; rintro _ w3 ⟨rfl, h3⟩; have h4 := (hA _).drew.under h3))
  obtain ⟨p0, p1, p2, p3, p4, p5, p6, p7, p8⟩ := box9 h4
  obtain ⟨gc, v, _, h1⟩ := RSt.opn h4.drop
  have q0 : w3.cell? ⟨g, 0, none⟩ = some (.int .i64 s.id) := h1.cell 0 rfl
  have hlen : f.data.length ≤ 1000000 := by
    simp only [decide_eq_true_eq] at hl
    have := hok.2.2.2.1
    omega
  have q6 : w3.cell? ⟨g, 6, none⟩ = some (.bool false) := by
    rw [← ho]
    exact h1.cell 6 rfl
  have q1 : w3.cell? ⟨g, 1, none⟩ = some (.int .i64 s.others) := h1.cell 1 rfl
  clear ho
  go_wp2_with fail
  go_quiet (fail)
  go_wp2_with fail
  have hb3 := (((Sat.refl w).alloc _).drew.under h3).below
  have hcl : ∀ wx, Below w3.heap.size w3 wx → RdB wx (.slice z f.data.length k) f.data := fun wx hx => (hr.data.mono hb3).mono (hx.mono (by exact Nat.le_refl _))
  go_region_held3 (fun w' => w'.cell? ⟨w.heap.size, 8, none⟩ = some (.slice z f.data.length k) ∧ w'.cell? ⟨g, 0, none⟩ = some (.int .i64 s.id))
    (first | exact ⟨p8, q0⟩ | exact ⟨h5.drop.cell 8 rfl, RCell0.of h5.drop.drop⟩ | exact ⟨(h5.alloc_ _).drop.cell 8 rfl, RCell0.of (h5.alloc_ _).drop.drop⟩ | exact ⟨((h4.drewN _).drew.alloc_ _).cell 8 rfl, RCell0.of ((h4.drewN _).drew.alloc_ _).drop⟩ | exact ⟨h6.drop.drop.cell 8 rfl, RCell0.of h6.drop.drop.drop⟩)
    ((first | (refine step_append_b (w0 := w0) (p := []) (q := f.data) rfl _ _ 37 rfl rfl (OwnB.nilI (h4.drewN _).drew) rfl (slSrc (hcl _ (((Sat.refl w3).drewN _).drew).below)) f.data f.data.length rfl rfl (by omega) ?_; intro a5 k5 w5 h5) | (refine step_append_b (w0 := w0) (p := []) (q := f.data) rfl _ _ 37 rfl rfl (OwnB.nilI ((h4.drewN _).drew.alloc _)) rfl (slSrc (hcl _ (((Sat.refl w3).drewN _).drew.alloc_ _).below)) f.data f.data.length rfl rfl (by omega) ?_; intro a5 k5 w5 h6)))
  · go_wp2_with fail
    go_ret3
    exact ⟨_, _, rfl, (Sat.re [2, 1, 0] [_, _, _] (FramesA.one (f := FrM.winF s.id f.data.length) rfl rfl (h5.alloc _))).drop⟩
  · go_wp2_with fail
    go_ret3
    exact ⟨_, _, rfl, (Sat.re [2, 1, 0] [_, _, _] (FramesA.one (f := FrM.winF s.id f.data.length) rfl rfl h6.swap)).drop⟩
/-- Got of any frame. -/
theorem rst_Got (g : Nat) (s : StM) (f : FrM) (x z : Option Addr) (c k : Nat) (hr : RdV w f x z c k) (hs : Sat w0 w (RSt g s :: L)) :
    Calls Try.prog 37 #[.pointer (some ⟨g, 0, none⟩), frV f (.slice x f.addr.ip.length c) (.slice z f.data.length k)] w (RGotR w0 L g (s.gotD f) (s.gotL f) (s.gotK f) (s.got f)) := by
  unfold StM.gotD StM.gotL StM.gotK StM.got StM.heard
  cases hh : s.hears f
  · exact rst_Got_no g s f x z c k hr hh hs
  · by_cases h3 : f.kind = 3
    · cases ho : s.over
      · cases hl : decide (s.others < (f.data.length : Int))
        · have hw : s.wrong f = false := by unfold StM.wrong; rw [ho, hl]; simp [h3]
          rw [hw]
          simp only [h3]
          exact rst_Got_data g s f x z c k hr hh h3 ho (by simpa using hl) hs
        · have hw : s.wrong f = true := by unfold StM.wrong; rw [ho, hl]; simp [h3]
          rw [hw]
          simp only [h3]
          exact rst_Got_data_long g s f x z c k hr hh h3 ho (by simpa using hl) hs
      · have hw : s.wrong f = true := by unfold StM.wrong; rw [ho]; simp [h3]
        rw [hw]
        simp only [h3]
        exact rst_Got_data_over g s f x z c k hr hh h3 ho hs
    · by_cases h4 : f.kind = 4
      · cases ho : s.over
        · have hw : s.wrong f = false := by unfold StM.wrong; rw [ho]; simp [h4]
          rw [hw]
          simp only [h4]
          exact rst_Got_fin g s f x z c k hr hh h4 ho hs
        · have hw : s.wrong f = true := by unfold StM.wrong; rw [ho]; simp [h4]
          rw [hw]
          simp only [h4]
          exact rst_Got_fin_no g s f x z c k hr hh h4 ho hs
      · by_cases h6 : f.kind = 6
        · cases hg : giveB s.may f.n
          · have hw : s.wrong f = true := by unfold StM.wrong; rw [hg]; simp [h6]
            rw [hw]
            simp only [h6]
            exact rst_Got_give_no g s f x z c k hr hh h6 hg hs
          · have hw : s.wrong f = false := by unfold StM.wrong; rw [hg]; simp [h6]
            rw [hw]
            simp only [h6]
            exact rst_Got_give g s f x z c k hr hh h6 hg hs
        · have hw : s.wrong f = false := by unfold StM.wrong; simp [h3, h4, h6]
          by_cases h5 : f.kind = 5
          · rw [hw]
            simp only [h5]
            exact rst_Got_reset g s f x z c k hr hh h5 hs
          · rw [hw]
            simp only [h3, h4, h5, h6, if_false]
            have := rst_Got_other g s f x z c k hr hh h3 h4 h5 h6 hs
            simpa [h3] using this

end
end Go.Proofs.Ytkejadhkebjdcaa
