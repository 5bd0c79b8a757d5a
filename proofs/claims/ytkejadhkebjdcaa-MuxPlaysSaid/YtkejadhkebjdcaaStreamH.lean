/- What a frame means to a stream: Got, walked. -/
import Derived.Test.YtkejadhkebjdcaaStreamG
namespace Go.Proofs.Ytkejadhkebjdcaa
open Go Go.RowKit
set_option linter.unusedVariables false
set_option linter.unusedSimpArgs false

def StM.hears (s : StM) (f : FrM) : Bool := !s.done && f.stream == s.id && f.may
/-- What is heard is against the rules. -/
def StM.wrong (s : StM) (f : FrM) : Bool :=
  if f.kind = 3 then s.over || decide (s.others < f.data.length) else if f.kind = 4 then s.over else if f.kind = 6 then !giveB s.may f.n else false
def StM.heard (s : StM) (f : FrM) : StM :=
  if s.wrong f then s.reset else if f.kind = 4 then { s with over := true } else if f.kind = 6 then { s with may := giveC s.may f.n } else if f.kind = 5 then s.reset else s
def StM.got (s : StM) (f : FrM) : StM := if s.hears f then s.heard f else s
def StM.gotD (s : StM) (f : FrM) : List UInt8 := if s.hears f && f.kind == 3 && !s.wrong f then f.data else []
def FrM.winF (id n : Int) : FrM := { FrM.of 6 id with n := n }
def StM.gotL (s : StM) (f : FrM) : List FrM := if s.hears f then if s.wrong f then [FrM.resetF s.id 1] else if f.kind = 3 then [FrM.winF s.id f.data.length] else [] else []
def StM.gotK (s : StM) (f : FrM) : Int := if s.hears f then if s.wrong f then 2 else if f.kind = 4 then 1 else if f.kind = 5 then 2 else 0 else 0

/-- What Got answers. -/
def GotR (w0 : World) (L : List Assn) (g : Nat) (d : List UInt8) (l : List FrM) (k : Int) (s : StM) (e : Ending) (w' : World) : Prop :=
  ∃ vd vf, e = .returned (.tuple #[vd, vf, .int .i64 k]) ∧ Sat w0 w' (OwnB 5 vd d :: FramesA vf l :: StA g s :: L)

section
variable {w0 w : World} {L : List Assn}
theorem stream_DoneV {g : Nat} {s : StM} {b : Bool} (hd : Hid (s.done = b)) (hs : Sat w0 w (StA g s :: L)) :
    Calls Try.prog 44 #[.pointer (some ⟨g, 0, none⟩)] w fun e w' => e = .returned (.bool b) ∧ w = w' := by
  rw [← hd.out]
  exact stream_Done g s hs

theorem frame_MayV {f : FrM} {b : Bool} {x z : Option Addr} {c k : Nat} (hm : Hid (f.may = b)) (hr : RdV w f x z c k) :
    Calls Try.prog 39 #[frV f (.slice x f.addr.ip.length c) (.slice z f.data.length k)] w fun e w' => e = .returned (.bool b) ∧ Below w.heap.size w w' := by
  rw [← hm.out]
  exact frame_May f x z c k hr

/-- The nine cells of a frame in a box. -/
abbrev Box9 (w : World) (b : Nat) (f : FrM) (ip d : Value) : Prop :=
  w.cell? ⟨b, 0, none⟩ = some (.int .i64 f.kind) ∧ w.cell? ⟨b, 1, none⟩ = some (.int .i64 f.stream) ∧ w.cell? ⟨b, 2, none⟩ = some (.int .i64 f.code) ∧ w.cell? ⟨b, 3, none⟩ = some (.int .i64 f.n) ∧
  w.cell? ⟨b, 4, none⟩ = some (.int .i64 f.addr.kind) ∧ w.cell? ⟨b, 5, none⟩ = some ip ∧ w.cell? ⟨b, 6, none⟩ = some (.string f.addr.name) ∧ w.cell? ⟨b, 7, none⟩ = some (.int .i64 f.addr.port) ∧ w.cell? ⟨b, 8, none⟩ = some d
theorem box9 {b : Nat} {t : TypeId} {f : FrM} {ip d : Value} (h : Sat w0 w (Blk b (.cells #[.int .i64 f.kind, .int .i64 f.stream, .int .i64 f.code, .int .i64 f.n, .int .i64 f.addr.kind, ip, .string f.addr.name, .int .i64 f.addr.port, d] t (0, 0)) :: L)) : Box9 w b f ip d :=
  ⟨h.cell 0 rfl, h.cell 1 rfl, h.cell 2 rfl, h.cell 3 rfl, h.cell 4 rfl, h.cell 5 rfl, h.cell 6 rfl, h.cell 7 rfl, h.cell 8 rfl⟩
theorem Cell0.of {g : Nat} {s : StM} (h : Sat w0 w (StA g s :: L)) : w.cell? ⟨g, 0, none⟩ = some (.int .i64 s.id) := by
  obtain ⟨gc, v, _, h2⟩ := StA.opn h
  exact h2.cell 0 rfl

set_option maxRecDepth 100000 in
set_option maxHeartbeats 2000000 in
theorem stream_Got_no (g : Nat) (s : StM) (f : FrM) (x z : Option Addr) (c k : Nat) (hr : RdV w f x z c k) (hh : s.hears f = false) (hs : Sat w0 w (StA g s :: L)) :
    Calls Try.prog 36 #[.pointer (some ⟨g, 0, none⟩), frV f (.slice x f.addr.ip.length c) (.slice z f.data.length k)] w fun e w' => ∃ vd vf, e = .returned (.tuple #[vd, vf, .int .i64 0]) ∧ Sat w0 w' (OwnB 5 vd [] :: FramesA vf [] :: StA g s :: L) := by
  obtain ⟨gc, v, hok, h1⟩ := StA.opn hs
  have c0 : w.cell? ⟨g, 0, none⟩ = some (.int .i64 s.id) := h1.cell 0 rfl
  have hA : ∀ o, Sat w0 (w.alloc o) (Blk w.heap.size o :: StA g s :: L) := fun o => hs.alloc o
  have hB : ∀ o, Below w.heap.size w (w.alloc o) := fun o => (Below.refl _ _).alloc (Nat.le_refl _) o
  have hcase : s.done = true ∨ (s.done = false ∧ (f.stream == s.id) = false) ∨ (s.done = false ∧ (f.stream == s.id) = true ∧ f.may = false) := by
    unfold StM.hears at hh
    revert hh
    cases s.done <;> cases (f.stream == s.id) <;> cases f.may <;> simp
  clear hh
  unfold frV
  rcases hcase with hd | ⟨hd, hq⟩ | ⟨hd, hq, hm⟩
  · have HD := hid_ hd
    have hlt : g < w.heap.size := h1.lt
    have hne : w.heap.size ≠ g := by omega
    clear hd h1
    go_enter Try.func36, Try.ntmps36
    go_wp2_with fail
    have hG : w.cell? ⟨g, 0, none⟩ = some (.int .i64 s.id) := c0
    go_quiet ((go_at_call 44; exact quiet_same (stream_DoneV HD ((hA _).drop.drewN _))))
    go_wp2_with fail
    go_ret3
    exact ⟨_, _, rfl, OwnB.nilI (OwnL.nilI ((hA _).drop.drewN _))⟩
  · have HD := hid_ hd
    have hlt : g < w.heap.size := h1.lt
    have hne : w.heap.size ≠ g := by omega
    have hq' : (f.stream != s.id) = true := by unfold bne; rw [hq]; rfl
    clear hd h1 hq
    go_enter Try.func36, Try.ntmps36
    go_wp2_with fail
    go_quiet ((go_at_call 44; exact quiet_same (stream_DoneV HD ((hA _).drop.drewN _))))
    go_wp2_with fail
    go_ret3
    exact ⟨_, _, rfl, OwnB.nilI (OwnL.nilI ((hA _).drop.drewN _))⟩
  · have HD := hid_ hd
    have HM := hid_ hm
    have hq' : (f.stream != s.id) = false := by unfold bne; rw [hq]; rfl
    have hlt : g < w.heap.size := h1.lt
    have hne : w.heap.size ≠ g := by omega
    clear hd h1 hq hm
    go_enter Try.func36, Try.ntmps36
    go_wp2_with fail
    have b0 := box9 (hs.alloc (.cells #[.int .i64 f.kind, .int .i64 f.stream, .int .i64 f.code, .int .i64 f.n, .int .i64 f.addr.kind, .slice x f.addr.ip.length c, .string f.addr.name, .int .i64 f.addr.port, .slice z f.data.length k] 43 (0, 0)))
    have b1 := Cell0.of (hA (.cells #[.int .i64 f.kind, .int .i64 f.stream, .int .i64 f.code, .int .i64 f.n, .int .i64 f.addr.kind, .slice x f.addr.ip.length c, .string f.addr.name, .int .i64 f.addr.port, .slice z f.data.length k] 43 (0, 0))).drop
    go_region_held3 (fun w' => Box9 w' w.heap.size f (.slice x f.addr.ip.length c) (.slice z f.data.length k) ∧ w'.cell? ⟨g, 0, none⟩ = some (.int .i64 s.id))
      (first | exact ⟨b0, b1⟩ | exact ⟨box9 h4, Cell0.of h4.drop⟩)
      (first | (go_at_call 44; refine (stream_DoneV HD ((hA _).drop.drew)).mono ?_; rintro _ w3 ⟨rfl, rfl⟩) | (go_at_call 39; refine (frame_MayV HM (hr.mono ((hB _).drew))).mono ?_; rintro _ w3 ⟨rfl, h3⟩; have h4 := (hA _).drew.under h3))
    go_wp2_with fail
    go_ret3
    exact ⟨_, _, rfl, OwnB.nilI (OwnL.nilI h4.drop)⟩
theorem credit_GiveV {g : Nat} {n k : Int} {b : Bool} (hg : Hid (giveB n k = b)) (hs : Sat w0 w (Credit g n :: L)) :
    Calls Try.prog 58 #[.pointer (some ⟨g, 0, none⟩), .int .i64 k] w fun e w' => e = .returned (.bool b) ∧ Sat w0 w' (Credit g (giveC n k) :: L) := by
  rw [← hg.out]
  exact credit_Give g n k hs

set_option maxRecDepth 100000 in
set_option maxHeartbeats 2000000 in
theorem stream_Got_other (g : Nat) (s : StM) (f : FrM) (x z : Option Addr) (c k : Nat) (hr : RdV w f x z c k) (hh : s.hears f = true) (h3 : f.kind ≠ 3) (h4 : f.kind ≠ 4) (h5 : f.kind ≠ 5) (h6 : f.kind ≠ 6) (hs : Sat w0 w (StA g s :: L)) :
    Calls Try.prog 36 #[.pointer (some ⟨g, 0, none⟩), frV f (.slice x f.addr.ip.length c) (.slice z f.data.length k)] w (GotR w0 L g [] [] 0 s) := by
  have hA : ∀ o, Sat w0 (w.alloc o) (Blk w.heap.size o :: StA g s :: L) := fun o => hs.alloc o
  have hB : ∀ o, Below w.heap.size w (w.alloc o) := fun o => (Below.refl _ _).alloc (Nat.le_refl _) o
  unfold StM.hears at hh
  simp only [Bool.and_eq_true, Bool.not_eq_true', beq_iff_eq] at hh
  obtain ⟨⟨hd, hq⟩, hm⟩ := hh
  have HD := hid_ hd
  have HM := hid_ hm
  have hq' : (f.stream != s.id) = false := by unfold bne; rw [hq]; simp
  have hok := StA.ok hs
  have hlt : g < w.heap.size := by
    obtain ⟨gc, v, _, h1⟩ := StA.opn hs
    exact h1.lt
  have hne : w.heap.size ≠ g := by omega
  clear hd hm
  have HQ := hid_ hq
  clear hq
  have k3 : (f.kind == 3) = false := by simp [h3]
  have k4 : (f.kind == 4) = false := by simp [h4]
  have k5 : (f.kind == 5) = false := by simp [h5]
  have k6 : (f.kind == 6) = false := by simp [h6]
  clear h3 h4 h5 h6
  unfold frV
  go_enter Try.func36, Try.ntmps36
  go_wp2_with fail
  have b0 := box9 (hs.alloc (.cells #[.int .i64 f.kind, .int .i64 f.stream, .int .i64 f.code, .int .i64 f.n, .int .i64 f.addr.kind, .slice x f.addr.ip.length c, .string f.addr.name, .int .i64 f.addr.port, .slice z f.data.length k] 43 (0, 0)))
  have b1 := Cell0.of (hA (.cells #[.int .i64 f.kind, .int .i64 f.stream, .int .i64 f.code, .int .i64 f.n, .int .i64 f.addr.kind, .slice x f.addr.ip.length c, .string f.addr.name, .int .i64 f.addr.port, .slice z f.data.length k] 43 (0, 0))).drop
  go_region_held3 (fun w' => Box9 w' w.heap.size f (.slice x f.addr.ip.length c) (.slice z f.data.length k) ∧ w'.cell? ⟨g, 0, none⟩ = some (.int .i64 s.id))
    (first | exact ⟨b0, b1⟩ | exact ⟨box9 h4, Cell0.of h4.drop⟩)
    (first | (go_at_call 44; refine (stream_DoneV HD ((hA _).drop.drew)).mono ?_; rintro _ w3 ⟨rfl, rfl⟩) | (go_at_call 39; refine (frame_MayV HM (hr.mono ((hB _).drew))).mono ?_; rintro _ w3 ⟨rfl, h3⟩; have h4 := (hA _).drew.under h3))
  obtain ⟨p0, p1, p2, p3, p4, p5, p6, p7, p8⟩ := box9 h4
  go_wp2_with fail
  go_ret3
  exact ⟨_, _, rfl, OwnB.nilI (OwnL.nilI h4.drop)⟩

set_option maxRecDepth 100000 in
set_option maxHeartbeats 2000000 in
theorem stream_Got_reset (g : Nat) (s : StM) (f : FrM) (x z : Option Addr) (c k : Nat) (hr : RdV w f x z c k) (hh : s.hears f = true) (h5 : f.kind = 5) (hs : Sat w0 w (StA g s :: L)) :
    Calls Try.prog 36 #[.pointer (some ⟨g, 0, none⟩), frV f (.slice x f.addr.ip.length c) (.slice z f.data.length k)] w (GotR w0 L g [] [] 2 s.reset) := by
  have hA : ∀ o, Sat w0 (w.alloc o) (Blk w.heap.size o :: StA g s :: L) := fun o => hs.alloc o
  have hB : ∀ o, Below w.heap.size w (w.alloc o) := fun o => (Below.refl _ _).alloc (Nat.le_refl _) o
  unfold StM.hears at hh
  simp only [Bool.and_eq_true, Bool.not_eq_true', beq_iff_eq] at hh
  obtain ⟨⟨hd, hq⟩, hm⟩ := hh
  have HD := hid_ hd
  have HM := hid_ hm
  have hq' : (f.stream != s.id) = false := by unfold bne; rw [hq]; simp
  have hok := StA.ok hs
  have hlt : g < w.heap.size := by
    obtain ⟨gc, v, _, h1⟩ := StA.opn hs
    exact h1.lt
  have hne : w.heap.size ≠ g := by omega
  clear hd hm
  have HQ := hid_ hq
  clear hq
  have k3 : (f.kind == 3) = false := by simp [h5]
  have k4 : (f.kind == 4) = false := by simp [h5]
  have k6 : (f.kind == 6) = false := by simp [h5]
  have k5 : (f.kind == 5) = true := by simp [h5]
  clear h5
  unfold frV
  go_enter Try.func36, Try.ntmps36
  go_wp2_with fail
  have b0 := box9 (hs.alloc (.cells #[.int .i64 f.kind, .int .i64 f.stream, .int .i64 f.code, .int .i64 f.n, .int .i64 f.addr.kind, .slice x f.addr.ip.length c, .string f.addr.name, .int .i64 f.addr.port, .slice z f.data.length k] 43 (0, 0)))
  have b1 := Cell0.of (hA (.cells #[.int .i64 f.kind, .int .i64 f.stream, .int .i64 f.code, .int .i64 f.n, .int .i64 f.addr.kind, .slice x f.addr.ip.length c, .string f.addr.name, .int .i64 f.addr.port, .slice z f.data.length k] 43 (0, 0))).drop
  go_region_held3 (fun w' => Box9 w' w.heap.size f (.slice x f.addr.ip.length c) (.slice z f.data.length k) ∧ w'.cell? ⟨g, 0, none⟩ = some (.int .i64 s.id))
    (first | exact ⟨b0, b1⟩ | exact ⟨box9 h4, Cell0.of h4.drop⟩)
    (first | (go_at_call 44; refine (stream_DoneV HD ((hA _).drop.drew)).mono ?_; rintro _ w3 ⟨rfl, rfl⟩) | (go_at_call 39; refine (frame_MayV HM (hr.mono ((hB _).drew))).mono ?_; rintro _ w3 ⟨rfl, h3⟩; have h4 := (hA _).drew.under h3))
  obtain ⟨p0, p1, p2, p3, p4, p5, p6, p7, p8⟩ := box9 h4
  go_wp2_with fail
  refine (stream_reset g s 0 h4.drop).mono ?_
  rintro _ w5 ⟨rfl, h5⟩
  go_wp2_with fail
  go_ret3
  exact ⟨_, _, rfl, OwnB.nilI (OwnL.nilI h5)⟩

set_option maxRecDepth 100000 in
set_option maxHeartbeats 2000000 in
theorem stream_Got_fin_no (g : Nat) (s : StM) (f : FrM) (x z : Option Addr) (c k : Nat) (hr : RdV w f x z c k) (hh : s.hears f = true) (hk : f.kind = 4) (ho : s.over = true) (hs : Sat w0 w (StA g s :: L)) :
    Calls Try.prog 36 #[.pointer (some ⟨g, 0, none⟩), frV f (.slice x f.addr.ip.length c) (.slice z f.data.length k)] w (GotR w0 L g [] [FrM.resetF s.id 1] 2 s.reset) := by
  have hA : ∀ o, Sat w0 (w.alloc o) (Blk w.heap.size o :: StA g s :: L) := fun o => hs.alloc o
  have hB : ∀ o, Below w.heap.size w (w.alloc o) := fun o => (Below.refl _ _).alloc (Nat.le_refl _) o
  unfold StM.hears at hh
  simp only [Bool.and_eq_true, Bool.not_eq_true', beq_iff_eq] at hh
  obtain ⟨⟨hd, hq⟩, hm⟩ := hh
  have HD := hid_ hd
  have HM := hid_ hm
  have hq' : (f.stream != s.id) = false := by unfold bne; rw [hq]; simp
  have hok := StA.ok hs
  have hlt : g < w.heap.size := by
    obtain ⟨gc, v, _, h1⟩ := StA.opn hs
    exact h1.lt
  have hne : w.heap.size ≠ g := by omega
  clear hd hm
  have HQ := hid_ hq
  clear hq
  have k3 : (f.kind == 3) = false := by simp [hk]
  have k4 : (f.kind == 4) = true := by simp [hk]
  clear hk
  unfold frV
  go_enter Try.func36, Try.ntmps36
  go_wp2_with fail
  have b0 := box9 (hs.alloc (.cells #[.int .i64 f.kind, .int .i64 f.stream, .int .i64 f.code, .int .i64 f.n, .int .i64 f.addr.kind, .slice x f.addr.ip.length c, .string f.addr.name, .int .i64 f.addr.port, .slice z f.data.length k] 43 (0, 0)))
  have b1 := Cell0.of (hA (.cells #[.int .i64 f.kind, .int .i64 f.stream, .int .i64 f.code, .int .i64 f.n, .int .i64 f.addr.kind, .slice x f.addr.ip.length c, .string f.addr.name, .int .i64 f.addr.port, .slice z f.data.length k] 43 (0, 0))).drop
  go_region_held3 (fun w' => Box9 w' w.heap.size f (.slice x f.addr.ip.length c) (.slice z f.data.length k) ∧ w'.cell? ⟨g, 0, none⟩ = some (.int .i64 s.id))
    (first | exact ⟨b0, b1⟩ | exact ⟨box9 h4, Cell0.of h4.drop⟩)
    (first | (go_at_call 44; refine (stream_DoneV HD ((hA _).drop.drew)).mono ?_; rintro _ w3 ⟨rfl, rfl⟩) | (go_at_call 39; refine (frame_MayV HM (hr.mono ((hB _).drew))).mono ?_; rintro _ w3 ⟨rfl, h3⟩; have h4 := (hA _).drew.under h3))
  obtain ⟨p0, p1, p2, p3, p4, p5, p6, p7, p8⟩ := box9 h4
  have q6 : w3.cell? ⟨g, 6, none⟩ = some (.bool true) := by
    obtain ⟨gc, v, _, h1⟩ := StA.opn h4.drop
    rw [← ho]
    exact h1.cell 6 rfl
  clear ho
  go_wp2_with fail
  refine (stream_against g s h4.drop).mono ?_
  rintro _ w5 ⟨a5, c5, rfl, h5⟩
  go_wp2_with fail
  go_ret3
  exact ⟨_, _, rfl, OwnB.nilI h5⟩

set_option maxRecDepth 100000 in
set_option maxHeartbeats 2000000 in
theorem stream_Got_fin (g : Nat) (s : StM) (f : FrM) (x z : Option Addr) (c k : Nat) (hr : RdV w f x z c k) (hh : s.hears f = true) (hk : f.kind = 4) (ho : s.over = false) (hs : Sat w0 w (StA g s :: L)) :
    Calls Try.prog 36 #[.pointer (some ⟨g, 0, none⟩), frV f (.slice x f.addr.ip.length c) (.slice z f.data.length k)] w (GotR w0 L g [] [] 1 { s with over := true }) := by
  have hA : ∀ o, Sat w0 (w.alloc o) (Blk w.heap.size o :: StA g s :: L) := fun o => hs.alloc o
  have hB : ∀ o, Below w.heap.size w (w.alloc o) := fun o => (Below.refl _ _).alloc (Nat.le_refl _) o
  unfold StM.hears at hh
  simp only [Bool.and_eq_true, Bool.not_eq_true', beq_iff_eq] at hh
  obtain ⟨⟨hd, hq⟩, hm⟩ := hh
  have HD := hid_ hd
  have HM := hid_ hm
  have hq' : (f.stream != s.id) = false := by unfold bne; rw [hq]; simp
  have hok := StA.ok hs
  have hlt : g < w.heap.size := by
    obtain ⟨gc, v, _, h1⟩ := StA.opn hs
    exact h1.lt
  have hne : w.heap.size ≠ g := by omega
  clear hd hm
  have HQ := hid_ hq
  clear hq
  have k3 : (f.kind == 3) = false := by simp [hk]
  have k4 : (f.kind == 4) = true := by simp [hk]
  clear hk
  unfold frV
  go_enter Try.func36, Try.ntmps36
  go_wp2_with fail
  have b0 := box9 (hs.alloc (.cells #[.int .i64 f.kind, .int .i64 f.stream, .int .i64 f.code, .int .i64 f.n, .int .i64 f.addr.kind, .slice x f.addr.ip.length c, .string f.addr.name, .int .i64 f.addr.port, .slice z f.data.length k] 43 (0, 0)))
  have b1 := Cell0.of (hA (.cells #[.int .i64 f.kind, .int .i64 f.stream, .int .i64 f.code, .int .i64 f.n, .int .i64 f.addr.kind, .slice x f.addr.ip.length c, .string f.addr.name, .int .i64 f.addr.port, .slice z f.data.length k] 43 (0, 0))).drop
  go_region_held3 (fun w' => Box9 w' w.heap.size f (.slice x f.addr.ip.length c) (.slice z f.data.length k) ∧ w'.cell? ⟨g, 0, none⟩ = some (.int .i64 s.id))
    (first | exact ⟨b0, b1⟩ | exact ⟨box9 h4, Cell0.of h4.drop⟩)
    (first | (go_at_call 44; refine (stream_DoneV HD ((hA _).drop.drew)).mono ?_; rintro _ w3 ⟨rfl, rfl⟩) | (go_at_call 39; refine (frame_MayV HM (hr.mono ((hB _).drew))).mono ?_; rintro _ w3 ⟨rfl, h3⟩; have h4 := (hA _).drew.under h3))
  obtain ⟨p0, p1, p2, p3, p4, p5, p6, p7, p8⟩ := box9 h4
  obtain ⟨gc, v, _, h1⟩ := StA.opn h4.drop
  have q6 : w3.cell? ⟨g, 6, none⟩ = some (.bool false) := by
    rw [← ho]
    exact h1.cell 6 rfl
  have f6 := h1.frozen 6
  clear ho
  go_wp2_with fail
  go_ret3
  exact ⟨_, _, rfl, OwnB.nilI (OwnL.nilI (StA.mk (s' := { s with over := true }) rfl hok (h1.set 6 (.bool true))))⟩

set_option maxRecDepth 100000 in
set_option maxHeartbeats 2000000 in
theorem stream_Got_give (g : Nat) (s : StM) (f : FrM) (x z : Option Addr) (c k : Nat) (hr : RdV w f x z c k) (hh : s.hears f = true) (hk : f.kind = 6) (hg : giveB s.may f.n = true) (hs : Sat w0 w (StA g s :: L)) :
    Calls Try.prog 36 #[.pointer (some ⟨g, 0, none⟩), frV f (.slice x f.addr.ip.length c) (.slice z f.data.length k)] w (GotR w0 L g [] [] 0 { s with may := giveC s.may f.n }) := by
  have hA : ∀ o, Sat w0 (w.alloc o) (Blk w.heap.size o :: StA g s :: L) := fun o => hs.alloc o
  have hB : ∀ o, Below w.heap.size w (w.alloc o) := fun o => (Below.refl _ _).alloc (Nat.le_refl _) o
  unfold StM.hears at hh
  simp only [Bool.and_eq_true, Bool.not_eq_true', beq_iff_eq] at hh
  obtain ⟨⟨hd, hq⟩, hm⟩ := hh
  have HD := hid_ hd
  have HM := hid_ hm
  have hq' : (f.stream != s.id) = false := by unfold bne; rw [hq]; simp
  have hok := StA.ok hs
  have hlt : g < w.heap.size := by
    obtain ⟨gc, v, _, h1⟩ := StA.opn hs
    exact h1.lt
  have hne : w.heap.size ≠ g := by omega
  clear hd hm
  have HQ := hid_ hq
  clear hq
  have k3 : (f.kind == 3) = false := by simp [hk]
  have k4 : (f.kind == 4) = false := by simp [hk]
  have k6 : (f.kind == 6) = true := by simp [hk]
  clear hk
  have k5 : True := trivial
  unfold frV
  go_enter Try.func36, Try.ntmps36
  go_wp2_with fail
  have b0 := box9 (hs.alloc (.cells #[.int .i64 f.kind, .int .i64 f.stream, .int .i64 f.code, .int .i64 f.n, .int .i64 f.addr.kind, .slice x f.addr.ip.length c, .string f.addr.name, .int .i64 f.addr.port, .slice z f.data.length k] 43 (0, 0)))
  have b1 := Cell0.of (hA (.cells #[.int .i64 f.kind, .int .i64 f.stream, .int .i64 f.code, .int .i64 f.n, .int .i64 f.addr.kind, .slice x f.addr.ip.length c, .string f.addr.name, .int .i64 f.addr.port, .slice z f.data.length k] 43 (0, 0))).drop
  go_region_held3 (fun w' => Box9 w' w.heap.size f (.slice x f.addr.ip.length c) (.slice z f.data.length k) ∧ w'.cell? ⟨g, 0, none⟩ = some (.int .i64 s.id))
    (first | exact ⟨b0, b1⟩ | exact ⟨box9 h4, Cell0.of h4.drop⟩)
    (first | (go_at_call 44; refine (stream_DoneV HD ((hA _).drop.drew)).mono ?_; rintro _ w3 ⟨rfl, rfl⟩) | (go_at_call 39; refine (frame_MayV HM (hr.mono ((hB _).drew))).mono ?_; rintro _ w3 ⟨rfl, h3⟩; have h4 := (hA _).drew.under h3))
  obtain ⟨p0, p1, p2, p3, p4, p5, p6, p7, p8⟩ := box9 h4
  have HG := hid_ hg
  clear hg
  obtain ⟨gc, v, _, h1⟩ := StA.opn h4.swap
  have q1 : w3.cell? ⟨g, 1, none⟩ = some (.pointer (some ⟨gc, 0, none⟩)) := h1.cell 1 rfl
  go_wp2_with fail
  go_region_held3 (fun w' => w'.cell? ⟨w.heap.size, 3, none⟩ = some (.int .i64 f.n) ∧ w'.cell? ⟨g, 1, none⟩ = some (.pointer (some ⟨gc, 0, none⟩)))
    (first | exact ⟨p3, q1⟩ | exact ⟨(Sat.front [_, _, _] h7).cell 3 rfl, (Sat.front [_] h7).cell 1 rfl⟩)
    (first | (go_at_call 58; refine (credit_GiveV HG (Sat.front [_] h1.drew)).mono ?_; rintro _ w7 ⟨rfl, h7⟩))
  go_wp2_with fail
  go_ret3
  have h9 := StA.mk (s' := { s with may := giveC s.may f.n }) rfl hok (Sat.re [1, 0, 2, 3] [_, _, _, _] h7)
  exact ⟨_, _, rfl, OwnB.nilI (OwnL.nilI h9.swap.drop)⟩

set_option maxRecDepth 100000 in
set_option maxHeartbeats 2000000 in
theorem stream_Got_give_no (g : Nat) (s : StM) (f : FrM) (x z : Option Addr) (c k : Nat) (hr : RdV w f x z c k) (hh : s.hears f = true) (hk : f.kind = 6) (hg : giveB s.may f.n = false) (hs : Sat w0 w (StA g s :: L)) :
    Calls Try.prog 36 #[.pointer (some ⟨g, 0, none⟩), frV f (.slice x f.addr.ip.length c) (.slice z f.data.length k)] w (GotR w0 L g [] [FrM.resetF s.id 1] 2 s.reset) := by
  have hA : ∀ o, Sat w0 (w.alloc o) (Blk w.heap.size o :: StA g s :: L) := fun o => hs.alloc o
  have hB : ∀ o, Below w.heap.size w (w.alloc o) := fun o => (Below.refl _ _).alloc (Nat.le_refl _) o
  unfold StM.hears at hh
  simp only [Bool.and_eq_true, Bool.not_eq_true', beq_iff_eq] at hh
  obtain ⟨⟨hd, hq⟩, hm⟩ := hh
  have HD := hid_ hd
  have HM := hid_ hm
  have hq' : (f.stream != s.id) = false := by unfold bne; rw [hq]; simp
  have hok := StA.ok hs
  have hlt : g < w.heap.size := by
    obtain ⟨gc, v, _, h1⟩ := StA.opn hs
    exact h1.lt
  have hne : w.heap.size ≠ g := by omega
  clear hd hm
  have HQ := hid_ hq
  clear hq
  have k3 : (f.kind == 3) = false := by simp [hk]
  have k4 : (f.kind == 4) = false := by simp [hk]
  have k6 : (f.kind == 6) = true := by simp [hk]
  clear hk
  unfold frV
  go_enter Try.func36, Try.ntmps36
  go_wp2_with fail
  have b0 := box9 (hs.alloc (.cells #[.int .i64 f.kind, .int .i64 f.stream, .int .i64 f.code, .int .i64 f.n, .int .i64 f.addr.kind, .slice x f.addr.ip.length c, .string f.addr.name, .int .i64 f.addr.port, .slice z f.data.length k] 43 (0, 0)))
  have b1 := Cell0.of (hA (.cells #[.int .i64 f.kind, .int .i64 f.stream, .int .i64 f.code, .int .i64 f.n, .int .i64 f.addr.kind, .slice x f.addr.ip.length c, .string f.addr.name, .int .i64 f.addr.port, .slice z f.data.length k] 43 (0, 0))).drop
  go_region_held3 (fun w' => Box9 w' w.heap.size f (.slice x f.addr.ip.length c) (.slice z f.data.length k) ∧ w'.cell? ⟨g, 0, none⟩ = some (.int .i64 s.id))
    (first | exact ⟨b0, b1⟩ | exact ⟨box9 h4, Cell0.of h4.drop⟩)
    (first | (go_at_call 44; refine (stream_DoneV HD ((hA _).drop.drew)).mono ?_; rintro _ w3 ⟨rfl, rfl⟩) | (go_at_call 39; refine (frame_MayV HM (hr.mono ((hB _).drew))).mono ?_; rintro _ w3 ⟨rfl, h3⟩; have h4 := (hA _).drew.under h3))
  obtain ⟨p0, p1, p2, p3, p4, p5, p6, p7, p8⟩ := box9 h4
  have HG := hid_ hg
  clear hg
  obtain ⟨gc, v, _, h1⟩ := StA.opn h4.swap
  have q1 : w3.cell? ⟨g, 1, none⟩ = some (.pointer (some ⟨gc, 0, none⟩)) := h1.cell 1 rfl
  go_wp2_with fail
  go_region_held3 (fun w' => w'.cell? ⟨w.heap.size, 3, none⟩ = some (.int .i64 f.n) ∧ w'.cell? ⟨g, 1, none⟩ = some (.pointer (some ⟨gc, 0, none⟩)))
    (first | exact ⟨p3, q1⟩ | exact ⟨(Sat.front [_, _, _] h7).cell 3 rfl, (Sat.front [_] h7).cell 1 rfl⟩)
    (first | (go_at_call 58; refine (credit_GiveV HG (Sat.front [_] h1.drew)).mono ?_; rintro _ w7 ⟨rfl, h7⟩))
  have hgc : giveC s.may f.n = s.may := by unfold giveC; rw [HG.out]; simp
  rw [hgc] at h7
  have h9 := StA.mk (s' := s) rfl hok (Sat.re [1, 0, 2, 3] [_, _, _, _] h7)
  go_wp2_with fail
  refine (stream_against g s h9.swap.drop).mono ?_
  rintro _ w5 ⟨a5, c5, rfl, h5⟩
  go_wp2_with fail
  go_ret3
  exact ⟨_, _, rfl, OwnB.nilI h5⟩

set_option maxRecDepth 100000 in
set_option maxHeartbeats 2000000 in
theorem stream_Got_data_over (g : Nat) (s : StM) (f : FrM) (x z : Option Addr) (c k : Nat) (hr : RdV w f x z c k) (hh : s.hears f = true) (hk : f.kind = 3) (ho : s.over = true) (hs : Sat w0 w (StA g s :: L)) :
    Calls Try.prog 36 #[.pointer (some ⟨g, 0, none⟩), frV f (.slice x f.addr.ip.length c) (.slice z f.data.length k)] w (GotR w0 L g [] [FrM.resetF s.id 1] 2 s.reset) := by
  have hA : ∀ o, Sat w0 (w.alloc o) (Blk w.heap.size o :: StA g s :: L) := fun o => hs.alloc o
  have hB : ∀ o, Below w.heap.size w (w.alloc o) := fun o => (Below.refl _ _).alloc (Nat.le_refl _) o
  unfold StM.hears at hh
  simp only [Bool.and_eq_true, Bool.not_eq_true', beq_iff_eq] at hh
  obtain ⟨⟨hd, hq⟩, hm⟩ := hh
  have HD := hid_ hd
  have HM := hid_ hm
  have hq' : (f.stream != s.id) = false := by unfold bne; rw [hq]; simp
  have hok := StA.ok hs
  have hlt : g < w.heap.size := by
    obtain ⟨gc, v, _, h1⟩ := StA.opn hs
    exact h1.lt
  have hne : w.heap.size ≠ g := by omega
  clear hd hm
  have HQ := hid_ hq
  clear hq
  have k3 : (f.kind == 3) = true := by simp [hk]
  clear hk
  unfold frV
  go_enter Try.func36, Try.ntmps36
  go_wp2_with fail
  have b0 := box9 (hs.alloc (.cells #[.int .i64 f.kind, .int .i64 f.stream, .int .i64 f.code, .int .i64 f.n, .int .i64 f.addr.kind, .slice x f.addr.ip.length c, .string f.addr.name, .int .i64 f.addr.port, .slice z f.data.length k] 43 (0, 0)))
  have b1 := Cell0.of (hA (.cells #[.int .i64 f.kind, .int .i64 f.stream, .int .i64 f.code, .int .i64 f.n, .int .i64 f.addr.kind, .slice x f.addr.ip.length c, .string f.addr.name, .int .i64 f.addr.port, .slice z f.data.length k] 43 (0, 0))).drop
  go_region_held3 (fun w' => Box9 w' w.heap.size f (.slice x f.addr.ip.length c) (.slice z f.data.length k) ∧ w'.cell? ⟨g, 0, none⟩ = some (.int .i64 s.id))
    (first | exact ⟨b0, b1⟩ | exact ⟨box9 h4, Cell0.of h4.drop⟩)
    (first | (go_at_call 44; refine (stream_DoneV HD ((hA _).drop.drew)).mono ?_; rintro _ w3 ⟨rfl, rfl⟩) | (go_at_call 39; refine (frame_MayV HM (hr.mono ((hB _).drew))).mono ?_; rintro _ w3 ⟨rfl, h3⟩; have h4 := (hA _).drew.under h3))
  obtain ⟨p0, p1, p2, p3, p4, p5, p6, p7, p8⟩ := box9 h4
  have q6 : w3.cell? ⟨g, 6, none⟩ = some (.bool true) := by
    obtain ⟨gc, v, _, h1⟩ := StA.opn h4.drop
    rw [← ho]
    exact h1.cell 6 rfl
  clear ho
  go_wp2_with fail
  go_quiet (fail)
  go_wp2_with fail
  refine (stream_against g s (h4.drop.drewN _)).mono ?_
  rintro _ w5 ⟨a5, c5, rfl, h5⟩
  go_wp2_with fail
  go_ret3
  exact ⟨_, _, rfl, OwnB.nilI h5⟩

set_option maxRecDepth 100000 in
set_option maxHeartbeats 2000000 in
theorem stream_Got_data_long (g : Nat) (s : StM) (f : FrM) (x z : Option Addr) (c k : Nat) (hr : RdV w f x z c k) (hh : s.hears f = true) (hk : f.kind = 3) (ho : s.over = false) (hl : decide (s.others < (f.data.length : Int)) = true) (hs : Sat w0 w (StA g s :: L)) :
    Calls Try.prog 36 #[.pointer (some ⟨g, 0, none⟩), frV f (.slice x f.addr.ip.length c) (.slice z f.data.length k)] w (GotR w0 L g [] [FrM.resetF s.id 1] 2 s.reset) := by
  have hA : ∀ o, Sat w0 (w.alloc o) (Blk w.heap.size o :: StA g s :: L) := fun o => hs.alloc o
  have hB : ∀ o, Below w.heap.size w (w.alloc o) := fun o => (Below.refl _ _).alloc (Nat.le_refl _) o
  unfold StM.hears at hh
  simp only [Bool.and_eq_true, Bool.not_eq_true', beq_iff_eq] at hh
  obtain ⟨⟨hd, hq⟩, hm⟩ := hh
  have HD := hid_ hd
  have HM := hid_ hm
  have hq' : (f.stream != s.id) = false := by unfold bne; rw [hq]; simp
  have hok := StA.ok hs
  have hlt : g < w.heap.size := by
    obtain ⟨gc, v, _, h1⟩ := StA.opn hs
    exact h1.lt
  have hne : w.heap.size ≠ g := by omega
  clear hd hm
  have HQ := hid_ hq
  clear hq
  have k3 : (f.kind == 3) = true := by simp [hk]
  clear hk
  unfold frV
  go_enter Try.func36, Try.ntmps36
  go_wp2_with fail
  have b0 := box9 (hs.alloc (.cells #[.int .i64 f.kind, .int .i64 f.stream, .int .i64 f.code, .int .i64 f.n, .int .i64 f.addr.kind, .slice x f.addr.ip.length c, .string f.addr.name, .int .i64 f.addr.port, .slice z f.data.length k] 43 (0, 0)))
  have b1 := Cell0.of (hA (.cells #[.int .i64 f.kind, .int .i64 f.stream, .int .i64 f.code, .int .i64 f.n, .int .i64 f.addr.kind, .slice x f.addr.ip.length c, .string f.addr.name, .int .i64 f.addr.port, .slice z f.data.length k] 43 (0, 0))).drop
  go_region_held3 (fun w' => Box9 w' w.heap.size f (.slice x f.addr.ip.length c) (.slice z f.data.length k) ∧ w'.cell? ⟨g, 0, none⟩ = some (.int .i64 s.id))
    (first | exact ⟨b0, b1⟩ | exact ⟨box9 h4, Cell0.of h4.drop⟩)
    (first | (go_at_call 44; refine (stream_DoneV HD ((hA _).drop.drew)).mono ?_; rintro _ w3 ⟨rfl, rfl⟩) | (go_at_call 39; refine (frame_MayV HM (hr.mono ((hB _).drew))).mono ?_; rintro _ w3 ⟨rfl, h3⟩; have h4 := (hA _).drew.under h3))
  obtain ⟨p0, p1, p2, p3, p4, p5, p6, p7, p8⟩ := box9 h4
  obtain ⟨gc, v, _, h1⟩ := StA.opn h4.drop
  have q6 : w3.cell? ⟨g, 6, none⟩ = some (.bool false) := by
    rw [← ho]
    exact h1.cell 6 rfl
  have q2 : w3.cell? ⟨g, 2, none⟩ = some (.int .i64 s.others) := h1.cell 2 rfl
  clear ho
  go_wp2_with fail
  go_quiet (fail)
  go_wp2_with fail
  refine (stream_against g s (h4.drop.drewN _)).mono ?_
  rintro _ w5 ⟨a5, c5, rfl, h5⟩
  go_wp2_with fail
  go_ret3
  exact ⟨_, _, rfl, OwnB.nilI h5⟩

end
end Go.Proofs.Ytkejadhkebjdcaa
