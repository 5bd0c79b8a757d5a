/- Frames that may be: frame.May walked. -/
import Derived.Test.YtkejadhkebjdcaaSameW
namespace Go.Proofs.Ytkejadhkebjdcaa
open Go Go.RowKit
set_option linter.unusedVariables false
set_option linter.unusedSimpArgs false

def inB (n a b : Int) : Bool := decide (a ≤ n) && decide (n ≤ b)
/-- The frame with its kind's own field alone. -/
def FrM.plain (f : FrM) : FrM :=
  if f.kind = 1 then { FrM.of f.kind f.stream with addr := f.addr } else
  if f.kind = 2 ∨ f.kind = 5 then { FrM.of f.kind f.stream with code := f.code } else
  if f.kind = 3 then { FrM.of f.kind f.stream with data := f.data } else
  if f.kind = 6 ∨ f.kind = 7 ∨ f.kind = 8 then { FrM.of f.kind f.stream with n := f.n } else FrM.of f.kind f.stream
def FrM.okB (f : FrM) : Bool :=
  if f.kind = 1 then inB f.stream 1 65535 && f.addr.may else
  if f.kind = 2 then inB f.stream 1 65535 && inB f.code 0 8 else
  if f.kind = 5 then inB f.stream 1 65535 && inB f.code 0 255 else
  if f.kind = 3 then inB f.stream 1 65535 && inB f.data.length 1 4000 else
  if f.kind = 6 then inB f.stream 1 65535 && inB f.n 1 65536 else
  if f.kind = 7 ∨ f.kind = 8 then f.stream == 0 && inB f.n 0 4294967295 else
  if f.kind = 4 then inB f.stream 1 65535 else false
def FrM.may (f : FrM) : Bool := f.okB && sameFr f f.plain

/-- A frame by value, as it reads. -/
structure RdV (w : World) (f : FrM) (x z : Option Addr) (c k : Nat) : Prop where
  ip : RdB w (.slice x f.addr.ip.length c) f.addr.ip
  data : RdB w (.slice z f.data.length k) f.data
  name : f.addr.name.size ≤ maxLen
theorem RdV.mono {w w' : World} {f : FrM} {x z : Option Addr} {c k : Nat} (h : RdV w f x z c k) (hb : Below w.heap.size w w') : RdV w' f x z c k := ⟨h.ip.mono hb, h.data.mono hb, h.name⟩

section
variable {w0 w : World} {L : List Assn}
set_option maxRecDepth 100000 in
set_option maxHeartbeats 2000000 in
theorem frame_May1 (stream code n : Int) (addr : AdM) (data : List UInt8) (x z : Option Addr) (c k : Nat) (hr : RdV w ⟨1, stream, code, n, addr, data⟩ x z c k) :
    Calls Try.prog 39 #[frV ⟨1, stream, code, n, addr, data⟩ (.slice x addr.ip.length c) (.slice z data.length k)] w fun e w' => e = .returned (.bool (⟨1, stream, code, n, addr, data⟩ : FrM).may) ∧ Below w.heap.size w w' := by
  have e1 := hid_ (show (⟨1, stream, code, n, addr, data⟩ : FrM).may = (inB stream 1 65535 && addr.may && sameFr ⟨1, stream, code, n, addr, data⟩ (⟨1, stream, 0, 0, addr, []⟩)) by unfold FrM.may FrM.okB FrM.plain; simp [FrM.of])
  have hA : ∀ o p, Sat w ((w.alloc o).alloc p) (Blk (w.heap.size + 1) p :: Blk w.heap.size o :: []) := fun o p => (Sat.refl w).alloc2 o p
  have hB : ∀ o p, Below w.heap.size w ((w.alloc o).alloc p) := fun o p => (hA o p).below
  have hd := hr.data.len
  unfold maxLen at hd
  unfold frV
  go_enter Try.func39, Try.ntmps39
  go_wp2_with fail
  refine (frame_in _ _ _).mono ?_
  rintro _ w1 ⟨rfl, rfl⟩
  cases hst : (decide (1 ≤ stream) && decide (stream ≤ 65535))
  · go_wp2_with fail
    go_ret
    exact ⟨ret_bool (by rw [e1.out]; unfold inB; rw [hst]; simp), hB _ _⟩
  have HS := hid_ hst
  clear hst
  go_wp2_with fail
  refine (addr_May addr x c hr.name hr.ip.len).mono ?_
  rintro _ w1 ⟨rfl, h1⟩
  have h2 := (hA _ _).under h1
  clear h1
  cases hst : addr.may
  · go_wp2_with fail
    go_ret
    exact ⟨ret_bool (by rw [e1.out]; unfold inB; rw [HS.out, hst]; simp), h2.below⟩
  have HT := hid_ hst
  clear hst
  have p0 : w1.cell? ⟨w.heap.size + 1, 0, none⟩ = some (.int .i64 1) := h2.cell 0 rfl
  have p1 : w1.cell? ⟨w.heap.size + 1, 1, none⟩ = some (.int .i64 stream) := h2.cell 1 rfl
  have p2 : w1.cell? ⟨w.heap.size + 1, 2, none⟩ = some (.int .i64 0) := h2.cell 2 rfl
  have p3 : w1.cell? ⟨w.heap.size + 1, 3, none⟩ = some (.int .i64 0) := h2.cell 3 rfl
  have p4 : w1.cell? ⟨w.heap.size + 1, 4, none⟩ = some (.int .i64 addr.kind) := h2.cell 4 rfl
  have p5 : w1.cell? ⟨w.heap.size + 1, 5, none⟩ = some (.slice x addr.ip.length c) := h2.cell 5 rfl
  have p6 : w1.cell? ⟨w.heap.size + 1, 6, none⟩ = some (.string addr.name) := h2.cell 6 rfl
  have p7 : w1.cell? ⟨w.heap.size + 1, 7, none⟩ = some (.int .i64 addr.port) := h2.cell 7 rfl
  have p8 : w1.cell? ⟨w.heap.size + 1, 8, none⟩ = some (.slice none 0 0) := h2.cell 8 rfl
  have r0 : w1.cell? ⟨w.heap.size, 0, none⟩ = some (.int .i64 1) := h2.drop.cell 0 rfl
  have r1 : w1.cell? ⟨w.heap.size, 1, none⟩ = some (.int .i64 stream) := h2.drop.cell 1 rfl
  have r2 : w1.cell? ⟨w.heap.size, 2, none⟩ = some (.int .i64 code) := h2.drop.cell 2 rfl
  have r3 : w1.cell? ⟨w.heap.size, 3, none⟩ = some (.int .i64 n) := h2.drop.cell 3 rfl
  have r4 : w1.cell? ⟨w.heap.size, 4, none⟩ = some (.int .i64 addr.kind) := h2.drop.cell 4 rfl
  have r5 : w1.cell? ⟨w.heap.size, 5, none⟩ = some (.slice x addr.ip.length c) := h2.drop.cell 5 rfl
  have r6 : w1.cell? ⟨w.heap.size, 6, none⟩ = some (.string addr.name) := h2.drop.cell 6 rfl
  have r7 : w1.cell? ⟨w.heap.size, 7, none⟩ = some (.int .i64 addr.port) := h2.drop.cell 7 rfl
  have r8 : w1.cell? ⟨w.heap.size, 8, none⟩ = some (.slice z data.length k) := h2.drop.cell 8 rfl
  have hbx := h2.below
  go_wp2_with fail
  refine (frame_Same ⟨1, stream, code, n, addr, data⟩ (⟨1, stream, 0, 0, addr, []⟩) x x z none c c k 0 (hr.ip.mono hbx) (hr.ip.mono hbx) (hr.data.mono hbx) (RdB.nil _)).mono ?_
  rintro _ w4 ⟨rfl, h3⟩
  go_wp2_with fail
  go_ret
  exact ⟨ret_bool (by rw [e1.out]; unfold inB; rw [HS.out, HT.out]; simp), hbx.trans (h3.mono (hbx.size))⟩

set_option maxRecDepth 100000 in
set_option maxHeartbeats 2000000 in
theorem frame_May2 (stream code n : Int) (addr : AdM) (data : List UInt8) (x z : Option Addr) (c k : Nat) (hr : RdV w ⟨2, stream, code, n, addr, data⟩ x z c k) :
    Calls Try.prog 39 #[frV ⟨2, stream, code, n, addr, data⟩ (.slice x addr.ip.length c) (.slice z data.length k)] w fun e w' => e = .returned (.bool (⟨2, stream, code, n, addr, data⟩ : FrM).may) ∧ Below w.heap.size w w' := by
  have e1 := hid_ (show (⟨2, stream, code, n, addr, data⟩ : FrM).may = (inB stream 1 65535 && inB code 0 8 && sameFr ⟨2, stream, code, n, addr, data⟩ (⟨2, stream, code, 0, AdM.zero, []⟩)) by unfold FrM.may FrM.okB FrM.plain; simp [FrM.of])
  have hA : ∀ o p, Sat w ((w.alloc o).alloc p) (Blk (w.heap.size + 1) p :: Blk w.heap.size o :: []) := fun o p => (Sat.refl w).alloc2 o p
  have hB : ∀ o p, Below w.heap.size w ((w.alloc o).alloc p) := fun o p => (hA o p).below
  have hd := hr.data.len
  unfold maxLen at hd
  unfold frV
  go_enter Try.func39, Try.ntmps39
  go_wp2_with fail
  refine (frame_in _ _ _).mono ?_
  rintro _ w1 ⟨rfl, rfl⟩
  cases hst : (decide (1 ≤ stream) && decide (stream ≤ 65535))
  · go_wp2_with fail
    go_ret
    exact ⟨ret_bool (by rw [e1.out]; unfold inB; rw [hst]; simp), hB _ _⟩
  have HS := hid_ hst
  clear hst
  go_wp2_with fail
  refine (frame_in _ _ _).mono ?_
  rintro _ w1 ⟨rfl, rfl⟩
  cases hst : (decide (0 ≤ code) && decide (code ≤ 8))
  · go_wp2_with fail
    go_ret
    exact ⟨ret_bool (by rw [e1.out]; unfold inB; rw [HS.out, hst]; simp), hB _ _⟩
  have HT := hid_ hst
  clear hst
  go_wp2_with fail
  refine (frame_Same ⟨2, stream, code, n, addr, data⟩ (⟨2, stream, code, 0, AdM.zero, []⟩) x none z none c 0 k 0 (hr.ip.mono (hB _ _)) (RdB.nil _) (hr.data.mono (hB _ _)) (RdB.nil _)).mono ?_
  rintro _ w2 ⟨rfl, h2⟩
  go_wp2_with fail
  go_ret
  exact ⟨ret_bool (by rw [e1.out]; unfold inB; rw [HS.out, HT.out]; simp), (hB _ _).trans (h2.mono (by simp; omega))⟩

set_option maxRecDepth 100000 in
set_option maxHeartbeats 2000000 in
theorem frame_May5 (stream code n : Int) (addr : AdM) (data : List UInt8) (x z : Option Addr) (c k : Nat) (hr : RdV w ⟨5, stream, code, n, addr, data⟩ x z c k) :
    Calls Try.prog 39 #[frV ⟨5, stream, code, n, addr, data⟩ (.slice x addr.ip.length c) (.slice z data.length k)] w fun e w' => e = .returned (.bool (⟨5, stream, code, n, addr, data⟩ : FrM).may) ∧ Below w.heap.size w w' := by
  have e1 := hid_ (show (⟨5, stream, code, n, addr, data⟩ : FrM).may = (inB stream 1 65535 && inB code 0 255 && sameFr ⟨5, stream, code, n, addr, data⟩ (⟨5, stream, code, 0, AdM.zero, []⟩)) by unfold FrM.may FrM.okB FrM.plain; simp [FrM.of])
  have hA : ∀ o p, Sat w ((w.alloc o).alloc p) (Blk (w.heap.size + 1) p :: Blk w.heap.size o :: []) := fun o p => (Sat.refl w).alloc2 o p
  have hB : ∀ o p, Below w.heap.size w ((w.alloc o).alloc p) := fun o p => (hA o p).below
  have hd := hr.data.len
  unfold maxLen at hd
  unfold frV
  go_enter Try.func39, Try.ntmps39
  go_wp2_with fail
  refine (frame_in _ _ _).mono ?_
  rintro _ w1 ⟨rfl, rfl⟩
  cases hst : (decide (1 ≤ stream) && decide (stream ≤ 65535))
  · go_wp2_with fail
    go_ret
    exact ⟨ret_bool (by rw [e1.out]; unfold inB; rw [hst]; simp), hB _ _⟩
  have HS := hid_ hst
  clear hst
  go_wp2_with fail
  refine (frame_in _ _ _).mono ?_
  rintro _ w1 ⟨rfl, rfl⟩
  cases hst : (decide (0 ≤ code) && decide (code ≤ 255))
  · go_wp2_with fail
    go_ret
    exact ⟨ret_bool (by rw [e1.out]; unfold inB; rw [HS.out, hst]; simp), hB _ _⟩
  have HT := hid_ hst
  clear hst
  go_wp2_with fail
  refine (frame_Same ⟨5, stream, code, n, addr, data⟩ (⟨5, stream, code, 0, AdM.zero, []⟩) x none z none c 0 k 0 (hr.ip.mono (hB _ _)) (RdB.nil _) (hr.data.mono (hB _ _)) (RdB.nil _)).mono ?_
  rintro _ w2 ⟨rfl, h2⟩
  go_wp2_with fail
  go_ret
  exact ⟨ret_bool (by rw [e1.out]; unfold inB; rw [HS.out, HT.out]; simp), (hB _ _).trans (h2.mono (by simp; omega))⟩

set_option maxRecDepth 100000 in
set_option maxHeartbeats 2000000 in
theorem frame_May3 (stream code n : Int) (addr : AdM) (data : List UInt8) (x z : Option Addr) (c k : Nat) (hr : RdV w ⟨3, stream, code, n, addr, data⟩ x z c k) :
    Calls Try.prog 39 #[frV ⟨3, stream, code, n, addr, data⟩ (.slice x addr.ip.length c) (.slice z data.length k)] w fun e w' => e = .returned (.bool (⟨3, stream, code, n, addr, data⟩ : FrM).may) ∧ Below w.heap.size w w' := by
  have e1 := hid_ (show (⟨3, stream, code, n, addr, data⟩ : FrM).may = (inB stream 1 65535 && inB data.length 1 4000 && sameFr ⟨3, stream, code, n, addr, data⟩ (⟨3, stream, 0, 0, AdM.zero, data⟩)) by unfold FrM.may FrM.okB FrM.plain; simp [FrM.of])
  have hA : ∀ o p, Sat w ((w.alloc o).alloc p) (Blk (w.heap.size + 1) p :: Blk w.heap.size o :: []) := fun o p => (Sat.refl w).alloc2 o p
  have hB : ∀ o p, Below w.heap.size w ((w.alloc o).alloc p) := fun o p => (hA o p).below
  have hd := hr.data.len
  unfold maxLen at hd
  unfold frV
  go_enter Try.func39, Try.ntmps39
  go_wp2_with fail
  refine (frame_in _ _ _).mono ?_
  rintro _ w1 ⟨rfl, rfl⟩
  cases hst : (decide (1 ≤ stream) && decide (stream ≤ 65535))
  · go_wp2_with fail
    go_ret
    exact ⟨ret_bool (by rw [e1.out]; unfold inB; rw [hst]; simp), hB _ _⟩
  have HS := hid_ hst
  clear hst
  go_wp2_with fail
  refine (frame_in _ _ _).mono ?_
  rintro _ w1 ⟨rfl, rfl⟩
  cases hst : (decide (1 ≤ (data.length : Int)) && decide ((data.length : Int) ≤ 4000))
  · go_wp2_with fail
    go_ret
    exact ⟨ret_bool (by rw [e1.out]; unfold inB; rw [HS.out, hst]; simp), hB _ _⟩
  have HT := hid_ hst
  clear hst
  go_wp2_with fail
  refine (frame_Same ⟨3, stream, code, n, addr, data⟩ (⟨3, stream, 0, 0, AdM.zero, data⟩) x none z z c 0 k k (hr.ip.mono (hB _ _)) (RdB.nil _) (hr.data.mono (hB _ _)) (hr.data.mono (hB _ _))).mono ?_
  rintro _ w2 ⟨rfl, h2⟩
  go_wp2_with fail
  go_ret
  exact ⟨ret_bool (by rw [e1.out]; unfold inB; rw [HS.out, HT.out]; simp), (hB _ _).trans (h2.mono (by simp; omega))⟩

set_option maxRecDepth 100000 in
set_option maxHeartbeats 2000000 in
theorem frame_May6 (stream code n : Int) (addr : AdM) (data : List UInt8) (x z : Option Addr) (c k : Nat) (hr : RdV w ⟨6, stream, code, n, addr, data⟩ x z c k) :
    Calls Try.prog 39 #[frV ⟨6, stream, code, n, addr, data⟩ (.slice x addr.ip.length c) (.slice z data.length k)] w fun e w' => e = .returned (.bool (⟨6, stream, code, n, addr, data⟩ : FrM).may) ∧ Below w.heap.size w w' := by
  have e1 := hid_ (show (⟨6, stream, code, n, addr, data⟩ : FrM).may = (inB stream 1 65535 && inB n 1 65536 && sameFr ⟨6, stream, code, n, addr, data⟩ (⟨6, stream, 0, n, AdM.zero, []⟩)) by unfold FrM.may FrM.okB FrM.plain; simp [FrM.of])
  have hA : ∀ o p, Sat w ((w.alloc o).alloc p) (Blk (w.heap.size + 1) p :: Blk w.heap.size o :: []) := fun o p => (Sat.refl w).alloc2 o p
  have hB : ∀ o p, Below w.heap.size w ((w.alloc o).alloc p) := fun o p => (hA o p).below
  have hd := hr.data.len
  unfold maxLen at hd
  unfold frV
  go_enter Try.func39, Try.ntmps39
  go_wp2_with fail
  refine (frame_in _ _ _).mono ?_
  rintro _ w1 ⟨rfl, rfl⟩
  cases hst : (decide (1 ≤ stream) && decide (stream ≤ 65535))
  · go_wp2_with fail
    go_ret
    exact ⟨ret_bool (by rw [e1.out]; unfold inB; rw [hst]; simp), hB _ _⟩
  have HS := hid_ hst
  clear hst
  go_wp2_with fail
  refine (frame_in _ _ _).mono ?_
  rintro _ w1 ⟨rfl, rfl⟩
  cases hst : (decide (1 ≤ n) && decide (n ≤ 65536))
  · go_wp2_with fail
    go_ret
    exact ⟨ret_bool (by rw [e1.out]; unfold inB; rw [HS.out, hst]; simp), hB _ _⟩
  have HT := hid_ hst
  clear hst
  go_wp2_with fail
  refine (frame_Same ⟨6, stream, code, n, addr, data⟩ (⟨6, stream, 0, n, AdM.zero, []⟩) x none z none c 0 k 0 (hr.ip.mono (hB _ _)) (RdB.nil _) (hr.data.mono (hB _ _)) (RdB.nil _)).mono ?_
  rintro _ w2 ⟨rfl, h2⟩
  go_wp2_with fail
  go_ret
  exact ⟨ret_bool (by rw [e1.out]; unfold inB; rw [HS.out, HT.out]; simp), (hB _ _).trans (h2.mono (by simp; omega))⟩

set_option maxRecDepth 100000 in
set_option maxHeartbeats 2000000 in
theorem frame_May7 (stream code n : Int) (addr : AdM) (data : List UInt8) (x z : Option Addr) (c k : Nat) (hr : RdV w ⟨7, stream, code, n, addr, data⟩ x z c k) :
    Calls Try.prog 39 #[frV ⟨7, stream, code, n, addr, data⟩ (.slice x addr.ip.length c) (.slice z data.length k)] w fun e w' => e = .returned (.bool (⟨7, stream, code, n, addr, data⟩ : FrM).may) ∧ Below w.heap.size w w' := by
  have e1 := hid_ (show (⟨7, stream, code, n, addr, data⟩ : FrM).may = (stream == 0 && inB n 0 4294967295 && sameFr ⟨7, stream, code, n, addr, data⟩ (⟨7, stream, 0, n, AdM.zero, []⟩)) by unfold FrM.may FrM.okB FrM.plain; simp [FrM.of])
  have hA : ∀ o p, Sat w ((w.alloc o).alloc p) (Blk (w.heap.size + 1) p :: Blk w.heap.size o :: []) := fun o p => (Sat.refl w).alloc2 o p
  have hB : ∀ o p, Below w.heap.size w ((w.alloc o).alloc p) := fun o p => (hA o p).below
  have hd := hr.data.len
  unfold maxLen at hd
  unfold frV
  go_enter Try.func39, Try.ntmps39
  go_wp2_with fail
  refine (frame_in _ _ _).mono ?_
  rintro _ w1 ⟨rfl, rfl⟩
  cases hst : (decide (1 ≤ stream) && decide (stream ≤ 65535))
  all_goals
    have HS := hid_ hst
    clear hst
    by_cases hz : stream = 0
    · have hzb : (stream == 0) = true := by simp [hz]
      have HZ := hid_ hz
      clear hz
      go_wp2_with fail
      refine (frame_in _ _ _).mono ?_
      rintro _ w1 ⟨rfl, rfl⟩
      cases hst : (decide (0 ≤ n) && decide (n ≤ 4294967295))
      · go_wp2_with fail
        go_ret
        exact ⟨ret_bool (by rw [e1.out]; unfold inB; rw [hst]; simp), hB _ _⟩
      have HT := hid_ hst
      clear hst
      go_wp2_with fail
      refine (frame_Same ⟨7, stream, code, n, addr, data⟩ (⟨7, stream, 0, n, AdM.zero, []⟩) x none z none c 0 k 0 (hr.ip.mono (hB _ _)) (RdB.nil _) (hr.data.mono (hB _ _)) (RdB.nil _)).mono ?_
      rintro _ w2 ⟨rfl, h2⟩
      go_wp2_with fail
      go_ret
      exact ⟨ret_bool (by rw [e1.out]; unfold inB; rw [HT.out, hzb]; simp), (hB _ _).trans (h2.mono (by simp; omega))⟩
    · have hzb : (stream == 0) = false := by simp [hz]
      have HZ := hid_ hz
      clear hz
      go_wp2_with fail
      go_ret
      exact ⟨ret_bool (by rw [e1.out]; rw [hzb]; simp), hB _ _⟩

set_option maxRecDepth 100000 in
set_option maxHeartbeats 2000000 in
theorem frame_May8 (stream code n : Int) (addr : AdM) (data : List UInt8) (x z : Option Addr) (c k : Nat) (hr : RdV w ⟨8, stream, code, n, addr, data⟩ x z c k) :
    Calls Try.prog 39 #[frV ⟨8, stream, code, n, addr, data⟩ (.slice x addr.ip.length c) (.slice z data.length k)] w fun e w' => e = .returned (.bool (⟨8, stream, code, n, addr, data⟩ : FrM).may) ∧ Below w.heap.size w w' := by
  have e1 := hid_ (show (⟨8, stream, code, n, addr, data⟩ : FrM).may = (stream == 0 && inB n 0 4294967295 && sameFr ⟨8, stream, code, n, addr, data⟩ (⟨8, stream, 0, n, AdM.zero, []⟩)) by unfold FrM.may FrM.okB FrM.plain; simp [FrM.of])
  have hA : ∀ o p, Sat w ((w.alloc o).alloc p) (Blk (w.heap.size + 1) p :: Blk w.heap.size o :: []) := fun o p => (Sat.refl w).alloc2 o p
  have hB : ∀ o p, Below w.heap.size w ((w.alloc o).alloc p) := fun o p => (hA o p).below
  have hd := hr.data.len
  unfold maxLen at hd
  unfold frV
  go_enter Try.func39, Try.ntmps39
  go_wp2_with fail
  refine (frame_in _ _ _).mono ?_
  rintro _ w1 ⟨rfl, rfl⟩
  cases hst : (decide (1 ≤ stream) && decide (stream ≤ 65535))
  all_goals
    have HS := hid_ hst
    clear hst
    by_cases hz : stream = 0
    · have hzb : (stream == 0) = true := by simp [hz]
      have HZ := hid_ hz
      clear hz
      go_wp2_with fail
      refine (frame_in _ _ _).mono ?_
      rintro _ w1 ⟨rfl, rfl⟩
      cases hst : (decide (0 ≤ n) && decide (n ≤ 4294967295))
      · go_wp2_with fail
        go_ret
        exact ⟨ret_bool (by rw [e1.out]; unfold inB; rw [hst]; simp), hB _ _⟩
      have HT := hid_ hst
      clear hst
      go_wp2_with fail
      refine (frame_Same ⟨8, stream, code, n, addr, data⟩ (⟨8, stream, 0, n, AdM.zero, []⟩) x none z none c 0 k 0 (hr.ip.mono (hB _ _)) (RdB.nil _) (hr.data.mono (hB _ _)) (RdB.nil _)).mono ?_
      rintro _ w2 ⟨rfl, h2⟩
      go_wp2_with fail
      go_ret
      exact ⟨ret_bool (by rw [e1.out]; unfold inB; rw [HT.out, hzb]; simp), (hB _ _).trans (h2.mono (by simp; omega))⟩
    · have hzb : (stream == 0) = false := by simp [hz]
      have HZ := hid_ hz
      clear hz
      go_wp2_with fail
      go_ret
      exact ⟨ret_bool (by rw [e1.out]; rw [hzb]; simp), hB _ _⟩

set_option maxRecDepth 100000 in
set_option maxHeartbeats 2000000 in
theorem frame_May4 (stream code n : Int) (addr : AdM) (data : List UInt8) (x z : Option Addr) (c k : Nat) (hr : RdV w ⟨4, stream, code, n, addr, data⟩ x z c k) :
    Calls Try.prog 39 #[frV ⟨4, stream, code, n, addr, data⟩ (.slice x addr.ip.length c) (.slice z data.length k)] w fun e w' => e = .returned (.bool (⟨4, stream, code, n, addr, data⟩ : FrM).may) ∧ Below w.heap.size w w' := by
  have e1 := hid_ (show (⟨4, stream, code, n, addr, data⟩ : FrM).may = (inB stream 1 65535 && sameFr ⟨4, stream, code, n, addr, data⟩ (⟨4, stream, 0, 0, AdM.zero, []⟩)) by unfold FrM.may FrM.okB FrM.plain; simp [FrM.of])
  have hA : ∀ o p, Sat w ((w.alloc o).alloc p) (Blk (w.heap.size + 1) p :: Blk w.heap.size o :: []) := fun o p => (Sat.refl w).alloc2 o p
  have hB : ∀ o p, Below w.heap.size w ((w.alloc o).alloc p) := fun o p => (hA o p).below
  have hd := hr.data.len
  unfold maxLen at hd
  unfold frV
  go_enter Try.func39, Try.ntmps39
  go_wp2_with fail
  refine (frame_in _ _ _).mono ?_
  rintro _ w1 ⟨rfl, rfl⟩
  cases hst : (decide (1 ≤ stream) && decide (stream ≤ 65535))
  · go_wp2_with fail
    go_ret
    exact ⟨ret_bool (by rw [e1.out]; unfold inB; rw [hst]; simp), hB _ _⟩
  have HS := hid_ hst
  clear hst
  go_wp2_with fail
  refine (frame_Same ⟨4, stream, code, n, addr, data⟩ (⟨4, stream, 0, 0, AdM.zero, []⟩) x none z none c 0 k 0 (hr.ip.mono (hB _ _)) (RdB.nil _) (hr.data.mono (hB _ _)) (RdB.nil _)).mono ?_
  rintro _ w2 ⟨rfl, h2⟩
  go_wp2_with fail
  go_ret
  exact ⟨ret_bool (by rw [e1.out]; unfold inB; rw [HS.out]; simp), (hB _ _).trans (h2.mono (by simp; omega))⟩

set_option maxRecDepth 100000 in
set_option maxHeartbeats 2000000 in
theorem frame_MayNo (f : FrM) (x z : Option Addr) (c k : Nat) (hr : RdV w f x z c k) (h : f.kind < 1 ∨ 8 < f.kind) :
    Calls Try.prog 39 #[frV f (.slice x f.addr.ip.length c) (.slice z f.data.length k)] w fun e w' => e = .returned (.bool f.may) ∧ Below w.heap.size w w' := by
  have e1 := hid_ (show f.may = false by
    unfold FrM.may FrM.okB
    rw [if_neg (by omega), if_neg (by omega), if_neg (by omega), if_neg (by omega), if_neg (by omega), if_neg (by omega), if_neg (by omega)]
    rfl)
  have hA : ∀ o p, Sat w ((w.alloc o).alloc p) (Blk (w.heap.size + 1) p :: Blk w.heap.size o :: []) := fun o p => (Sat.refl w).alloc2 o p
  have hB : ∀ o p, Below w.heap.size w ((w.alloc o).alloc p) := fun o p => (hA o p).below
  have q1 : (f.kind == 1) = false := by rw [beq_eq_false_iff_ne]; omega
  have q2 : (f.kind == 2) = false := by rw [beq_eq_false_iff_ne]; omega
  have q3 : (f.kind == 3) = false := by rw [beq_eq_false_iff_ne]; omega
  have q4 : (f.kind == 4) = false := by rw [beq_eq_false_iff_ne]; omega
  have q5 : (f.kind == 5) = false := by rw [beq_eq_false_iff_ne]; omega
  have q6 : (f.kind == 6) = false := by rw [beq_eq_false_iff_ne]; omega
  have q7 : (f.kind == 7) = false := by rw [beq_eq_false_iff_ne]; omega
  have q8 : (f.kind == 8) = false := by rw [beq_eq_false_iff_ne]; omega
  clear h
  unfold frV
  go_enter Try.func39, Try.ntmps39
  go_wp2_with fail
  refine (frame_in _ _ _).mono ?_
  rintro _ w1 ⟨rfl, rfl⟩
  go_wp2_with fail
  go_ret
  exact ⟨ret_bool e1.out.symm, hB _ _⟩

theorem frame_May (f : FrM) (x z : Option Addr) (c k : Nat) (hr : RdV w f x z c k) :
    Calls Try.prog 39 #[frV f (.slice x f.addr.ip.length c) (.slice z f.data.length k)] w fun e w' => e = .returned (.bool f.may) ∧ Below w.heap.size w w' := by
  obtain ⟨kind, stream, code, n, addr, data⟩ := f
  by_cases h : kind < 1 ∨ 8 < kind
  · exact frame_MayNo _ x z c k hr h
  · have h' : kind = 1 ∨ kind = 2 ∨ kind = 3 ∨ kind = 4 ∨ kind = 5 ∨ kind = 6 ∨ kind = 7 ∨ kind = 8 := by omega
    rcases h' with rfl | rfl | rfl | rfl | rfl | rfl | rfl | rfl
    · exact frame_May1 _ _ _ _ _ x z c k hr
    · exact frame_May2 _ _ _ _ _ x z c k hr
    · exact frame_May3 _ _ _ _ _ x z c k hr
    · exact frame_May4 _ _ _ _ _ x z c k hr
    · exact frame_May5 _ _ _ _ _ x z c k hr
    · exact frame_May6 _ _ _ _ _ x z c k hr
    · exact frame_May7 _ _ _ _ _ x z c k hr
    · exact frame_May8 _ _ _ _ _ x z c k hr
end
end Go.Proofs.Ytkejadhkebjdcaa
