/- The document's MayFrame, walked kind by kind (printed by gen_rm.py). -/
import Derived.Test.YtkejadhkebjdcaaMayW
import Derived.Test.YtkejadhkebjdcaaRefFr
import Derived.Test.YtkejadhkebjdcaaRefAd
import Derived.Test.YtkejadhkebjdcaaFr9
namespace Go.Proofs.Ytkejadhkebjdcaa
open Go Go.RowKit
set_option linter.unusedVariables false
set_option linter.unusedSimpArgs false

section
variable {w0 w : World} {L : List Assn}
set_option maxRecDepth 100000 in
set_option maxHeartbeats 2000000 in
theorem ref_MayFrame_1 (stream code n : Int) (addr : AdM) (data : List UInt8) (x z : Option Addr) (c k : Nat) (hr : RdV w ⟨1, stream, code, n, addr, data⟩ x z c k) :
    Calls Try.prog 59 #[frV ⟨1, stream, code, n, addr, data⟩ (.slice x addr.ip.length c) (.slice z data.length k)] w fun e w' => e = .returned (.bool (⟨1, stream, code, n, addr, data⟩ : FrM).may) ∧ Below w.heap.size w w' := by
  have e1 := hid_ (show (⟨1, stream, code, n, addr, data⟩ : FrM).may = (inB stream 1 65535 && addr.may && sameFr ⟨1, stream, code, n, addr, data⟩ (⟨1, stream, 0, 0, addr, []⟩)) by unfold FrM.may FrM.okB FrM.plain; simp [FrM.of])
  have hA : ∀ o p, Sat w ((w.alloc o).alloc p) (Blk (w.heap.size + 1) p :: Blk w.heap.size o :: []) := fun o p => (Sat.refl w).alloc2 o p
  have hB : ∀ o p, Below w.heap.size w ((w.alloc o).alloc p) := fun o p => (hA o p).below
  have hd := hr.data.len
  unfold maxLen at hd
  have hA := fun (o p : Obj) => hA o p
  unfold frV
  by_cases h0 : stream < 0
  · have HS := hid_ (show inB stream 1 65535 = false by unfold inB; rw [Bool.and_eq_false_iff, decide_eq_false_iff_not, decide_eq_false_iff_not]; omega)
    have q5 : decide (stream < 0) = true := decide_eq_true h0
    clear h0
    go_enter Try.func59, Try.ntmps59
    go_wp2_with fail
    go_ret
    exact ⟨ret_bool (by rw [e1.out, HS.out]; simp), hB _ _⟩
  · have q5 : decide (stream < 0) = false := decide_eq_false h0
    by_cases h9 : 65535 < stream
    · have HS := hid_ (show inB stream 1 65535 = false by unfold inB; rw [Bool.and_eq_false_iff, decide_eq_false_iff_not, decide_eq_false_iff_not]; omega)
      have q6 : decide (65535 < stream) = true := decide_eq_true h9
      clear h0 h9
      go_enter Try.func59, Try.ntmps59
      go_wp2_with fail
      go_ret
      exact ⟨ret_bool (by rw [e1.out, HS.out]; simp), hB _ _⟩
    · have q6 : decide (65535 < stream) = false := decide_eq_false h9
      by_cases hz : stream = 0
      · have HS := hid_ (show inB stream 1 65535 = false by unfold inB; rw [Bool.and_eq_false_iff, decide_eq_false_iff_not, decide_eq_false_iff_not]; omega)
        have q7 : (stream == 0) = true := by simp [hz]
        clear h0 h9 hz
        go_enter Try.func59, Try.ntmps59
        go_wp2_with fail
        go_ret
        exact ⟨ret_bool (by rw [e1.out, HS.out]; simp), hB _ _⟩
      · have HS := hid_ (show inB stream 1 65535 = true by unfold inB; rw [decide_eq_true (by omega), decide_eq_true (by omega)]; rfl)
        have q7 : (stream == 0) = false := by simp [hz]
        clear h0 h9 hz
        go_enter Try.func59, Try.ntmps59
        obtain ⟨mb, hmb⟩ : ∃ mb, addr.may = mb := ⟨_, rfl⟩
        have HT := hid_ hmb
        clear hmb
        go_wp2_with fail
        refine (ref_MayAddr addr x c hr.name hr.ip.len).mono ?_
        rintro _ w1 ⟨rfl, h1⟩
        rw [HT.out]
        have h2 := (hA _ _).under h1
        clear h1
        cases mb
        · go_wp2_with fail
          go_ret
          exact ⟨ret_bool (by rw [e1.out, HT.out]; simp), h2.below⟩
        · obtain ⟨m0, m1, m2, m3, m4, m5, m6, m7, m8⟩ := h2.drop.cells9
          obtain ⟨z0, z1, z2, z3, z4, z5, z6, z7, z8⟩ := h2.cells9
          obtain ⟨y0, y1, y2, y3, y4, y5, y6, y7, y8⟩ := h2.frz9
          have h5 := (((h2.set 4 (.int .i64 addr.kind)).set 5 (.slice x addr.ip.length c)).set 6 (.string addr.name)).set 7 (.int .i64 addr.port)
          have hbx := h5.below
          clear h5
          go_wp2_with fail
          refine (ref_SameFrame ⟨1, stream, code, n, addr, data⟩ (⟨1, stream, 0, 0, addr, []⟩) x x z none c c k 0 (hr.ip.mono hbx) (hr.ip.mono hbx) (hr.data.mono hbx) (RdB.nil _)).mono ?_
          rintro _ w4 ⟨rfl, h3⟩
          go_wp2_with fail
          go_ret
          exact ⟨ret_bool (by rw [e1.out, HS.out, HT.out]; simp), hbx.trans (h3.mono hbx.size)⟩
set_option maxRecDepth 100000 in
set_option maxHeartbeats 2000000 in
theorem ref_MayFrame_2 (stream code n : Int) (addr : AdM) (data : List UInt8) (x z : Option Addr) (c k : Nat) (hr : RdV w ⟨2, stream, code, n, addr, data⟩ x z c k) :
    Calls Try.prog 59 #[frV ⟨2, stream, code, n, addr, data⟩ (.slice x addr.ip.length c) (.slice z data.length k)] w fun e w' => e = .returned (.bool (⟨2, stream, code, n, addr, data⟩ : FrM).may) ∧ Below w.heap.size w w' := by
  have e1 := hid_ (show (⟨2, stream, code, n, addr, data⟩ : FrM).may = (inB stream 1 65535 && inB code 0 8 && sameFr ⟨2, stream, code, n, addr, data⟩ (⟨2, stream, code, 0, AdM.zero, []⟩)) by unfold FrM.may FrM.okB FrM.plain; simp [FrM.of])
  have hA : ∀ o p, Sat w ((w.alloc o).alloc p) (Blk (w.heap.size + 1) p :: Blk w.heap.size o :: []) := fun o p => (Sat.refl w).alloc2 o p
  have hB : ∀ o p, Below w.heap.size w ((w.alloc o).alloc p) := fun o p => (hA o p).below
  have hd := hr.data.len
  unfold maxLen at hd
  unfold frV
  by_cases h0 : stream < 0
  · have HS := hid_ (show inB stream 1 65535 = false by unfold inB; rw [Bool.and_eq_false_iff, decide_eq_false_iff_not, decide_eq_false_iff_not]; omega)
    have q5 : decide (stream < 0) = true := decide_eq_true h0
    clear h0
    go_enter Try.func59, Try.ntmps59
    go_wp2_with fail
    go_ret
    exact ⟨ret_bool (by rw [e1.out, HS.out]; simp), hB _ _⟩
  · have q5 : decide (stream < 0) = false := decide_eq_false h0
    by_cases h9 : 65535 < stream
    · have HS := hid_ (show inB stream 1 65535 = false by unfold inB; rw [Bool.and_eq_false_iff, decide_eq_false_iff_not, decide_eq_false_iff_not]; omega)
      have q6 : decide (65535 < stream) = true := decide_eq_true h9
      clear h0 h9
      go_enter Try.func59, Try.ntmps59
      go_wp2_with fail
      go_ret
      exact ⟨ret_bool (by rw [e1.out, HS.out]; simp), hB _ _⟩
    · have q6 : decide (65535 < stream) = false := decide_eq_false h9
      by_cases hz : stream = 0
      · have HS := hid_ (show inB stream 1 65535 = false by unfold inB; rw [Bool.and_eq_false_iff, decide_eq_false_iff_not, decide_eq_false_iff_not]; omega)
        have q7 : (stream == 0) = true := by simp [hz]
        clear h0 h9 hz
        go_enter Try.func59, Try.ntmps59
        go_wp2_with fail
        go_ret
        exact ⟨ret_bool (by rw [e1.out, HS.out]; simp), hB _ _⟩
      · have HS := hid_ (show inB stream 1 65535 = true by unfold inB; rw [decide_eq_true (by omega), decide_eq_true (by omega)]; rfl)
        have q7 : (stream == 0) = false := by simp [hz]
        clear h0 h9 hz
        go_enter Try.func59, Try.ntmps59
        by_cases h1 : code < 0
        · have HT := hid_ (show inB code 0 8 = false by unfold inB; rw [decide_eq_false (by omega)]; rfl)
          have q1 : decide (code < 0) = true := decide_eq_true h1
          clear h1
          go_wp2_with fail
          go_ret
          exact ⟨ret_bool (by rw [e1.out, HT.out]; simp), hB _ _⟩
        · by_cases h2 : 8 < code
          · have HT := hid_ (show inB code 0 8 = false by unfold inB; rw [decide_eq_false (p := code ≤ 8) (by omega), Bool.and_false])
            have q1 : decide (code < 0) = false := decide_eq_false h1
            have q2 : decide (8 < code) = true := decide_eq_true h2
            clear h1 h2
            go_wp2_with fail
            go_ret
            exact ⟨ret_bool (by rw [e1.out, HT.out]; simp), hB _ _⟩
          · have HT := hid_ (show inB code 0 8 = true by unfold inB; rw [decide_eq_true (by omega), decide_eq_true (by omega)]; rfl)
            have q1 : decide (code < 0) = false := decide_eq_false h1
            have q2 : decide (8 < code) = false := decide_eq_false h2
            clear h1 h2
            have hbx := hB (.cells #[.int .i64 2, .int .i64 stream, .int .i64 code, .int .i64 n, .int .i64 addr.kind, .slice x addr.ip.length c, .string addr.name, .int .i64 addr.port, .slice z data.length k] 43 (0, 0)) (.cells #[.int .i64 2, .int .i64 stream, .int .i64 code, .int .i64 0, .int .i64 0, .slice none 0 0, .string ⟨#[]⟩, .int .i64 0, .slice none 0 0] 43 (0, 0))
            go_wp2_with fail
            refine (ref_SameFrame ⟨2, stream, code, n, addr, data⟩ (⟨2, stream, code, 0, AdM.zero, []⟩) x none z none c 0 k 0 (hr.ip.mono hbx) (RdB.nil _) (hr.data.mono hbx) (RdB.nil _)).mono ?_
            rintro _ w4 ⟨rfl, h3⟩
            go_wp2_with fail
            go_ret
            exact ⟨ret_bool (by rw [e1.out, HS.out, HT.out]; simp), hbx.trans (h3.mono hbx.size)⟩
set_option maxRecDepth 100000 in
set_option maxHeartbeats 2000000 in
theorem ref_MayFrame_3 (stream code n : Int) (addr : AdM) (data : List UInt8) (x z : Option Addr) (c k : Nat) (hr : RdV w ⟨3, stream, code, n, addr, data⟩ x z c k) :
    Calls Try.prog 59 #[frV ⟨3, stream, code, n, addr, data⟩ (.slice x addr.ip.length c) (.slice z data.length k)] w fun e w' => e = .returned (.bool (⟨3, stream, code, n, addr, data⟩ : FrM).may) ∧ Below w.heap.size w w' := by
  have e1 := hid_ (show (⟨3, stream, code, n, addr, data⟩ : FrM).may = (inB stream 1 65535 && inB data.length 1 4000 && sameFr ⟨3, stream, code, n, addr, data⟩ (⟨3, stream, 0, 0, AdM.zero, data⟩)) by unfold FrM.may FrM.okB FrM.plain; simp [FrM.of])
  have hA : ∀ o p, Sat w ((w.alloc o).alloc p) (Blk (w.heap.size + 1) p :: Blk w.heap.size o :: []) := fun o p => (Sat.refl w).alloc2 o p
  have hB : ∀ o p, Below w.heap.size w ((w.alloc o).alloc p) := fun o p => (hA o p).below
  have hd := hr.data.len
  unfold maxLen at hd
  unfold frV
  by_cases h0 : stream < 0
  · have HS := hid_ (show inB stream 1 65535 = false by unfold inB; rw [Bool.and_eq_false_iff, decide_eq_false_iff_not, decide_eq_false_iff_not]; omega)
    have q5 : decide (stream < 0) = true := decide_eq_true h0
    clear h0
    go_enter Try.func59, Try.ntmps59
    go_wp2_with fail
    go_ret
    exact ⟨ret_bool (by rw [e1.out, HS.out]; simp), hB _ _⟩
  · have q5 : decide (stream < 0) = false := decide_eq_false h0
    by_cases h9 : 65535 < stream
    · have HS := hid_ (show inB stream 1 65535 = false by unfold inB; rw [Bool.and_eq_false_iff, decide_eq_false_iff_not, decide_eq_false_iff_not]; omega)
      have q6 : decide (65535 < stream) = true := decide_eq_true h9
      clear h0 h9
      go_enter Try.func59, Try.ntmps59
      go_wp2_with fail
      go_ret
      exact ⟨ret_bool (by rw [e1.out, HS.out]; simp), hB _ _⟩
    · have q6 : decide (65535 < stream) = false := decide_eq_false h9
      by_cases hz : stream = 0
      · have HS := hid_ (show inB stream 1 65535 = false by unfold inB; rw [Bool.and_eq_false_iff, decide_eq_false_iff_not, decide_eq_false_iff_not]; omega)
        have q7 : (stream == 0) = true := by simp [hz]
        clear h0 h9 hz
        go_enter Try.func59, Try.ntmps59
        go_wp2_with fail
        go_ret
        exact ⟨ret_bool (by rw [e1.out, HS.out]; simp), hB _ _⟩
      · have HS := hid_ (show inB stream 1 65535 = true by unfold inB; rw [decide_eq_true (by omega), decide_eq_true (by omega)]; rfl)
        have q7 : (stream == 0) = false := by simp [hz]
        clear h0 h9 hz
        go_enter Try.func59, Try.ntmps59
        by_cases h1 : data.length < 1
        · have HT := hid_ (show inB data.length 1 4000 = false by unfold inB; rw [decide_eq_false (by omega)]; rfl)
          have q1 : decide ((data.length : Int) < 1) = true := decide_eq_true (by omega)
          have q1' : decide (data.length < 1) = true := decide_eq_true h1
          clear h1
          go_wp2_with fail
          go_ret
          exact ⟨ret_bool (by rw [e1.out, HT.out]; simp), hB _ _⟩
        · by_cases h2 : 4000 < data.length
          · have HT := hid_ (show inB data.length 1 4000 = false by unfold inB; rw [decide_eq_false (p := ((data.length : Nat) : Int) ≤ 4000) (by omega), Bool.and_false])
            have q1 : decide ((data.length : Int) < 1) = false := decide_eq_false (by omega)
            have q2 : decide ((4000 : Int) < (data.length : Int)) = true := decide_eq_true (by omega)
            have q3 : 0 < (data.length : Int) := by omega
            clear h1 h2
            go_wp2_with fail
            go_ret
            exact ⟨ret_bool (by rw [e1.out, HT.out]; simp), hB _ _⟩
          · have HT := hid_ (show inB data.length 1 4000 = true by unfold inB; rw [decide_eq_true (by omega), decide_eq_true (by omega)]; rfl)
            have q1 : decide ((data.length : Int) < 1) = false := decide_eq_false (by omega)
            have q2 : decide ((4000 : Int) < (data.length : Int)) = false := decide_eq_false (by omega)
            have q3 : 0 < (data.length : Int) := by omega
            clear h1 h2
            have hbx := hB (.cells #[.int .i64 3, .int .i64 stream, .int .i64 code, .int .i64 n, .int .i64 addr.kind, .slice x addr.ip.length c, .string addr.name, .int .i64 addr.port, .slice z data.length k] 43 (0, 0)) (.cells #[.int .i64 3, .int .i64 stream, .int .i64 0, .int .i64 0, .int .i64 0, .slice none 0 0, .string ⟨#[]⟩, .int .i64 0, .slice z data.length k] 43 (0, 0))
            go_wp2_with fail
            refine (ref_SameFrame ⟨3, stream, code, n, addr, data⟩ (⟨3, stream, 0, 0, AdM.zero, data⟩) x none z z c 0 k k (hr.ip.mono hbx) (RdB.nil _) (hr.data.mono hbx) (hr.data.mono hbx)).mono ?_
            rintro _ w4 ⟨rfl, h3⟩
            go_wp2_with fail
            go_ret
            exact ⟨ret_bool (by rw [e1.out, HS.out, HT.out]; simp), hbx.trans (h3.mono hbx.size)⟩
set_option maxRecDepth 100000 in
set_option maxHeartbeats 2000000 in
theorem ref_MayFrame_4 (stream code n : Int) (addr : AdM) (data : List UInt8) (x z : Option Addr) (c k : Nat) (hr : RdV w ⟨4, stream, code, n, addr, data⟩ x z c k) :
    Calls Try.prog 59 #[frV ⟨4, stream, code, n, addr, data⟩ (.slice x addr.ip.length c) (.slice z data.length k)] w fun e w' => e = .returned (.bool (⟨4, stream, code, n, addr, data⟩ : FrM).may) ∧ Below w.heap.size w w' := by
  have e1 := hid_ (show (⟨4, stream, code, n, addr, data⟩ : FrM).may = (inB stream 1 65535 && sameFr ⟨4, stream, code, n, addr, data⟩ (⟨4, stream, 0, 0, AdM.zero, []⟩)) by unfold FrM.may FrM.okB FrM.plain; simp [FrM.of])
  have hA : ∀ o p, Sat w ((w.alloc o).alloc p) (Blk (w.heap.size + 1) p :: Blk w.heap.size o :: []) := fun o p => (Sat.refl w).alloc2 o p
  have hB : ∀ o p, Below w.heap.size w ((w.alloc o).alloc p) := fun o p => (hA o p).below
  have hd := hr.data.len
  unfold maxLen at hd
  unfold frV
  by_cases h0 : stream < 0
  · have HS := hid_ (show inB stream 1 65535 = false by unfold inB; rw [Bool.and_eq_false_iff, decide_eq_false_iff_not, decide_eq_false_iff_not]; omega)
    have q5 : decide (stream < 0) = true := decide_eq_true h0
    clear h0
    go_enter Try.func59, Try.ntmps59
    go_wp2_with fail
    go_ret
    exact ⟨ret_bool (by rw [e1.out, HS.out]; simp), hB _ _⟩
  · have q5 : decide (stream < 0) = false := decide_eq_false h0
    by_cases h9 : 65535 < stream
    · have HS := hid_ (show inB stream 1 65535 = false by unfold inB; rw [Bool.and_eq_false_iff, decide_eq_false_iff_not, decide_eq_false_iff_not]; omega)
      have q6 : decide (65535 < stream) = true := decide_eq_true h9
      clear h0 h9
      go_enter Try.func59, Try.ntmps59
      go_wp2_with fail
      go_ret
      exact ⟨ret_bool (by rw [e1.out, HS.out]; simp), hB _ _⟩
    · have q6 : decide (65535 < stream) = false := decide_eq_false h9
      by_cases hz : stream = 0
      · have HS := hid_ (show inB stream 1 65535 = false by unfold inB; rw [Bool.and_eq_false_iff, decide_eq_false_iff_not, decide_eq_false_iff_not]; omega)
        have q7 : (stream == 0) = true := by simp [hz]
        clear h0 h9 hz
        go_enter Try.func59, Try.ntmps59
        go_wp2_with fail
        go_ret
        exact ⟨ret_bool (by rw [e1.out, HS.out]; simp), hB _ _⟩
      · have HS := hid_ (show inB stream 1 65535 = true by unfold inB; rw [decide_eq_true (by omega), decide_eq_true (by omega)]; rfl)
        have q7 : (stream == 0) = false := by simp [hz]
        clear h0 h9 hz
        go_enter Try.func59, Try.ntmps59
        have hbx := hB (.cells #[.int .i64 4, .int .i64 stream, .int .i64 code, .int .i64 n, .int .i64 addr.kind, .slice x addr.ip.length c, .string addr.name, .int .i64 addr.port, .slice z data.length k] 43 (0, 0)) (.cells #[.int .i64 4, .int .i64 stream, .int .i64 0, .int .i64 0, .int .i64 0, .slice none 0 0, .string ⟨#[]⟩, .int .i64 0, .slice none 0 0] 43 (0, 0))
        go_wp2_with fail
        refine (ref_SameFrame ⟨4, stream, code, n, addr, data⟩ (⟨4, stream, 0, 0, AdM.zero, []⟩) x none z none c 0 k 0 (hr.ip.mono hbx) (RdB.nil _) (hr.data.mono hbx) (RdB.nil _)).mono ?_
        rintro _ w4 ⟨rfl, h3⟩
        go_wp2_with fail
        go_ret
        exact ⟨ret_bool (by rw [e1.out, HS.out]; simp), hbx.trans (h3.mono hbx.size)⟩
set_option maxRecDepth 100000 in
set_option maxHeartbeats 2000000 in
theorem ref_MayFrame_5 (stream code n : Int) (addr : AdM) (data : List UInt8) (x z : Option Addr) (c k : Nat) (hr : RdV w ⟨5, stream, code, n, addr, data⟩ x z c k) :
    Calls Try.prog 59 #[frV ⟨5, stream, code, n, addr, data⟩ (.slice x addr.ip.length c) (.slice z data.length k)] w fun e w' => e = .returned (.bool (⟨5, stream, code, n, addr, data⟩ : FrM).may) ∧ Below w.heap.size w w' := by
  have e1 := hid_ (show (⟨5, stream, code, n, addr, data⟩ : FrM).may = (inB stream 1 65535 && inB code 0 255 && sameFr ⟨5, stream, code, n, addr, data⟩ (⟨5, stream, code, 0, AdM.zero, []⟩)) by unfold FrM.may FrM.okB FrM.plain; simp [FrM.of])
  have hA : ∀ o p, Sat w ((w.alloc o).alloc p) (Blk (w.heap.size + 1) p :: Blk w.heap.size o :: []) := fun o p => (Sat.refl w).alloc2 o p
  have hB : ∀ o p, Below w.heap.size w ((w.alloc o).alloc p) := fun o p => (hA o p).below
  have hd := hr.data.len
  unfold maxLen at hd
  unfold frV
  by_cases h0 : stream < 0
  · have HS := hid_ (show inB stream 1 65535 = false by unfold inB; rw [Bool.and_eq_false_iff, decide_eq_false_iff_not, decide_eq_false_iff_not]; omega)
    have q5 : decide (stream < 0) = true := decide_eq_true h0
    clear h0
    go_enter Try.func59, Try.ntmps59
    go_wp2_with fail
    go_ret
    exact ⟨ret_bool (by rw [e1.out, HS.out]; simp), hB _ _⟩
  · have q5 : decide (stream < 0) = false := decide_eq_false h0
    by_cases h9 : 65535 < stream
    · have HS := hid_ (show inB stream 1 65535 = false by unfold inB; rw [Bool.and_eq_false_iff, decide_eq_false_iff_not, decide_eq_false_iff_not]; omega)
      have q6 : decide (65535 < stream) = true := decide_eq_true h9
      clear h0 h9
      go_enter Try.func59, Try.ntmps59
      go_wp2_with fail
      go_ret
      exact ⟨ret_bool (by rw [e1.out, HS.out]; simp), hB _ _⟩
    · have q6 : decide (65535 < stream) = false := decide_eq_false h9
      by_cases hz : stream = 0
      · have HS := hid_ (show inB stream 1 65535 = false by unfold inB; rw [Bool.and_eq_false_iff, decide_eq_false_iff_not, decide_eq_false_iff_not]; omega)
        have q7 : (stream == 0) = true := by simp [hz]
        clear h0 h9 hz
        go_enter Try.func59, Try.ntmps59
        go_wp2_with fail
        go_ret
        exact ⟨ret_bool (by rw [e1.out, HS.out]; simp), hB _ _⟩
      · have HS := hid_ (show inB stream 1 65535 = true by unfold inB; rw [decide_eq_true (by omega), decide_eq_true (by omega)]; rfl)
        have q7 : (stream == 0) = false := by simp [hz]
        clear h0 h9 hz
        go_enter Try.func59, Try.ntmps59
        by_cases h1 : code < 0
        · have HT := hid_ (show inB code 0 255 = false by unfold inB; rw [decide_eq_false (by omega)]; rfl)
          have q1 : decide (code < 0) = true := decide_eq_true h1
          clear h1
          go_wp2_with fail
          go_ret
          exact ⟨ret_bool (by rw [e1.out, HT.out]; simp), hB _ _⟩
        · by_cases h2 : 255 < code
          · have HT := hid_ (show inB code 0 255 = false by unfold inB; rw [decide_eq_false (p := code ≤ 255) (by omega), Bool.and_false])
            have q1 : decide (code < 0) = false := decide_eq_false h1
            have q2 : decide (255 < code) = true := decide_eq_true h2
            clear h1 h2
            go_wp2_with fail
            go_ret
            exact ⟨ret_bool (by rw [e1.out, HT.out]; simp), hB _ _⟩
          · have HT := hid_ (show inB code 0 255 = true by unfold inB; rw [decide_eq_true (by omega), decide_eq_true (by omega)]; rfl)
            have q1 : decide (code < 0) = false := decide_eq_false h1
            have q2 : decide (255 < code) = false := decide_eq_false h2
            clear h1 h2
            have hbx := hB (.cells #[.int .i64 5, .int .i64 stream, .int .i64 code, .int .i64 n, .int .i64 addr.kind, .slice x addr.ip.length c, .string addr.name, .int .i64 addr.port, .slice z data.length k] 43 (0, 0)) (.cells #[.int .i64 5, .int .i64 stream, .int .i64 code, .int .i64 0, .int .i64 0, .slice none 0 0, .string ⟨#[]⟩, .int .i64 0, .slice none 0 0] 43 (0, 0))
            go_wp2_with fail
            refine (ref_SameFrame ⟨5, stream, code, n, addr, data⟩ (⟨5, stream, code, 0, AdM.zero, []⟩) x none z none c 0 k 0 (hr.ip.mono hbx) (RdB.nil _) (hr.data.mono hbx) (RdB.nil _)).mono ?_
            rintro _ w4 ⟨rfl, h3⟩
            go_wp2_with fail
            go_ret
            exact ⟨ret_bool (by rw [e1.out, HS.out, HT.out]; simp), hbx.trans (h3.mono hbx.size)⟩
set_option maxRecDepth 100000 in
set_option maxHeartbeats 2000000 in
theorem ref_MayFrame_6 (stream code n : Int) (addr : AdM) (data : List UInt8) (x z : Option Addr) (c k : Nat) (hr : RdV w ⟨6, stream, code, n, addr, data⟩ x z c k) :
    Calls Try.prog 59 #[frV ⟨6, stream, code, n, addr, data⟩ (.slice x addr.ip.length c) (.slice z data.length k)] w fun e w' => e = .returned (.bool (⟨6, stream, code, n, addr, data⟩ : FrM).may) ∧ Below w.heap.size w w' := by
  have e1 := hid_ (show (⟨6, stream, code, n, addr, data⟩ : FrM).may = (inB stream 1 65535 && inB n 1 65536 && sameFr ⟨6, stream, code, n, addr, data⟩ (⟨6, stream, 0, n, AdM.zero, []⟩)) by unfold FrM.may FrM.okB FrM.plain; simp [FrM.of])
  have hA : ∀ o p, Sat w ((w.alloc o).alloc p) (Blk (w.heap.size + 1) p :: Blk w.heap.size o :: []) := fun o p => (Sat.refl w).alloc2 o p
  have hB : ∀ o p, Below w.heap.size w ((w.alloc o).alloc p) := fun o p => (hA o p).below
  have hd := hr.data.len
  unfold maxLen at hd
  unfold frV
  by_cases h0 : stream < 0
  · have HS := hid_ (show inB stream 1 65535 = false by unfold inB; rw [Bool.and_eq_false_iff, decide_eq_false_iff_not, decide_eq_false_iff_not]; omega)
    have q5 : decide (stream < 0) = true := decide_eq_true h0
    clear h0
    go_enter Try.func59, Try.ntmps59
    go_wp2_with fail
    go_ret
    exact ⟨ret_bool (by rw [e1.out, HS.out]; simp), hB _ _⟩
  · have q5 : decide (stream < 0) = false := decide_eq_false h0
    by_cases h9 : 65535 < stream
    · have HS := hid_ (show inB stream 1 65535 = false by unfold inB; rw [Bool.and_eq_false_iff, decide_eq_false_iff_not, decide_eq_false_iff_not]; omega)
      have q6 : decide (65535 < stream) = true := decide_eq_true h9
      clear h0 h9
      go_enter Try.func59, Try.ntmps59
      go_wp2_with fail
      go_ret
      exact ⟨ret_bool (by rw [e1.out, HS.out]; simp), hB _ _⟩
    · have q6 : decide (65535 < stream) = false := decide_eq_false h9
      by_cases hz : stream = 0
      · have HS := hid_ (show inB stream 1 65535 = false by unfold inB; rw [Bool.and_eq_false_iff, decide_eq_false_iff_not, decide_eq_false_iff_not]; omega)
        have q7 : (stream == 0) = true := by simp [hz]
        clear h0 h9 hz
        go_enter Try.func59, Try.ntmps59
        go_wp2_with fail
        go_ret
        exact ⟨ret_bool (by rw [e1.out, HS.out]; simp), hB _ _⟩
      · have HS := hid_ (show inB stream 1 65535 = true by unfold inB; rw [decide_eq_true (by omega), decide_eq_true (by omega)]; rfl)
        have q7 : (stream == 0) = false := by simp [hz]
        clear h0 h9 hz
        go_enter Try.func59, Try.ntmps59
        by_cases h1 : n < 1
        · have HT := hid_ (show inB n 1 65536 = false by unfold inB; rw [decide_eq_false (by omega)]; rfl)
          have q1 : decide (n < 1) = true := decide_eq_true h1
          clear h1
          go_wp2_with fail
          go_ret
          exact ⟨ret_bool (by rw [e1.out, HT.out]; simp), hB _ _⟩
        · by_cases h2 : 65536 < n
          · have HT := hid_ (show inB n 1 65536 = false by unfold inB; rw [decide_eq_false (p := n ≤ 65536) (by omega), Bool.and_false])
            have q1 : decide (n < 1) = false := decide_eq_false h1
            have q2 : decide (65536 < n) = true := decide_eq_true h2
            clear h1 h2
            go_wp2_with fail
            go_ret
            exact ⟨ret_bool (by rw [e1.out, HT.out]; simp), hB _ _⟩
          · have HT := hid_ (show inB n 1 65536 = true by unfold inB; rw [decide_eq_true (by omega), decide_eq_true (by omega)]; rfl)
            have q1 : decide (n < 1) = false := decide_eq_false h1
            have q2 : decide (65536 < n) = false := decide_eq_false h2
            clear h1 h2
            have hbx := hB (.cells #[.int .i64 6, .int .i64 stream, .int .i64 code, .int .i64 n, .int .i64 addr.kind, .slice x addr.ip.length c, .string addr.name, .int .i64 addr.port, .slice z data.length k] 43 (0, 0)) (.cells #[.int .i64 6, .int .i64 stream, .int .i64 0, .int .i64 n, .int .i64 0, .slice none 0 0, .string ⟨#[]⟩, .int .i64 0, .slice none 0 0] 43 (0, 0))
            go_wp2_with fail
            refine (ref_SameFrame ⟨6, stream, code, n, addr, data⟩ (⟨6, stream, 0, n, AdM.zero, []⟩) x none z none c 0 k 0 (hr.ip.mono hbx) (RdB.nil _) (hr.data.mono hbx) (RdB.nil _)).mono ?_
            rintro _ w4 ⟨rfl, h3⟩
            go_wp2_with fail
            go_ret
            exact ⟨ret_bool (by rw [e1.out, HS.out, HT.out]; simp), hbx.trans (h3.mono hbx.size)⟩
set_option maxRecDepth 100000 in
set_option maxHeartbeats 2000000 in
theorem ref_MayFrame_7 (stream code n : Int) (addr : AdM) (data : List UInt8) (x z : Option Addr) (c k : Nat) (hr : RdV w ⟨7, stream, code, n, addr, data⟩ x z c k) :
    Calls Try.prog 59 #[frV ⟨7, stream, code, n, addr, data⟩ (.slice x addr.ip.length c) (.slice z data.length k)] w fun e w' => e = .returned (.bool (⟨7, stream, code, n, addr, data⟩ : FrM).may) ∧ Below w.heap.size w w' := by
  have e1 := hid_ (show (⟨7, stream, code, n, addr, data⟩ : FrM).may = (stream == 0 && inB n 0 4294967295 && sameFr ⟨7, stream, code, n, addr, data⟩ (⟨7, stream, 0, n, AdM.zero, []⟩)) by unfold FrM.may FrM.okB FrM.plain; simp [FrM.of])
  have hA : ∀ o p, Sat w ((w.alloc o).alloc p) (Blk (w.heap.size + 1) p :: Blk w.heap.size o :: []) := fun o p => (Sat.refl w).alloc2 o p
  have hB : ∀ o p, Below w.heap.size w ((w.alloc o).alloc p) := fun o p => (hA o p).below
  have hd := hr.data.len
  unfold maxLen at hd
  unfold frV
  by_cases hz : stream = 0
  · have q5 : decide (stream < 0) = false := decide_eq_false (by omega)
    have q6 : decide (65535 < stream) = false := decide_eq_false (by omega)
    have q7 : (stream == 0) = true := by simp [hz]
    have HS := hid_ q7
    clear hz
    go_enter Try.func59, Try.ntmps59
    by_cases h1 : n < 0
    · have HT := hid_ (show inB n 0 4294967295 = false by unfold inB; rw [decide_eq_false (by omega)]; rfl)
      have q1 : decide (n < 0) = true := decide_eq_true h1
      clear h1
      go_wp2_with fail
      go_ret
      exact ⟨ret_bool (by rw [e1.out, HT.out]; simp), hB _ _⟩
    · by_cases h2 : 4294967295 < n
      · have HT := hid_ (show inB n 0 4294967295 = false by unfold inB; rw [decide_eq_false (p := n ≤ 4294967295) (by omega), Bool.and_false])
        have q1 : decide (n < 0) = false := decide_eq_false h1
        have q2 : decide (4294967295 < n) = true := decide_eq_true h2
        clear h1 h2
        go_wp2_with fail
        go_ret
        exact ⟨ret_bool (by rw [e1.out, HT.out]; simp), hB _ _⟩
      · have HT := hid_ (show inB n 0 4294967295 = true by unfold inB; rw [decide_eq_true (by omega), decide_eq_true (by omega)]; rfl)
        have q1 : decide (n < 0) = false := decide_eq_false h1
        have q2 : decide (4294967295 < n) = false := decide_eq_false h2
        clear h1 h2
        have hbx := hB (.cells #[.int .i64 7, .int .i64 stream, .int .i64 code, .int .i64 n, .int .i64 addr.kind, .slice x addr.ip.length c, .string addr.name, .int .i64 addr.port, .slice z data.length k] 43 (0, 0)) (.cells #[.int .i64 7, .int .i64 stream, .int .i64 0, .int .i64 n, .int .i64 0, .slice none 0 0, .string ⟨#[]⟩, .int .i64 0, .slice none 0 0] 43 (0, 0))
        go_wp2_with fail
        refine (ref_SameFrame ⟨7, stream, code, n, addr, data⟩ (⟨7, stream, 0, n, AdM.zero, []⟩) x none z none c 0 k 0 (hr.ip.mono hbx) (RdB.nil _) (hr.data.mono hbx) (RdB.nil _)).mono ?_
        rintro _ w4 ⟨rfl, h3⟩
        go_wp2_with fail
        go_ret
        exact ⟨ret_bool (by rw [e1.out, HS.out, HT.out]; simp), hbx.trans (h3.mono hbx.size)⟩
  · have q7 : (stream == 0) = false := by simp [hz]
    have HS := hid_ q7
    by_cases h0 : stream < 0
    · have q5 : decide (stream < 0) = true := decide_eq_true h0
      clear hz h0
      go_enter Try.func59, Try.ntmps59
      go_wp2_with fail
      go_ret
      exact ⟨ret_bool (by rw [e1.out, HS.out]; simp), hB _ _⟩
    · have q5 : decide (stream < 0) = false := decide_eq_false h0
      by_cases h9 : 65535 < stream
      · have q6 : decide (65535 < stream) = true := decide_eq_true h9
        clear hz h0 h9
        go_enter Try.func59, Try.ntmps59
        go_wp2_with fail
        go_ret
        exact ⟨ret_bool (by rw [e1.out, HS.out]; simp), hB _ _⟩
      · have q6 : decide (65535 < stream) = false := decide_eq_false h9
        clear hz h0 h9
        go_enter Try.func59, Try.ntmps59
        go_wp2_with fail
        go_ret
        exact ⟨ret_bool (by rw [e1.out, HS.out]; simp), hB _ _⟩
set_option maxRecDepth 100000 in
set_option maxHeartbeats 2000000 in
theorem ref_MayFrame_8 (stream code n : Int) (addr : AdM) (data : List UInt8) (x z : Option Addr) (c k : Nat) (hr : RdV w ⟨8, stream, code, n, addr, data⟩ x z c k) :
    Calls Try.prog 59 #[frV ⟨8, stream, code, n, addr, data⟩ (.slice x addr.ip.length c) (.slice z data.length k)] w fun e w' => e = .returned (.bool (⟨8, stream, code, n, addr, data⟩ : FrM).may) ∧ Below w.heap.size w w' := by
  have e1 := hid_ (show (⟨8, stream, code, n, addr, data⟩ : FrM).may = (stream == 0 && inB n 0 4294967295 && sameFr ⟨8, stream, code, n, addr, data⟩ (⟨8, stream, 0, n, AdM.zero, []⟩)) by unfold FrM.may FrM.okB FrM.plain; simp [FrM.of])
  have hA : ∀ o p, Sat w ((w.alloc o).alloc p) (Blk (w.heap.size + 1) p :: Blk w.heap.size o :: []) := fun o p => (Sat.refl w).alloc2 o p
  have hB : ∀ o p, Below w.heap.size w ((w.alloc o).alloc p) := fun o p => (hA o p).below
  have hd := hr.data.len
  unfold maxLen at hd
  unfold frV
  by_cases hz : stream = 0
  · have q5 : decide (stream < 0) = false := decide_eq_false (by omega)
    have q6 : decide (65535 < stream) = false := decide_eq_false (by omega)
    have q7 : (stream == 0) = true := by simp [hz]
    have HS := hid_ q7
    clear hz
    go_enter Try.func59, Try.ntmps59
    by_cases h1 : n < 0
    · have HT := hid_ (show inB n 0 4294967295 = false by unfold inB; rw [decide_eq_false (by omega)]; rfl)
      have q1 : decide (n < 0) = true := decide_eq_true h1
      clear h1
      go_wp2_with fail
      go_ret
      exact ⟨ret_bool (by rw [e1.out, HT.out]; simp), hB _ _⟩
    · by_cases h2 : 4294967295 < n
      · have HT := hid_ (show inB n 0 4294967295 = false by unfold inB; rw [decide_eq_false (p := n ≤ 4294967295) (by omega), Bool.and_false])
        have q1 : decide (n < 0) = false := decide_eq_false h1
        have q2 : decide (4294967295 < n) = true := decide_eq_true h2
        clear h1 h2
        go_wp2_with fail
        go_ret
        exact ⟨ret_bool (by rw [e1.out, HT.out]; simp), hB _ _⟩
      · have HT := hid_ (show inB n 0 4294967295 = true by unfold inB; rw [decide_eq_true (by omega), decide_eq_true (by omega)]; rfl)
        have q1 : decide (n < 0) = false := decide_eq_false h1
        have q2 : decide (4294967295 < n) = false := decide_eq_false h2
        clear h1 h2
        have hbx := hB (.cells #[.int .i64 8, .int .i64 stream, .int .i64 code, .int .i64 n, .int .i64 addr.kind, .slice x addr.ip.length c, .string addr.name, .int .i64 addr.port, .slice z data.length k] 43 (0, 0)) (.cells #[.int .i64 8, .int .i64 stream, .int .i64 0, .int .i64 n, .int .i64 0, .slice none 0 0, .string ⟨#[]⟩, .int .i64 0, .slice none 0 0] 43 (0, 0))
        go_wp2_with fail
        refine (ref_SameFrame ⟨8, stream, code, n, addr, data⟩ (⟨8, stream, 0, n, AdM.zero, []⟩) x none z none c 0 k 0 (hr.ip.mono hbx) (RdB.nil _) (hr.data.mono hbx) (RdB.nil _)).mono ?_
        rintro _ w4 ⟨rfl, h3⟩
        go_wp2_with fail
        go_ret
        exact ⟨ret_bool (by rw [e1.out, HS.out, HT.out]; simp), hbx.trans (h3.mono hbx.size)⟩
  · have q7 : (stream == 0) = false := by simp [hz]
    have HS := hid_ q7
    by_cases h0 : stream < 0
    · have q5 : decide (stream < 0) = true := decide_eq_true h0
      clear hz h0
      go_enter Try.func59, Try.ntmps59
      go_wp2_with fail
      go_ret
      exact ⟨ret_bool (by rw [e1.out, HS.out]; simp), hB _ _⟩
    · have q5 : decide (stream < 0) = false := decide_eq_false h0
      by_cases h9 : 65535 < stream
      · have q6 : decide (65535 < stream) = true := decide_eq_true h9
        clear hz h0 h9
        go_enter Try.func59, Try.ntmps59
        go_wp2_with fail
        go_ret
        exact ⟨ret_bool (by rw [e1.out, HS.out]; simp), hB _ _⟩
      · have q6 : decide (65535 < stream) = false := decide_eq_false h9
        clear hz h0 h9
        go_enter Try.func59, Try.ntmps59
        go_wp2_with fail
        go_ret
        exact ⟨ret_bool (by rw [e1.out, HS.out]; simp), hB _ _⟩
set_option maxRecDepth 100000 in
set_option maxHeartbeats 2000000 in
theorem ref_MayFrame_no (f : FrM) (x z : Option Addr) (c k : Nat) (hr : RdV w f x z c k) (h : f.kind < 1 ∨ 8 < f.kind) :
    Calls Try.prog 59 #[frV f (.slice x f.addr.ip.length c) (.slice z f.data.length k)] w fun e w' => e = .returned (.bool f.may) ∧ Below w.heap.size w w' := by
  have e1 := hid_ (show f.may = false by
    unfold FrM.may FrM.okB
    rw [if_neg (by omega), if_neg (by omega), if_neg (by omega), if_neg (by omega), if_neg (by omega), if_neg (by omega), if_neg (by omega)]
    rfl)
  have hB : ∀ o p, Below w.heap.size w ((w.alloc o).alloc p) := fun o p => ((Sat.refl w).alloc2 o p).below
  have q7 : (f.kind == 7) = false := by rw [beq_eq_false_iff_ne]; omega
  have q8 : (f.kind == 8) = false := by rw [beq_eq_false_iff_ne]; omega
  unfold frV
  rcases h with h | h
  · have q1 : decide (f.kind < 1) = true := decide_eq_true h
    clear h
    go_enter Try.func59, Try.ntmps59
    go_wp2_with fail
    go_ret
    exact ⟨ret_bool e1.out.symm, hB _ _⟩
  · have q1 : decide (f.kind < 1) = false := decide_eq_false (by omega)
    have q2 : decide (8 < f.kind) = true := decide_eq_true h
    clear h
    go_enter Try.func59, Try.ntmps59
    go_wp2_with fail
    go_ret
    exact ⟨ret_bool e1.out.symm, hB _ _⟩
theorem ref_MayFrame (f : FrM) (x z : Option Addr) (c k : Nat) (hr : RdV w f x z c k) :
    Calls Try.prog 59 #[frV f (.slice x f.addr.ip.length c) (.slice z f.data.length k)] w fun e w' => e = .returned (.bool f.may) ∧ Below w.heap.size w w' := by
  obtain ⟨kind, stream, code, n, addr, data⟩ := f
  by_cases h : kind < 1 ∨ 8 < kind
  · exact ref_MayFrame_no _ x z c k hr h
  · have h' : kind = 1 ∨ kind = 2 ∨ kind = 3 ∨ kind = 4 ∨ kind = 5 ∨ kind = 6 ∨ kind = 7 ∨ kind = 8 := by omega
    rcases h' with rfl | rfl | rfl | rfl | rfl | rfl | rfl | rfl
    · exact ref_MayFrame_1 _ _ _ _ _ x z c k hr
    · exact ref_MayFrame_2 _ _ _ _ _ x z c k hr
    · exact ref_MayFrame_3 _ _ _ _ _ x z c k hr
    · exact ref_MayFrame_4 _ _ _ _ _ x z c k hr
    · exact ref_MayFrame_5 _ _ _ _ _ x z c k hr
    · exact ref_MayFrame_6 _ _ _ _ _ x z c k hr
    · exact ref_MayFrame_7 _ _ _ _ _ x z c k hr
    · exact ref_MayFrame_8 _ _ _ _ _ x z c k hr
end
end Go.Proofs.Ytkejadhkebjdcaa
