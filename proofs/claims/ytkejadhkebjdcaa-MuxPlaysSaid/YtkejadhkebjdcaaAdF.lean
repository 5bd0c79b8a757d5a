/- addr.Encode, walked. -/
import Derived.Deep.RegionHeld3
import Derived.Deep.DeepCutAuto
import Derived.Test.YtkejadhkebjdcaaApp
import Derived.Test.YtkejadhkebjdcaaAdE
namespace Go.Proofs.Ytkejadhkebjdcaa
open Go Go.RowKit
set_option linter.unusedVariables false
set_option linter.unusedSimpArgs false

theorem two_port {p : Int} (h0 : 0 ≤ p) (h1 : p ≤ 65535) : (#[.int .u8 (p / 256), .int .u8 (p % 256)] : Array Value) = (bytesC [UInt8.ofNat (p.toNat / 256), UInt8.ofNat p.toNat]).toArray := by
  simp only [bytesC, List.map_cons, List.map_nil, u8_nat]
  congr 3
  · omega
  · congr 2; omega
section
variable {w0 w : World} {L : List Assn}
set_option maxRecDepth 100000 in
set_option maxHeartbeats 1000000 in
theorem addr_Encode_no (a : AdM) (x : Option Addr) (c : Nat) (hn : a.name.size ≤ maxLen) (hl : a.ip.length ≤ maxLen) (hm : a.may = false) (hs : Sat w0 w L) :
    Calls Try.prog 67 #[.agg #[.int .i64 a.kind, .slice x a.ip.length c, .string a.name, .int .i64 a.port]] w fun e w' => e = .returned (.tuple #[.slice none 0 0, .int .i64 1]) ∧ Sat w0 w' L := by
  have HM := hid_ hm
  clear hm
  go_enter Try.func67, Try.ntmps67
  go_wp2_with fail
  refine (addr_May a x c hn hl).mono ?_
  rintro _ w2 ⟨rfl, hb⟩
  rw [HM.out]
  go_wp2
  go_ret2
  exact ⟨rfl, (hs.alloc_ _).under hb⟩
set_option maxRecDepth 100000 in
set_option maxHeartbeats 1000000 in
theorem addr_Encode_yes (a : AdM) (x : Option Addr) (c : Nat) (hm : a.may = true) (hs : Sat w0 w L) (hr0 : ∀ (W : World) (L' : List Assn), Sat w0 W (L' ++ L) → RdB W (.slice x a.ip.length c) a.ip) :
    Calls Try.prog 67 #[.agg #[.int .i64 a.kind, .slice x a.ip.length c, .string a.name, .int .i64 a.port]] w fun e w' => ∃ p k, e = .returned (.tuple #[.slice p a.enc.length k, .int .i64 0]) ∧ Sat w0 w' (OwnB 5 (.slice p a.enc.length k) a.enc :: L) := by
  have hl := (hr0 w [] hs).len
  have hbd := (may_iff a).1 hm
  have h4 := enc_four a hm
  have hn : a.name.size ≤ maxLen := by
    unfold maxLen
    rcases hbd.2.2 with ⟨_, _, h5⟩ | ⟨_, _, h5⟩ | ⟨_, h5, _⟩
    · omega
    · omega
    · have := nameOk_len h5; rw [size_data] at this; omega
  have hip : a.ip.length ≤ 68 := by have := enc_len a; omega
  have hp0 := hbd.1
  have hp1 := hbd.2.1
  have HM := hid_ hm
  have HB := hid_ hbd.2.2
  clear hm hbd
  by_cases h3 : a.kind = 3
  · have hk3 : (a.kind == 3) = true := by simp [h3]
    have hkb : 0 ≤ a.kind ∧ a.kind ≤ 255 := by omega
    have hsz : 1 ≤ a.name.size ∧ a.name.size ≤ 64 := by
      rcases HB.out with ⟨h, _⟩ | ⟨h, _⟩ | ⟨_, h, _⟩
      · omega
      · omega
      · have := nameOk_len h; rw [size_data] at this; omega
    clear h3
    go_enter Try.func67, Try.ntmps67
    go_wp2_with fail
    refine (addr_May a x c hn hl).mono ?_
    rintro _ w2 ⟨rfl, hb⟩
    rw [HM.out]
    have h2 := (hs.alloc (.cells #[.int .i64 a.kind, .slice x a.ip.length c, .string a.name, .int .i64 a.port] 41 (0, 0))).under hb
    obtain ⟨g, hg⟩ : ∃ g, w.heap.size = g := ⟨_, rfl⟩
    rw [hg] at h2
    rw [hg]
    clear hb hg
    have c0 : w2.cell? ⟨g, 0, none⟩ = some (.int .i64 a.kind) := h2.cell 0 rfl
    have c1 : w2.cell? ⟨g, 1, none⟩ = some (.slice x a.ip.length c) := h2.cell 1 rfl
    have hlt : g < w2.heap.size := h2.lt
    have hne : ¬ g = w2.heap.size := by omega
    have h3 := h2.alloc (.cells #[.int .u8 a.kind] 5 (0, 0))
    have h5 := OwnB.ofNew (l := [UInt8.ofNat a.kind.toNat]) (n := 1) h3 (by simp [bytesC, u8_nat]; omega) rfl (by omega)
    have hs5 := hr0 _ [_, _] h5
    go_wp2_with (at_builtin; refine wpList_append_b (w0 := w0) rfl _ _ 37 rfl rfl h5 rfl (slSrc hs5) _ (a.ip.length + 1) rfl (by simp) (by omega) ?_)
    intro a3 k3 w3 h6
    clear hs5 h5 h3 hne hlt c0 c1 h2
    have c0 : w3.cell? ⟨g, 0, none⟩ = some (.int .i64 a.kind) := (Sat.front [_] h6).cell 0 rfl
    have c2 : w3.cell? ⟨g, 2, none⟩ = some (.string a.name) := (Sat.front [_] h6).cell 2 rfl
    have c3 : w3.cell? ⟨g, 3, none⟩ = some (.int .i64 a.port) := (Sat.front [_] h6).cell 3 rfl
    have hlt : g < w3.heap.size := (Sat.front [_] h6).lt
    have hne : ¬ g = w3.heap.size := by omega
    have u9 : Try.prog.underlying 9 = some .string := Try.underlying9
    go_wp2_with fail
    go_cut [4] (fun v4 wx => ∃ a5 k5, v4 = .slice a5 (a.ip.length + 1 + 1 + a.name.size) k5 ∧ Sat w0 wx (OwnB 5 (.slice a5 (a.ip.length + 1 + 1 + a.name.size) k5) ((UInt8.ofNat a.kind.toNat :: a.ip) ++ [UInt8.ofNat a.name.size] ++ a.name.data.toList) :: Blk g (.cells #[.int .i64 a.kind, .slice x a.ip.length c, .string a.name, .int .i64 a.port] 41 (0, 0)) :: L))
    case first =>
      have hA := (h6.alloc (.cells #[.int .u8 (IntKind.u8.wrap a.name.size)] 5 (0, 0))).drew
      have hA8 := OwnB.rd (OwnB.ofNew (l := [UInt8.ofNat a.name.size]) (n := 1) hA (by simp [bytesC, u8_wrap_nat]) rfl (by omega))
      go_region_held3 (fun w' => w'.cell? ⟨g, 2, none⟩ = some (.string a.name)) (first | (simpa using c2) | exact (Sat.front [_, _] hA).cell 2 rfl | exact (Sat.front [_, _] hB).cell 2 rfl | exact (Sat.front [_, _] hC).cell 2 rfl)
        (first | (refine step_append_b (w0 := w0) rfl _ _ 37 rfl rfl (Sat.front [_] hA) rfl (slSrc hA8) _ (a.ip.length + 1 + 1) rfl (by simp) (by omega) ?_; intro a9 k9 w9 hB)
               | (refine step_append_b (w0 := w0) rfl _ _ 9 rfl rfl hB rfl (strSrc u9 a.name) _ (a.ip.length + 1 + 1 + a.name.size) rfl (by simp [str_len]; omega) (by omega) ?_; intro a10 k10 w10 hC))
      go_wp2_with fail
      go_meet
      exact ⟨_, _, rfl, hC.d2⟩
    obtain ⟨a5, k5, rfl, h6⟩ := hcut
    clear c0 c2 c3 hlt hne
    have c3 : wc.cell? ⟨g, 3, none⟩ = some (.int .i64 a.port) := (Sat.front [_] h6).cell 3 rfl
    have hlt : g < wc.heap.size := (Sat.front [_] h6).lt
    have hne : ¬ g = wc.heap.size := by omega
    have h7 := h6.alloc (.cells #[.int .u8 (a.port / 256), .int .u8 (a.port % 256)] 5 (0, 0))
    have h8 := OwnB.rd (OwnB.ofNew (l := [UInt8.ofNat (a.port.toNat / 256), UInt8.ofNat a.port.toNat]) (n := 2) h7 (two_port hp0 hp1) rfl (by omega))
    have HE := hid_ (show UInt8.ofNat a.kind.toNat :: a.ip ++ [UInt8.ofNat a.name.size] ++ a.name.data.toList ++ [UInt8.ofNat (a.port.toNat / 256), UInt8.ofNat a.port.toNat] = a.enc by unfold AdM.enc; rw [if_pos (by simpa using hk3)]; simp)
    have HL := hid_ (show a.enc.length = a.ip.length + 1 + 1 + a.name.size + 2 by rw [← HE.out]; simp [str_len]; omega)
    go_wp2_with (at_builtin; refine wpList_append_b (w0 := w0) rfl _ _ 37 rfl rfl (Sat.front [_] h7) rfl (slSrc h8) a.enc (a.ip.length + 1 + 1 + a.name.size + 2) HE.out HL.out (by omega) ?_)
    intro a4 k4 w4 h9
    go_wp2
    go_ret2
    exact ⟨a4, k4, by rw [HL.out]; rfl, by rw [HL.out]; exact h9.d2.d2⟩
  · have hk3 : (a.kind == 3) = false := by simp [h3]
    have hkb : 0 ≤ a.kind ∧ a.kind ≤ 255 := by have := HB.out; omega
    clear h3
    go_enter Try.func67, Try.ntmps67
    go_wp2_with fail
    refine (addr_May a x c hn hl).mono ?_
    rintro _ w2 ⟨rfl, hb⟩
    rw [HM.out]
    have h2 := (hs.alloc (.cells #[.int .i64 a.kind, .slice x a.ip.length c, .string a.name, .int .i64 a.port] 41 (0, 0))).under hb
    obtain ⟨g, hg⟩ : ∃ g, w.heap.size = g := ⟨_, rfl⟩
    rw [hg] at h2
    rw [hg]
    clear hb hg
    have c0 : w2.cell? ⟨g, 0, none⟩ = some (.int .i64 a.kind) := h2.cell 0 rfl
    have c1 : w2.cell? ⟨g, 1, none⟩ = some (.slice x a.ip.length c) := h2.cell 1 rfl
    have hlt : g < w2.heap.size := h2.lt
    have hne : ¬ g = w2.heap.size := by omega
    have h3 := h2.alloc (.cells #[.int .u8 a.kind] 5 (0, 0))
    have h5 := OwnB.ofNew (l := [UInt8.ofNat a.kind.toNat]) (n := 1) h3 (by simp [bytesC, u8_nat]; omega) rfl (by omega)
    have hs5 := hr0 _ [_, _] h5
    go_wp2_with (at_builtin; refine wpList_append_b (w0 := w0) rfl _ _ 37 rfl rfl h5 rfl (slSrc hs5) _ (a.ip.length + 1) rfl (by simp) (by omega) ?_)
    intro a3 k3 w3 h6
    clear hs5 h5 h3 hne hlt c0 c1 h2
    have c0 : w3.cell? ⟨g, 0, none⟩ = some (.int .i64 a.kind) := (Sat.front [_] h6).cell 0 rfl
    have c3 : w3.cell? ⟨g, 3, none⟩ = some (.int .i64 a.port) := (Sat.front [_] h6).cell 3 rfl
    have hlt : g < w3.heap.size := (Sat.front [_] h6).lt
    have hne : ¬ g = w3.heap.size := by omega
    have h7 := h6.alloc (.cells #[.int .u8 (a.port / 256), .int .u8 (a.port % 256)] 5 (0, 0))
    have h8 := OwnB.rd (OwnB.ofNew (l := [UInt8.ofNat (a.port.toNat / 256), UInt8.ofNat a.port.toNat]) (n := 2) h7 (two_port hp0 hp1) rfl (by omega))
    have HE := hid_ (show UInt8.ofNat a.kind.toNat :: a.ip ++ [UInt8.ofNat (a.port.toNat / 256), UInt8.ofNat a.port.toNat] = a.enc by unfold AdM.enc; rw [if_neg (by simpa using hk3)]; simp)
    have HL := hid_ (show a.enc.length = a.ip.length + 1 + 2 by rw [← HE.out]; simp)
    go_wp2_with (at_builtin; refine wpList_append_b (w0 := w0) rfl _ _ 37 rfl rfl (Sat.front [_] h7) rfl (slSrc h8) a.enc (a.ip.length + 1 + 2) HE.out HL.out (by omega) ?_)
    intro a4 k4 w4 h9
    go_wp2
    go_ret2
    exact ⟨a4, k4, by rw [HL.out]; rfl, by rw [HL.out]; exact h9.d2.d2⟩
end
end Go.Proofs.Ytkejadhkebjdcaa
