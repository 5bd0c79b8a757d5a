/- A rule's text: acl.digits, walked. -/
import Derived.Test.YtmnjaaeljpleeaaDoorAclS
import Derived.Test.YtmnjaaeljpleeaaDoorFbt
namespace Go.Proofs.YtmnjaaeljpleeaaDoor
open Go Go.RowKit
set_option linter.unusedVariables false
set_option linter.unusedSimpArgs false

def digL (l : List UInt8) : List UInt8 := l.flatMap fun b => [hexD (b.toNat / 16), hexD (b.toNat % 16)]
theorem digL_succ {l : List UInt8} {i : Nat} (h : i < l.length) : digL (l.take (i + 1)) = digL (l.take i) ++ [hexD ((l.getD i 0).toNat / 16), hexD ((l.getD i 0).toNat % 16)] := by
  unfold digL
  rw [List.take_add_one, List.getElem?_eq_getElem h, Option.toList_some, List.flatMap_append]
  have e : l.getD i 0 = l[i] := by simp [List.getD, h]
  rw [e]
  simp
theorem digL_len (l : List UInt8) : (digL l).length = 2 * l.length := by
  unfold digL
  induction l with
  | nil => rfl
  | cons a l ih => simp only [List.flatMap_cons, List.length_append, ih, List.length_cons, List.length_nil]; omega
theorem hexL_one {u : Nat} (h : u < 16) : hexL u = [hexD u] := by
  unfold hexL
  rw [if_pos h]
  simp [lowH, Nat.mod_eq_of_lt h]
theorem u8_and15 (n : Nat) (h : n < 256) : bits .and .u8 (n : Int) 15 = ((n % 16 : Nat) : Int) := by
  have h1 : ∀ m : Fin 256, bits .and .u8 ((m.val : Nat) : Int) 15 = ((m.val % 16 : Nat) : Int) := by decide +kernel
  exact h1 ⟨n, h⟩
section
variable {w0 w : World} {L : List Assn}
theorem format1 (u : Nat) (hu : u < 16) (h : TzOk w0) (hs : Sat w0 w L) :
    Calls Tryd.prog 31 #[.int .i64 u, .int .i64 16] w fun e w' => e = .returned (.string (strOf [hexD u])) ∧ Sat w0 w' L := by
  have h1 := format16 u (by omega) h hs
  rw [hexL_one hu] at h1
  exact h1
set_option maxRecDepth 100000 in
set_option maxHeartbeats 2000000 in
theorem acl_digits (x : Option Addr) (c : Nat) (l : List UInt8) (hl : l.length ≤ 1000) (hz : TzOk w0) (hr : RdB w0 (.slice x l.length c) l) (hs : Sat w0 w L) :
    Calls Tryd.prog 24 #[.slice x l.length c] w fun e w' => e = .returned (.string (strOf (digL l))) ∧ Sat w0 w' L := by
  obtain ⟨n, hn⟩ : ∃ n, l.length = n := ⟨_, rfl⟩
  have HN := hid_ hn
  have HL := hid_ hl
  rw [hn] at hl
  have HR := hid_ hr
  rw [hn]
  clear hr hn
  go_enter Tryd.func24, Tryd.ntmps24
  go_wp2_with fail
  go_loopg [3, 5, 8] n (fun gg v3 _ v8 wr => ∃ i : Nat, i ≤ n ∧ n - i ≤ gg ∧ v3 = .string (strOf (digL (l.take i))) ∧ v8 = .int .i64 i ∧ Sat w0 wr L)
  case atStart => exact ⟨0, by omega, by omega, rfl, rfl, hs⟩
  case round =>
    obtain ⟨i, hi, hgg, rfl, rfl, h1⟩ := hrel
    clear hs
    by_cases hlt : i < n
    · obtain ⟨b, off, cap, he, hbl, h2, h3, h4⟩ := (HR.out.later h1).at (i := i) (by rw [HN.out]; exact hlt)
      injection he with he1 e10 he3
      clear e10
      subst he1 he3
      have c0 := h4 i (by rw [HN.out]; exact hlt)
      have HS := hid_ (digL_succ (l := l) (i := i) (by rw [HN.out]; exact hlt))
      obtain ⟨u, hu⟩ : ∃ u, (l.getD i 0).toNat = u := ⟨_, rfl⟩
      have hu8 : u < 256 := by rw [← hu]; exact UInt8.toNat_lt _
      rw [hu] at c0 HS
      have e15 := u8_and15 u hu8
      have f1 := fun (W : World) (h : Sat w0 W L) => format1 (u / 16) (by omega) hz h
      have f2 := fun (W : World) (h : Sat w0 W L) => format1 (u % 16) (by omega) hz h
      rw [Int.natCast_ediv] at f1
      obtain ⟨S, hS⟩ : ∃ S, strOf (digL (l.take i)) = S := ⟨_, rfl⟩
      have HSS := hid_ hS
      have hSz : S.size ≤ 2000 := by rw [← hS, strOf_size, digL_len, List.length_take]; omega
      have d1 : (strOf [hexD (u / 16)]).size = 1 := strOf_size _
      have d2 : (strOf [hexD (u % 16)]).size = 1 := strOf_size _
      rw [hS]
      clear hS hu h4 h2 h3
      go_wp2_with fail
      refine (f1 _ h1).mono ?_
      rintro _ w2 ⟨rfl, h2⟩
      go_wp2_with fail
      refine (f2 _ h2).mono ?_
      rintro _ w3 ⟨rfl, h3⟩
      have d3 : (strOf [hexD (u / 16)] ++ strOf [hexD (u % 16)]).size = 2 := by rw [ByteArray.size_append, d1, d2]
      have r1 : ¬ 9223372036854775807 < S.size + 2 := by omega
      go_wp2_with fail
      trace_state
      go_roundg (n - (i + 1))
      case measure => omega
      case rel => exact ⟨i + 1, by omega, by omega, by rw [HS.out, ← HSS.out, str_add, str_add]; rfl, by go_num, h3⟩
    · obtain rfl : i = n := by omega
      have HS := hid_ (show digL (l.take i) = digL l by rw [List.take_of_length_le (by rw [HN.out]; exact Nat.le_refl _)])
      go_wp2_with fail
      go_ret
      rw [HS.out]
      exact ⟨rfl, h1⟩
end
end Go.Proofs.YtmnjaaeljpleeaaDoor
