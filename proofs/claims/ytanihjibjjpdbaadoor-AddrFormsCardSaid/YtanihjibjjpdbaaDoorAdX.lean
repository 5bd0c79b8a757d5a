/- The document's AddrText, walked. -/
import Derived.Test.YtanihjibjjpdbaaDoorAdV
import Derived.Test.YtanihjibjjpdbaaDoorRefDa
namespace Go.Proofs.YtanihjibjjpdbaaDoor
open Go Go.RowKit
set_option linter.unusedVariables false
set_option linter.unusedSimpArgs false

theorem join_snoc (l : List (List UInt8)) (x sep : List UInt8) : Lib.join (l ++ [x]) sep = if l.length = 0 then x else Lib.join l sep ++ sep ++ x := by
  unfold Lib.join List.intercalate
  cases l with
  | nil => simp
  | cons a l =>
    rw [if_neg (by simp)]
    induction l generalizing a with
    | nil => simp
    | cons b l ih =>
      have := ih b
      simp only [List.cons_append, List.intersperse_cons_cons, List.flatten_cons, List.append_assoc] at this ⊢
      rw [this]
theorem join_len4 (l : List (List UInt8)) (c : UInt8) (h : ∀ x ∈ l, x.length ≤ 4) : (Lib.join l [c]).length ≤ 5 * l.length := by
  unfold Lib.join List.intercalate
  induction l with
  | nil => simp
  | cons a l ih =>
    have ha := h a (by simp)
    have ih' := ih (fun x hx => h x (by simp [hx]))
    cases l with
    | nil => simp; omega
    | cons b l =>
      simp only [List.intersperse_cons_cons, List.flatten_cons, List.length_append, List.length_cons, List.length_nil] at ih' ⊢
      omega
theorem strOf_size (l : List UInt8) : (strOf l).size = l.length := by simp [strOf, ByteArray.size]
def hexTo (ip : List UInt8) (i : Nat) : List UInt8 := Lib.join ((List.range i).map fun k => hexL (pairN ip k)) [58]
theorem hexTo_succ (ip : List UInt8) (i : Nat) : hexTo ip (i + 1) = if i = 0 then hexL (pairN ip i) else hexTo ip i ++ [58] ++ hexL (pairN ip i) := by
  unfold hexTo
  rw [List.range_succ, List.map_append, List.map_cons, List.map_nil, join_snoc, List.length_map, List.length_range]
theorem hexTo_len (ip : List UInt8) (i : Nat) : (hexTo ip i).length ≤ 5 * i := by
  have := join_len4 ((List.range i).map fun k => hexL (pairN ip k)) 58 (by
    intro x hx
    obtain ⟨k, _, rfl⟩ := List.mem_map.1 hx
    exact hexL_len _)
  rw [List.length_map, List.length_range] at this
  exact this
def numTo (ip : List UInt8) (i : Nat) : List UInt8 := Lib.join ((ip.take i).map fun b => Lib.itoa b.toNat) [46]
theorem numTo_succ {ip : List UInt8} {i : Nat} (h : i < ip.length) : numTo ip (i + 1) = if i = 0 then Lib.itoa (ip.getD i 0).toNat else numTo ip i ++ [46] ++ Lib.itoa (ip.getD i 0).toNat := by
  unfold numTo
  rw [List.take_add_one, List.getElem?_eq_getElem h, Option.toList_some, List.map_append, List.map_cons, List.map_nil, join_snoc, List.length_map, List.length_take]
  have e : ip.getD i 0 = ip[i] := by simp [List.getD, h]
  rw [e]
  congr 1
  have : min i ip.length = i := by omega
  rw [this]
theorem numTo_len (ip : List UInt8) (i : Nat) : (numTo ip i).length ≤ 5 * i := by
  have := join_len4 ((ip.take i).map fun b => Lib.itoa b.toNat) 46 (by
    intro x hx
    obtain ⟨k, _, rfl⟩ := List.mem_map.1 hx
    have := itoa_byte k.toNat_lt
    omega)
  rw [List.length_map, List.length_take] at this
  have : min i ip.length ≤ i := Nat.min_le_left _ _
  unfold numTo
  omega
theorem pair_high (ip : List UInt8) (k : Nat) : highB ip (2 * k) 2 = pairN ip k := by rw [high2]; rfl

section
variable {w0 w : World} {L : List Assn}
set_option maxRecDepth 100000 in
set_option maxHeartbeats 2000000 in
theorem formatU16 (u : Nat) (hu : u < 65536) (h : TzOk w0) (hs : Sat w0 w L) :
    Calls Tryd.prog 28 #[.int .u64 u, .int .i64 16] w fun e w' => e = .returned (.string (strOf (hexL u))) ∧ Sat w0 w' L := by
  go_enter Tryd.func28, Tryd.ntmps28
  go_wp2_with (first | (go_at_call 44; refine (format_bits16 u hu h hs).mono ?_; rintro _ w2 ⟨rfl, h2⟩) | go_in)
  go_ret
  exact ⟨rfl, h2⟩
set_option maxRecDepth 100000 in
set_option maxHeartbeats 2000000 in
theorem ref_AddrText_no (a : AdM) (x : Option Addr) (c : Nat) (hnn : a.name.size ≤ maxLen) (hl : a.ip.length ≤ maxLen) (hm : a.may = false) (hs : Sat w0 w L) :
    Calls Tryd.prog 18 #[.agg #[.int .i64 a.kind, .slice x a.ip.length c, .string a.name, .int .i64 a.port]] w fun e w' => e = .returned (.string (strOf [])) ∧ Sat w0 w' L := by
  have HM := hid_ hm
  clear hm
  go_enter Tryd.func18, Tryd.ntmps18
  go_wp2_with fail
  refine (ref_MayAddr a x c hnn hl).mono ?_
  rintro _ w2 ⟨rfl, hb⟩
  rw [HM.out]
  go_wp2_with fail
  go_ret
  exact ⟨rfl, (hs.alloc_ _).under hb⟩
set_option maxRecDepth 100000 in
set_option maxHeartbeats 4000000 in
theorem ref_AddrText6 (a : AdM) (x : Option Addr) (c : Nat) (hnn : a.name.size ≤ maxLen) (hm : a.may = true) (hk : a.kind = 4) (ht : TabOk w0) (hz : TzOk w0) (hs : Sat w0 w L) (hr0 : RdB w0 (.slice x a.ip.length c) a.ip) :
    Calls Tryd.prog 18 #[.agg #[.int .i64 a.kind, .slice x a.ip.length c, .string a.name, .int .i64 a.port]] w fun e w' => e = .returned (.string (strOf (txtA a))) ∧ Sat w0 w' L := by
  have hpp := (may_iff a).1 hm
  have hl := hr0.len
  have HP := hid_ (show 0 ≤ a.port ∧ a.port ≤ 65535 from ⟨hpp.1, hpp.2.1⟩)
  have HM := hid_ hm
  have q1 : (a.kind == 1) = false := by simp [hk]
  have q4 : (a.kind == 4) = true := by simp [hk]
  have HR := hid_ (show txtA a = [91] ++ hexTo a.ip 8 ++ [93] ++ [58] ++ Lib.itoa a.port by unfold txtA hostL; rw [if_pos hm, if_neg (by omega), if_pos hk]; rfl)
  have HPOS := hid_ ht.pos
  have HIT := hid_ (show (Lib.itoa a.port).length ≤ 5 from itoa_port hpp.1 hpp.2.1)
  have hv : ∀ M, Vw w0 (M ++ L) (.slice x a.ip.length c) a.ip := fun M W L' h => hr0.mono h.below
  clear hpp hm hk
  go_enter Tryd.func18, Tryd.ntmps18
  go_wp2_with fail
  refine (ref_MayAddr a x c hnn hl).mono ?_
  rintro _ w2 ⟨rfl, hb⟩
  rw [HM.out]
  have h2 := (hs.alloc (.cells #[.int .i64 a.kind, .slice x a.ip.length c, .string a.name, .int .i64 a.port] 25 (0, 0))).under hb
  obtain ⟨g, hg⟩ : ∃ g, w.heap.size = g := ⟨_, rfl⟩
  rw [hg] at h2 ⊢
  clear hb hg hs
  have c0 : w2.cell? ⟨g, 0, none⟩ = some (.int .i64 a.kind) := h2.cell 0 rfl
  have c2 : w2.cell? ⟨g, 2, none⟩ = some (.string a.name) := h2.cell 2 rfl
  go_wp2_with fail
  go_loopg [3, 36] 9 (fun gg v3 v36 wr => ∃ (i : Nat) (S : ByteArray), i ≤ 8 ∧ 8 - i ≤ gg ∧ v36 = .int .i64 i ∧ v3 = .string S ∧ Hid (S = strOf ([91] ++ hexTo a.ip i)) ∧ Sat w0 wr (Blk g (.cells #[.int .i64 a.kind, .slice x a.ip.length c, .string a.name, .int .i64 a.port] 25 (0, 0)) :: L))
  case atStart => exact ⟨0, _, by omega, by omega, rfl, rfl, hid_ rfl, h2⟩
  case round =>
    obtain ⟨i, S, hi, hgg, rfl, rfl, HS, h3⟩ := hrel
    clear c0 c2 h2
    have hsz : S.size ≤ 41 := by rw [HS.out, strOf_size]; have := hexTo_len a.ip i; simp only [List.length_append, List.length_singleton]; omega
    by_cases hlt : i < 8
    · have z1 : (i : Int) < 8 := by omega
      have c1 : wr.cell? ⟨g, 1, none⟩ = some (.slice x a.ip.length c) := h3.cell 1 rfl
      obtain ⟨u, hu⟩ : ∃ u, pairN a.ip i = u := ⟨_, rfl⟩
      have hu6 : u < 65536 := by rw [← hu]; exact pairN_lt _ _
      obtain ⟨j, hj⟩ : ∃ j, 2 * i = j := ⟨_, rfl⟩
      have hm2 : IntKind.i64.wrap (2 * (i : Int)) = (j : Int) := by rw [IntWalk.i64_in _ (by omega)]; omega
      have hH : ∀ W, Sat w0 W (Blk g (.cells #[.int .i64 a.kind, .slice x a.ip.length c, .string a.name, .int .i64 a.port] 25 (0, 0)) :: L) → Calls Tryd.prog 27 #[.slice x a.ip.length c, .int .i64 (j : Int), .int .i64 2] W fun e w' => e = .returned (.int .u64 u) ∧ Sat w0 w' (Blk g (.cells #[.int .i64 a.kind, .slice x a.ip.length c, .string a.name, .int .i64 a.port] 25 (0, 0)) :: L) := by
        intro W h
        have h1 := ref_High (i := 2 * i) (n := 2) rfl rfl (by omega) (by omega) (hv [_]) h
        rw [pair_high, hu, hj] at h1
        exact h1
      have hU : ∀ W, Sat w0 W (Blk g (.cells #[.int .i64 a.kind, .slice x a.ip.length c, .string a.name, .int .i64 a.port] 25 (0, 0)) :: L) → Calls Tryd.prog 28 #[.int .u64 u, .int .i64 16] W fun e w' => e = .returned (.string (strOf (hexL u))) ∧ Sat w0 w' (Blk g (.cells #[.int .i64 a.kind, .slice x a.ip.length c, .string a.name, .int .i64 a.port] 25 (0, 0)) :: L) := fun W h => formatU16 u hu6 hz h
      have ku : (strOf (hexL u)).size ≤ 4 := by rw [strOf_size]; exact hexL_len u
      obtain ⟨U, hUU⟩ : ∃ U, strOf (hexL u) = U := ⟨_, rfl⟩
      rw [hUU] at hU ku
      have HUU := hid_ hUU
      have HU := hid_ hu
      have HJ := hid_ hj
      clear hUU hu hj
      by_cases h0 : i = 0
      · subst h0
        obtain rfl : j = 0 := by have := HJ.out; omega
        clear hm2
        have r1 : ¬ 9223372036854775807 < S.size + U.size := by omega
        go_wp2_with fail
        refine (hH _ h3).mono ?_
        rintro _ w4 ⟨rfl, h4⟩
        go_wp2_with fail
        refine (hU _ h4).mono ?_
        rintro _ w5 ⟨rfl, h5⟩
        go_wp2_with fail
        go_roundg 7
        case measure => omega
        case rel => exact ⟨1, _, by omega, by omega, rfl, rfl, hid_ (by rw [HS.out, ← HUU.out, str_add, hexTo_succ, if_pos rfl, HU.out]; simp [hexTo, Lib.join, List.intercalate]), h5⟩
      · have z0 : (0 : Int) < (i : Int) := by omega
        have r0 : ¬ 9223372036854775807 < S.size + 1 := by omega
        have r1 : ¬ 9223372036854775807 < (S ++ ⟨#[58]⟩).size + U.size := by rw [ByteArray.size_append]; show ¬ 9223372036854775807 < S.size + 1 + U.size; omega
        have r2 : ¬ 9223372036854775807 < S.size + 1 + U.size := by omega
        have H0 := hid_ h0
        clear h0
        go_wp2_with fail
        refine (hH _ h3).mono ?_
        rintro _ w4 ⟨rfl, h4⟩
        go_wp2_with fail
        refine (hU _ h4).mono ?_
        rintro _ w5 ⟨rfl, h5⟩
        go_wp2_with fail
        go_roundg (8 - (i + 1))
        case measure => omega
        case rel => exact ⟨i + 1, _, by omega, by omega, by go_num, rfl, hid_ (by rw [HS.out, ← HUU.out, show (⟨#[58]⟩ : ByteArray) = strOf [58] from rfl, str_add, str_add, hexTo_succ, if_neg H0.out, HU.out]; simp), h5⟩
    · obtain rfl : i = 8 := by omega
      have c3 : wr.cell? ⟨g, 3, none⟩ = some (.int .i64 a.port) := h3.cell 3 rfl
      obtain ⟨T, hT⟩ : ∃ T, itoaB a.port = T := ⟨_, rfl⟩
      have hI : ∀ W, Sat w0 W (Blk g (.cells #[.int .i64 a.kind, .slice x a.ip.length c, .string a.name, .int .i64 a.port] 25 (0, 0)) :: L) → Calls Tryd.prog 22 #[.int .i64 a.port] W fun e W' => e = .returned (.string T) ∧ Sat w0 W' (Blk g (.cells #[.int .i64 a.kind, .slice x a.ip.length c, .string a.name, .int .i64 a.port] 25 (0, 0)) :: L) := by
        intro W hW
        have h := HP.out
        refine (itoa_walk a.port (by omega) (by omega) (ht.later hW.below HPOS.out)).mono ?_
        rintro _ W' ⟨rfl, hb⟩
        exact ⟨by rw [hT], hW.under hb⟩
      have kt : T.size ≤ 5 := by rw [← hT, itoaB, strOf_size]; exact HIT.out
      have r0 : ¬ 9223372036854775807 < S.size + 1 := by omega
      have r1 : ¬ 9223372036854775807 < S.size + 1 + 1 := by omega
      have r2 : ¬ 9223372036854775807 < (S ++ ⟨#[93]⟩).size + 1 := by rw [ByteArray.size_append]; show ¬ 9223372036854775807 < S.size + 1 + 1; omega
      have r3 : ¬ 9223372036854775807 < S.size + 1 + 1 + T.size := by omega
      have r4 : ¬ 9223372036854775807 < (S ++ ⟨#[93]⟩ ++ ⟨#[58]⟩).size + T.size := by rw [ByteArray.size_append, ByteArray.size_append]; show ¬ 9223372036854775807 < S.size + 1 + 1 + T.size; omega
      have HT := hid_ hT
      clear hT
      go_wp2_with fail
      refine (hI _ h3).mono ?_
      rintro _ w5 ⟨rfl, h5⟩
      go_wp2_with fail
      go_ret
      refine ⟨?_, h5.drop⟩
      rw [HR.out, HS.out, ← HT.out, itoaB, show (⟨#[93]⟩ : ByteArray) = strOf [93] from rfl, show (⟨#[58]⟩ : ByteArray) = strOf [58] from rfl, str_add, str_add, str_add]
      rfl
set_option maxRecDepth 100000 in
set_option maxHeartbeats 4000000 in
theorem ref_AddrText4 (a : AdM) (x : Option Addr) (c : Nat) (hnn : a.name.size ≤ maxLen) (hm : a.may = true) (hk : a.kind = 1) (ht : TabOk w0) (hs : Sat w0 w L) (hr0 : RdB w0 (.slice x a.ip.length c) a.ip) :
    Calls Tryd.prog 18 #[.agg #[.int .i64 a.kind, .slice x a.ip.length c, .string a.name, .int .i64 a.port]] w fun e w' => e = .returned (.string (strOf (txtA a))) ∧ Sat w0 w' L := by
  have hpp := (may_iff a).1 hm
  have hl := hr0.len
  have HP := hid_ (show 0 ≤ a.port ∧ a.port ≤ 65535 from ⟨hpp.1, hpp.2.1⟩)
  have HM := hid_ hm
  have q1 : (a.kind == 1) = true := by simp [hk]
  obtain ⟨h4, hn0⟩ : a.ip.length = 4 ∧ a.name.size = 0 := by
    rcases hpp.2.2 with ⟨_, h, h'⟩ | ⟨h, _, _⟩ | ⟨h, _, _⟩
    · exact ⟨h, h'⟩
    · omega
    · omega
  have HN := hid_ (empty_of_size hn0)
  have HR := hid_ (show txtA a = numTo a.ip 4 ++ [58] ++ Lib.itoa a.port by unfold txtA hostL ip4 numTo; rw [if_pos hm, if_pos hk, List.take_of_length_le (by omega)])
  have HPOS := hid_ ht.pos
  have HIT := hid_ (show (Lib.itoa a.port).length ≤ 5 from itoa_port hpp.1 hpp.2.1)
  have H4 := hid_ h4
  clear hpp hm hk hn0
  rw [h4] at hr0 ⊢
  clear h4
  go_enter Tryd.func18, Tryd.ntmps18
  go_wp2_with fail
  have hMy : ∀ W : World, Calls Tryd.prog 17 #[.agg #[.int .i64 a.kind, .slice x 4 c, .string a.name, .int .i64 a.port]] W fun e w' => e = .returned (.bool true) ∧ Below W.heap.size W w' := fun W => by
    have h := ref_MayAddr (w := W) a x c hnn hl
    rw [H4.out, HM.out] at h
    exact h
  refine (hMy _).mono ?_
  rintro _ w2 ⟨rfl, hb⟩
  have h2 := (hs.alloc (.cells #[.int .i64 a.kind, .slice x 4 c, .string a.name, .int .i64 a.port] 25 (0, 0))).under hb
  obtain ⟨g, hg⟩ : ∃ g, w.heap.size = g := ⟨_, rfl⟩
  rw [hg] at h2 ⊢
  clear hb hg hs
  have c0 : w2.cell? ⟨g, 0, none⟩ = some (.int .i64 a.kind) := h2.cell 0 rfl
  have c1 : w2.cell? ⟨g, 1, none⟩ = some (.slice x 4 c) := h2.cell 1 rfl
  have c2 : w2.cell? ⟨g, 2, none⟩ = some (.string a.name) := h2.cell 2 rfl
  go_wp2_with fail
  go_loopg [3, 4, 5, 19] 5 (fun gg v3 v4 v5 v19 wr => ∃ (i : Nat) (S : ByteArray), i ≤ 4 ∧ 4 - i ≤ gg ∧ v19 = .int .i64 i ∧ v3 = .string S ∧ Hid (S = strOf (numTo a.ip i)) ∧ Sat w0 wr (Blk g (.cells #[.int .i64 a.kind, .slice x 4 c, .string a.name, .int .i64 a.port] 25 (0, 0)) :: L))
  case atStart => exact ⟨0, _, by omega, by omega, rfl, rfl, hid_ (by rw [HN.out]; rfl), h2⟩
  case round =>
    obtain ⟨i, S, hi, hgg, rfl, rfl, HS, h3⟩ := hrel
    clear c0 c1 c2 h2
    have hsz : S.size ≤ 20 := by rw [HS.out, strOf_size]; have := numTo_len a.ip i; omega
    by_cases hlt : i < 4
    · have z1 : (i : Int) < 4 := by omega
      obtain ⟨b0, o0, cap, he, hbl, -, -, hcx0⟩ := (show RdB wr (.slice x a.ip.length c) a.ip by rw [H4.out]; exact hr0.mono h3.below).at (i := i) (by rw [H4.out]; exact hlt)
      injection he with e1 e2 e3
      subst e1
      clear e2 e3
      have hcx := hcx0 i (by rw [H4.out]; exact hlt)
      clear hcx0
      obtain ⟨u, hu⟩ : ∃ u : Nat, (a.ip.getD i 0).toNat = u := ⟨_, rfl⟩
      have hu8 : u < 256 := by rw [← hu]; exact UInt8.toNat_lt _
      have HU := hid_ hu
      rw [hu] at hcx
      clear hu
      obtain ⟨U, hUU⟩ : ∃ U, itoaB (u : Int) = U := ⟨_, rfl⟩
      have ku : U.size ≤ 3 := by rw [← hUU, itoaB, strOf_size]; exact itoa_byte hu8
      have hI : ∀ W, Sat w0 W (Blk g (.cells #[.int .i64 a.kind, .slice (some ⟨b0, o0, none⟩) 4 c, .string a.name, .int .i64 a.port] 25 (0, 0)) :: L) → Calls Tryd.prog 22 #[.int .i64 (u : Int)] W fun e W' => e = .returned (.string U) ∧ Sat w0 W' (Blk g (.cells #[.int .i64 a.kind, .slice (some ⟨b0, o0, none⟩) 4 c, .string a.name, .int .i64 a.port] 25 (0, 0)) :: L) := by
        intro W hW
        refine (itoa_walk (u : Int) (by omega) (by omega) (ht.later hW.below HPOS.out)).mono ?_
        rintro _ W' ⟨rfl, hb⟩
        exact ⟨by rw [hUU], hW.under hb⟩
      have HUU := hid_ hUU
      clear hUU
      by_cases h0 : i = 0
      · subst h0
        rw [Nat.add_zero] at hcx
        have r1 : ¬ 9223372036854775807 < S.size + U.size := by omega
        go_wp2_with fail
        refine (hI _ h3).mono ?_
        rintro _ w5 ⟨rfl, h5⟩
        go_wp2_with fail
        go_roundg 3
        case measure => omega
        case rel => exact ⟨1, _, by omega, by omega, rfl, rfl, hid_ (by rw [HS.out, ← HUU.out, itoaB, str_add, numTo_succ (by rw [H4.out]; omega), if_pos rfl, HU.out]; simp [numTo, Lib.join, List.intercalate]), h5⟩
      · have z0 : (0 : Int) < (i : Int) := by omega
        have r0 : ¬ 9223372036854775807 < S.size + 1 := by omega
        have r1 : ¬ 9223372036854775807 < (S ++ ⟨#[46]⟩).size + U.size := by rw [ByteArray.size_append]; show ¬ 9223372036854775807 < S.size + 1 + U.size; omega
        have r2 : ¬ 9223372036854775807 < S.size + 1 + U.size := by omega
        have H0 := hid_ h0
        clear h0
        go_wp2_with fail
        refine (hI _ h3).mono ?_
        rintro _ w5 ⟨rfl, h5⟩
        go_wp2_with fail
        go_roundg (4 - (i + 1))
        case measure => omega
        case rel => exact ⟨i + 1, _, by omega, by omega, by go_num, rfl, hid_ (by rw [HS.out, ← HUU.out, itoaB, show (⟨#[46]⟩ : ByteArray) = strOf [46] from rfl, str_add, str_add, numTo_succ (by rw [H4.out]; omega), if_neg H0.out, HU.out]), h5⟩
    · obtain rfl : i = 4 := by omega
      have c3 : wr.cell? ⟨g, 3, none⟩ = some (.int .i64 a.port) := h3.cell 3 rfl
      obtain ⟨T, hT⟩ : ∃ T, itoaB a.port = T := ⟨_, rfl⟩
      have hI : ∀ W, Sat w0 W (Blk g (.cells #[.int .i64 a.kind, .slice x 4 c, .string a.name, .int .i64 a.port] 25 (0, 0)) :: L) → Calls Tryd.prog 22 #[.int .i64 a.port] W fun e W' => e = .returned (.string T) ∧ Sat w0 W' (Blk g (.cells #[.int .i64 a.kind, .slice x 4 c, .string a.name, .int .i64 a.port] 25 (0, 0)) :: L) := by
        intro W hW
        have h := HP.out
        refine (itoa_walk a.port (by omega) (by omega) (ht.later hW.below HPOS.out)).mono ?_
        rintro _ W' ⟨rfl, hb⟩
        exact ⟨by rw [hT], hW.under hb⟩
      have kt : T.size ≤ 5 := by rw [← hT, itoaB, strOf_size]; exact HIT.out
      have r0 : ¬ 9223372036854775807 < S.size + 1 := by omega
      have r3 : ¬ 9223372036854775807 < S.size + 1 + T.size := by omega
      have r4 : ¬ 9223372036854775807 < (S ++ ⟨#[58]⟩).size + T.size := by rw [ByteArray.size_append]; show ¬ 9223372036854775807 < S.size + 1 + T.size; omega
      have HT := hid_ hT
      clear hT
      go_wp2_with fail
      refine (hI _ h3).mono ?_
      rintro _ w5 ⟨rfl, h5⟩
      go_wp2_with fail
      go_ret
      refine ⟨?_, h5.drop⟩
      rw [HR.out, HS.out, ← HT.out, itoaB, show (⟨#[58]⟩ : ByteArray) = strOf [58] from rfl, str_add, str_add]
      rfl
set_option maxRecDepth 100000 in
set_option maxHeartbeats 4000000 in
theorem ref_AddrText3 (a : AdM) (x : Option Addr) (c : Nat) (hnn : a.name.size ≤ maxLen) (hm : a.may = true) (hk : a.kind = 3) (ht : TabOk w0) (hs : Sat w0 w L) (hr0 : RdB w0 (.slice x a.ip.length c) a.ip) :
    Calls Tryd.prog 18 #[.agg #[.int .i64 a.kind, .slice x a.ip.length c, .string a.name, .int .i64 a.port]] w fun e w' => e = .returned (.string (strOf (txtA a))) ∧ Sat w0 w' L := by
  have hpp := (may_iff a).1 hm
  have hl := hr0.len
  have HP := hid_ (show 0 ≤ a.port ∧ a.port ≤ 65535 from ⟨hpp.1, hpp.2.1⟩)
  have HM := hid_ hm
  have q1 : (a.kind == 1) = false := by simp [hk]
  have q4 : (a.kind == 4) = false := by simp [hk]
  have hn64 : a.name.size ≤ 64 := by
    rcases hpp.2.2 with ⟨h, _, _⟩ | ⟨h, _, _⟩ | ⟨_, h, _⟩
    · omega
    · omega
    · have := nameOk_len h; rw [size_data] at this; omega
  have HR := hid_ (show txtA a = a.name.data.toList ++ [58] ++ Lib.itoa a.port by unfold txtA hostL; rw [if_pos hm, if_neg (by omega), if_neg (by omega)])
  have HPOS := hid_ ht.pos
  have HIT := hid_ (show (Lib.itoa a.port).length ≤ 5 from itoa_port hpp.1 hpp.2.1)
  obtain ⟨S, hS⟩ : ∃ S, a.name = S := ⟨_, rfl⟩
  have HS := hid_ hS
  obtain ⟨T, hT⟩ : ∃ T, itoaB a.port = T := ⟨_, rfl⟩
  have hI : ∀ W, Sat w0 W (Blk w.heap.size (.cells #[.int .i64 a.kind, .slice x a.ip.length c, .string a.name, .int .i64 a.port] 25 (0, 0)) :: L) → Calls Tryd.prog 22 #[.int .i64 a.port] W fun e W' => e = .returned (.string T) ∧ Sat w0 W' (Blk w.heap.size (.cells #[.int .i64 a.kind, .slice x a.ip.length c, .string a.name, .int .i64 a.port] 25 (0, 0)) :: L) := by
    intro W hW
    have h := HP.out
    refine (itoa_walk a.port (by omega) (by omega) (ht.later hW.below HPOS.out)).mono ?_
    rintro _ W' ⟨rfl, hb⟩
    exact ⟨by rw [hT], hW.under hb⟩
  have kt : T.size ≤ 5 := by rw [← hT, itoaB, strOf_size]; exact HIT.out
  have HT := hid_ hT
  have hMy : ∀ W : World, Calls Tryd.prog 17 #[.agg #[.int .i64 a.kind, .slice x a.ip.length c, .string a.name, .int .i64 a.port]] W fun e w' => e = .returned (.bool true) ∧ Below W.heap.size W w' := fun W => by
    have h := ref_MayAddr (w := W) a x c hnn hl
    rw [HM.out] at h
    exact h
  rw [hS] at hI hMy hn64 ⊢
  clear hpp hm hk hT hS
  have r0 : ¬ 9223372036854775807 < S.size + 1 := by omega
  have r3 : ¬ 9223372036854775807 < S.size + 1 + T.size := by omega
  have r4 : ¬ 9223372036854775807 < (S ++ ⟨#[58]⟩).size + T.size := by rw [ByteArray.size_append]; show ¬ 9223372036854775807 < S.size + 1 + T.size; omega
  go_enter Tryd.func18, Tryd.ntmps18
  go_wp2_with fail
  refine (hMy _).mono ?_
  rintro _ w2 ⟨rfl, hb⟩
  have h2 := (hs.alloc (.cells #[.int .i64 a.kind, .slice x a.ip.length c, .string S, .int .i64 a.port] 25 (0, 0))).under hb
  clear hb hs
  have c0 : w2.cell? ⟨w.heap.size, 0, none⟩ = some (.int .i64 a.kind) := h2.cell 0 rfl
  have c2 : w2.cell? ⟨w.heap.size, 2, none⟩ = some (.string S) := h2.cell 2 rfl
  have c3 : w2.cell? ⟨w.heap.size, 3, none⟩ = some (.int .i64 a.port) := h2.cell 3 rfl
  go_wp2_with fail
  refine (hI _ h2).mono ?_
  rintro _ w5 ⟨rfl, h5⟩
  go_wp2_with fail
  go_ret
  refine ⟨?_, h5.drop⟩
  rw [HR.out, HS.out, ← HT.out, itoaB, show (⟨#[58]⟩ : ByteArray) = strOf [58] from rfl, ← str_add, ← str_add, strOf_data]
  rfl
theorem ref_AddrText (a : AdM) (x : Option Addr) (c : Nat) (hnn : a.name.size ≤ maxLen) (ht : TabOk w0) (hz : TzOk w0) (hs : Sat w0 w L) (hr0 : RdB w0 (.slice x a.ip.length c) a.ip) :
    Calls Tryd.prog 18 #[.agg #[.int .i64 a.kind, .slice x a.ip.length c, .string a.name, .int .i64 a.port]] w fun e w' => e = .returned (.string (strOf (txtA a))) ∧ Sat w0 w' L := by
  cases hm : a.may
  · rw [show txtA a = [] by unfold txtA; rw [hm]; rfl]
    exact ref_AddrText_no a x c hnn hr0.len hm hs
  · obtain ⟨_, _, h⟩ := (may_iff a).1 hm
    rcases h with ⟨hk, _⟩ | ⟨hk, _⟩ | ⟨hk, _⟩
    · exact ref_AddrText4 a x c hnn hm hk ht hs hr0
    · exact ref_AddrText6 a x c hnn hm hk ht hz hs hr0
    · exact ref_AddrText3 a x c hnn hm hk ht hs hr0
end
end Go.Proofs.YtanihjibjjpdbaaDoor
