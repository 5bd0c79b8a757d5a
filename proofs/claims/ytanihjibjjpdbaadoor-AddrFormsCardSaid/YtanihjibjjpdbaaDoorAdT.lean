/- strconv.Itoa and strings.Join over owned memory; addr.host of four bytes, walked. -/
import Derived.Test.YtanihjibjjpdbaaDoorShf
import Derived.Test.YtanihjibjjpdbaaDoorAdF
import Derived.WalkSmall
import Derived.Deep.RegionLaw
import Derived.Lib.AppendIntMem
namespace Go.Proofs.YtanihjibjjpdbaaDoor
open Go Go.RowKit
set_option linter.unusedVariables false
set_option linter.unusedSimpArgs false

/-- The library's table of powers of ten reads as it should. -/
def TabOk (w : World) : Prop := Lib.TabIs Tryd.prog w "internal/strconv.uint64pow10" .u64 Lib.pow10Tab
theorem gPow : Tryd.prog.globalNamed "internal/strconv.uint64pow10" = some 0 := by kernel_rfl
def itoaB (n : Int) : ByteArray := strOf (Lib.itoa n)
theorem decDigits_byte {u : Nat} (h : u < 256) : (Lib.decDigits u).length ≤ 3 := by
  rw [Lib.decDigits]
  split
  · simp
  · rw [List.length_append, Lib.decDigits]
    split
    · simp
    · rw [List.length_append, Lib.decDigits, dif_pos (by omega)]
      simp
theorem itoa_byte {u : Nat} (h : u < 256) : (Lib.itoa u).length ≤ 3 := by
  unfold Lib.itoa
  rw [if_neg (by omega)]
  exact decDigits_byte (by omega)
section
variable {w0 w : World} {L : List Assn}
theorem TabOk.later {w' : World} (h : TabOk w) (hb : Below w.heap.size w w') (h0 : 0 < w.heap.size) : TabOk w' := Go.var?_below hb gPow h0 h
theorem itoa_walk (n : Int) (h0 : -9223372036854775808 ≤ n) (h1 : n ≤ 9223372036854775807) (ht : TabOk w) : Calls Tryd.prog 22 #[.int .i64 n] w fun e w' => e = .returned (.string (itoaB n)) ∧ Below w.heap.size w w' := by
  refine (Tryd.strconv_Itoa n h0 h1 w ht).mono ?_
  rintro _ w' ⟨rfl, k, os, rfl⟩
  exact ⟨rfl, Lib.below_grow _ w (Nat.le_refl _) k os⟩

theorem info_str : ∃ i, Tryd.prog.info? 9 = some i ∧ i.zero = some (.string ⟨#[]⟩) ∧ i.size = 1 ∧ i.bytes = 16 := info_at (by kernel_rfl)
/-- One string more, in a region that draws its order. -/
theorem step_append_s {ops : Array Oper} {o : Oper} {a : Act} {K : Act → World → Prop} {Q : Exit → Act → World → Prop} (hgd : o.guard = none) (s x : Operand)
    (ho : o.op = .call { callee := .builtin .append, args := #[s, x], argTypes := #[49, 49] })
    {v : Value} {g c : Nat} {y : ByteArray} {n : Nat} {xs : List Value} (hv : a.eval s = v) (hs : Sat w0 w (OwnS 9 1 v n xs :: L)) (hx : a.eval x = .slice (some ⟨g, 0, none⟩) 1 c)
    (hb : w.heap[g]? = some (.cells #[.string y] 9 (0, 0))) (hn : n < 1000000)
    (h : ∀ a' c' w', Sat w0 w' (OwnS 9 1 (.slice a' (n + 1) c') (n + 1) (xs ++ [.string y]) :: L) → K (a.put o.dst (.slice a' (n + 1) c')) w') :
    if Region.wanted o (yielded ops a.tmps) = true then o.wp Tryd.prog a w K Q else K (a.put o.dst undef) w := by
  rw [if_pos (by simp [Region.wanted, hgd])]
  obtain ⟨i0, hi0, hz0, hz1, hz2⟩ := info_str
  obtain ⟨v', w', hr, h2, _⟩ := run_append_sat (P := Tryd.prog) (ty := o.type) Tryd.underlying49 hi0 hz0 hz1 hz2 rfl hs (src_blk Tryd.underlying49 (c := c) (cs := [.string y]) hb rfl (by intro u hu; simp at hu; subst hu; rfl)) (by simp only [maxLen]; omega) (by omega)
  unfold Oper.wp execOp
  simp only [ho, resolve, invoke, builtin, Sem.run_bind, Sem.run_pure, Result.andThen_ok, List.map_toArray, List.map_cons, List.map_nil, hv, hx, hr]
  obtain ⟨a', c', rfl, _, _⟩ := OwnS.form h2
  exact h a' c' w' h2

/-- strings.Join of an owned slice of strings, not empty. -/
theorem join_walk {xs : List ByteArray} {v : Value} {sep : ByteArray} {n : Nat} (hn : xs.length = n) (h0 : 0 < n) (hn2 : n ≤ 1000000) (h : Sat w0 w (OwnS 9 1 v n (xs.map fun s => .string s) :: L)) (hl : (Lib.join (xs.map (·.data.toList)) sep.data.toList).length ≤ 140737488355328) :
    Calls Tryd.prog 30 #[v, .string sep] w fun e w' => e = .returned (.string (strOf (Lib.join (xs.map (·.data.toList)) sep.data.toList))) ∧ Below w.heap.size w w' := by
  subst hn
  obtain ⟨b, o, c, rfl, hge, hlt, hc, _⟩ := OwnS.cells h h0
  obtain ⟨a2, c2, he, h1, h2⟩ := OwnS.form h
  injection he with _ _ e3
  subst e3
  simp only [maxLen] at h2
  exact Tryd.strings_Join b o c xs sep w (fun j y hj => hc j _ (by rw [List.getElem?_map, hj]; rfl)) hlt (by omega) h1 hl
/-- The texts of the first bytes. -/
def numsC (l : List UInt8) : List Value := l.map fun b => .string (itoaB b.toNat)
theorem numsC_snoc {l : List UInt8} {i : Nat} (h : i < l.length) : numsC (l.take i) ++ [.string (itoaB (l.getD i 0).toNat)] = numsC (l.take (i + 1)) := by
  unfold numsC
  rw [List.take_add_one, List.map_append, List.getD_eq_getElem?_getD, List.getElem?_eq_getElem h]
  rfl
def ip4 (l : List UInt8) : List UInt8 := Lib.join (l.map fun b => Lib.itoa b.toNat) [46]
theorem ip4_as (l : List UInt8) : ip4 l = Lib.join ((l.map fun b => itoaB b.toNat).map (·.data.toList)) (ByteArray.mk #[46]).data.toList := by
  unfold ip4
  rw [List.map_map]
  rfl
theorem ip4_len {l : List UInt8} (h : l.length = 4) : (ip4 l).length ≤ 15 := by
  match l, h with
  | [a, b, c, d], _ =>
    have ha := itoa_byte a.toNat_lt
    have hb := itoa_byte b.toNat_lt
    have hc := itoa_byte c.toNat_lt
    have hd := itoa_byte d.toNat_lt
    simp [ip4, Lib.join, List.intercalate]
    omega
set_option maxRecDepth 100000 in
set_option maxHeartbeats 2000000 in
theorem addr_host4 (a : AdM) (x : Option Addr) (c : Nat) (hk : a.kind = 1) (h4 : a.ip.length = 4) (ht : TabOk w0) (hz : 0 < w0.heap.size) (hs : Sat w0 w L) (hr0 : ∀ (W : World) (L' : List Assn), Sat w0 W (L' ++ L) → RdB W (.slice x a.ip.length c) a.ip) :
    Calls Tryd.prog 21 #[.agg #[.int .i64 a.kind, .slice x a.ip.length c, .string a.name, .int .i64 a.port]] w fun e w' => e = .returned (.string (strOf (ip4 a.ip))) ∧ Sat w0 w' L := by
  have HK := hid_ hk
  have H4 := hid_ h4
  have HZ := hid_ hz
  have HJ := hid_ (ip4_as a.ip)
  have HJL := hid_ (show (ip4 a.ip).length ≤ 140737488355328 by have := ip4_len h4; omega)
  have q1 : (a.kind == 1) = true := by simp [hk]
  obtain ⟨ip, hip⟩ : ∃ ip, a.ip = ip := ⟨_, rfl⟩
  rw [hip] at hr0 H4 HJ HJL ⊢
  rw [H4.out] at hr0 ⊢
  obtain ⟨g, hg⟩ : ∃ g, w.heap.size = g := ⟨_, rfl⟩
  have h3 := hs.alloc2 (.cells #[.int .i64 a.kind, .slice x 4 c, .string a.name, .int .i64 a.port] 25 (0, 0)) (.cells #[.slice none 0 0] 49 (0, 0))
  clear hk h4 hz
  have c1 : ((w.alloc (.cells #[.int .i64 a.kind, .slice x 4 c, .string a.name, .int .i64 a.port] 25 (0, 0))).alloc (.cells #[.slice none 0 0] 49 (0, 0))).cell? ⟨w.heap.size, 1, none⟩ = some (.slice x 4 c) := h3.drop.cell 1 rfl
  go_enter Tryd.func21, Tryd.ntmps21
  go_wp2_with fail
  go_loopg [5, 14] 5 (fun gg v5 v14 wr => ∃ i : Nat, i ≤ 4 ∧ 5 - i ≤ gg ∧ v14 = .int .i64 i ∧ ∃ pa pc, Sat w0 wr (Blk (g + 1) (.cells #[.slice pa i pc] 49 (0, 0)) :: OwnS 9 1 (.slice pa i pc) i (numsC (ip.take i)) :: Blk g (.cells #[.int .i64 a.kind, .slice x 4 c, .string a.name, .int .i64 a.port] 25 (0, 0)) :: L))
  case atStart =>
    refine ⟨0, by omega, by omega, rfl, none, 0, ?_⟩
    rw [hg] at h3
    exact Sat.swap (OwnS.nilI h3)
  case round =>
    obtain ⟨i, hi, hgg, rfl, pa, pc, h5⟩ := hrel
    clear h3 c1
    by_cases hlt : i < 4
    · obtain ⟨b0, o0, cap, he, hbl, -, -, hcx0⟩ := (hr0 wr [_, _, _] h5).at (i := i) (by rw [H4.out]; exact hlt)
      injection he with e1 e2 e3
      subst e1
      clear e2 e3
      have hcx := hcx0 i (by rw [H4.out]; exact hlt)
      clear hcx0
      have z1 : (i : Int) < 4 := by omega
      obtain ⟨u, hu⟩ : ∃ u : Nat, (ip.getD i 0).toNat = u := ⟨_, rfl⟩
      have hu8 : u < 256 := by rw [← hu]; exact UInt8.toNat_lt _
      have HU := hid_ hu
      rw [hu] at hcx
      have hA := h5.drew
      have cA : wr.drew.cell? ⟨g + 1, 0, none⟩ = some (.slice pa i pc) := hA.cell 0 rfl
      have HT := hid_ (ht.later hA.below HZ.out)
      have hI : ∀ W : World, TabOk W → Calls Tryd.prog 22 #[.int .i64 (IntKind.i64.wrap (u : Int))] W fun e w' => e = .returned (.string (itoaB u)) ∧ Below W.heap.size W w' := by
        intro W h
        rw [show IntKind.i64.wrap (u : Int) = (u : Int) by unfold IntKind.wrap; simp [IntKind.bits, IntKind.signed]; omega]
        exact itoa_walk (w := W) (u : Int) (by omega) (by omega) h
      have hi6 : i < 1000000 := by omega
      clear hu
      go_upto_region 7 with fail
      go_region_law (first
          | (refine step_append_s (w0 := w0) rfl _ _ rfl rfl (Sat.front [_, _] hC) rfl hC.blk.1 hi6 ?_; intro a9 k9 w9 hD; have fD := (Sat.front [_, _] hD).frozen 0; have cD : w9.cell? ⟨g + 1, 0, none⟩ = some (.slice pa i pc) := (Sat.front [_, _] hD).cell 0 rfl)
          | (go_simp; go_at_call 22; refine (hI _ HT.out).mono ?_; rintro _ w2 ⟨rfl, hb2⟩; have hB := hA.under hb2; have cB : w2.cell? ⟨g + 1, 0, none⟩ = some (.slice pa i pc) := hB.cell 0 rfl; have hC := hB.alloc (.cells #[.string (itoaB u)] 9 (0, 0)); have cC : (w2.alloc (.cells #[.string (itoaB u)] 9 (0, 0))).cell? ⟨g + 1, 0, none⟩ = some (.slice pa i pc) := hC.drop.cell 0 rfl))
      all_goals
        go_wp2_with fail
        go_roundg (5 - (i + 1))
        case measure => omega
        case rel =>
          rw [← HU.out, numsC_snoc (by rw [H4.out]; exact hlt)] at hD
          have hE := (Sat.front [_, _] ((Sat.front [_, _] hD).set 0 (.slice a9 (i + 1) k9))).drop
          simp only [List.setIfInBounds_toArray, List.set_cons_zero] at hE
          exact ⟨i + 1, by omega, by omega, by go_num, _, _, hE⟩
    · obtain rfl : i = 4 := by omega
      have cE : wr.cell? ⟨g + 1, 0, none⟩ = some (.slice pa 4 pc) := h5.cell 0 rfl
      rw [List.take_of_length_le (by rw [H4.out]; exact Nat.le_refl _)] at h5
      have hJ := join_walk (xs := ip.map fun b => itoaB b.toNat) (n := 4) (v := .slice pa 4 pc) (sep := ⟨#[46]⟩) (by simp [H4.out]) (by omega) (by omega) (by rw [List.map_map]; exact h5.swap) (by rw [← HJ.out]; exact HJL.out)
      rw [← HJ.out] at hJ
      go_wp2_with (go_at_call 30; refine hJ.mono ?_; rintro _ w3 ⟨rfl, hb3⟩)
      go_ret
      exact ⟨rfl, (h5.under hb3).drop.drop.drop⟩
end
end Go.Proofs.YtanihjibjjpdbaaDoor
