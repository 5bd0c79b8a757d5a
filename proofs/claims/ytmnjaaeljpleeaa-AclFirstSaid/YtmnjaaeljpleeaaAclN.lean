/- The law AclNames, walked. -/
import Derived.Deep.RegionHeld3
import Derived.Test.YtmnjaaeljpleeaaAclP
namespace Go.Proofs.Ytmnjaaeljpleeaa
open Go Go.RowKit
set_option linter.unusedVariables false
set_option linter.unusedSimpArgs false

def nmA (s : ByteArray) (m : Int) : AdM := ⟨3, [], s, m⟩
def sfR (s : ByteArray) : RuleM := ⟨2, false, [], 0, s, 0, 65535⟩
theorem nm_may {s : ByteArray} {m : Int} (h0 : 0 ≤ m) (h1 : m ≤ 65535) : (nmA s m).may = nameOk s.data.toList := by
  unfold AdM.may nmA
  simp [h0, h1]
theorem sf_may (s : ByteArray) : (sfR s).may = nameOk s.data.toList := by
  unfold RuleM.may RuleM.kindB sfR
  simp
theorem nameOk_size {s : ByteArray} (h : nameOk s.data.toList = true) : 1 ≤ s.size ∧ s.size ≤ 64 := by
  unfold nameOk at h
  simp only [Bool.and_eq_true, decide_eq_true_eq] at h
  exact ⟨h.1.2, h.2⟩
theorem nameOk_app {s t : ByteArray} (hs : nameOk s.data.toList = true) (ht : nameOk t.data.toList = true) (hl : s.size + t.size ≤ 64) : nameOk (s ++ t).data.toList = true := by
  have h1 := nameOk_size hs
  have e : (s ++ t).data.toList = s.data.toList ++ t.data.toList := by simp
  have l1 : s.data.toList.length = s.size := rfl
  have l2 : t.data.toList.length = t.size := rfl
  unfold nameOk at *
  rw [e]
  simp only [Bool.and_eq_true, decide_eq_true_eq, List.all_append, List.length_append] at *
  exact ⟨⟨⟨hs.1.1, ht.1.1⟩, by omega⟩, by omega⟩
theorem suf_app (x y : ByteArray) (hx : 1 ≤ x.size) : sufB (x ++ y) (⟨#[46]⟩ ++ y) = (x.data.toList.drop (x.size - 1) == [46]) := by
  have e : (x ++ y).data.toList = x.data.toList ++ y.data.toList := by simp
  have e2 : ((⟨#[46]⟩ : ByteArray) ++ y).data.toList = 46 :: y.data.toList := by simp
  have s1 : (x ++ y).size = x.size + y.size := ByteArray.size_append
  have s2 : ((⟨#[46]⟩ : ByteArray) ++ y).size = 1 + y.size := ByteArray.size_append
  have l1 : x.data.toList.length = x.size := rfl
  unfold sufB
  rw [e, e2, s1, s2, decide_eq_true (by omega), show x.size + y.size - (1 + y.size) = x.size - 1 by omega, List.drop_append_of_le_length (by omega), Bool.true_and, Bool.eq_iff_iff]
  simp only [beq_iff_eq]
  constructor
  · intro h
    have : x.data.toList.drop (x.size - 1) ++ y.data.toList = [46] ++ y.data.toList := h
    exact List.append_cancel_right this
  · intro h
    rw [h]
    rfl

theorem sf_hit {name s : ByteArray} {m : Int} (h0 : 0 ≤ m) (h1 : m ≤ 65535) (hn : nameOk name.data.toList = true) (hs : nameOk s.data.toList = true) : (sfR name).hit (nmA s m) = (s.data.toList == name.data.toList || sufB s (⟨#[46]⟩ ++ name)) := by
  have e : (sfR name).hit (nmA s m) = ((sfR name).may && (nmA s m).may && decide (0 ≤ m) && decide (m ≤ 65535) && ((3 : Int) == 3 && (s.data.toList == name.data.toList || sufB s (⟨#[46]⟩ ++ name)))) := rfl
  rw [e, sf_may, hn, nm_may h0 h1, hs]
  simp [h0, h1]
theorem last_dot {x : ByteArray} {k : Nat} (hk : k < x.size) (hk1 : k = x.size - 1) : (x.data.toList.drop k == [46]) = (((x[k]).toNat : Int) == 46) := by
  have l1 : x.data.toList.length = x.size := rfl
  have e : x.data.toList.drop k = [x[k]] := by
    rw [List.drop_eq_getElem_cons (by omega), List.drop_of_length_le (by omega)]
    rfl
  rw [e, Bool.eq_iff_iff]
  simp only [beq_iff_eq, List.cons.injEq, and_true]
  constructor
  · intro h; rw [h]; rfl
  · intro h
    apply UInt8.toNat_inj.1
    have : (x[k]).toNat = 46 := by omega
    rw [this]; rfl

abbrev BoxR7 (w : World) (b : Nat) (s : ByteArray) : Prop := w.cell? ⟨b, 0, none⟩ = some (.int .i64 2) ∧ w.cell? ⟨b, 1, none⟩ = some (.bool false) ∧ w.cell? ⟨b, 2, none⟩ = some (.slice none 0 0) ∧ w.cell? ⟨b, 3, none⟩ = some (.int .i64 0) ∧ w.cell? ⟨b, 4, none⟩ = some (.string s) ∧ w.cell? ⟨b, 5, none⟩ = some (.int .i64 0) ∧ w.cell? ⟨b, 6, none⟩ = some (.int .i64 65535)
abbrev BoxA4 (w : World) (b : Nat) (s : ByteArray) (m : Int) : Prop := w.cell? ⟨b, 0, none⟩ = some (.int .i64 3) ∧ w.cell? ⟨b, 1, none⟩ = some (.slice none 0 0) ∧ w.cell? ⟨b, 2, none⟩ = some (.string s) ∧ w.cell? ⟨b, 3, none⟩ = some (.int .i64 m)
def RObj (s : ByteArray) : Obj := .cells #[.int .i64 2, .bool false, .slice none 0 0, .int .i64 0, .string s, .int .i64 0, .int .i64 65535] 30 (0, 0)
def AObj (s : ByteArray) (m : Int) : Obj := .cells #[.int .i64 3, .slice none 0 0, .string s, .int .i64 m] 25 (0, 0)

theorem w_index {P : Program} (w : World) (t : TypeId) (s : ByteArray) (kd : IntKind) (k : Nat) (h : P.underlying t = some .string) (hk : k < s.size) : (Instr.index t (.string s) (.int kd (k : Int))).run P w = .ok (.int .u8 ((s[k]'hk).toNat : Int)) w := by
  rw [run_index_string _ _ _ _ _ h, dif_pos ⟨by omega, by omega⟩]
  simp
attribute [local go_sem high] w_index

section
variable {w0 w : World} {L : List Assn}
theorem bx {b c r a : Nat} {name bn cn : ByteArray} {m : Int} (h : Sat w0 w (Blk b (AObj bn m) :: Blk c (AObj cn m) :: Blk r (RObj name) :: Blk a (AObj name m) :: L)) :
    BoxR7 w r name ∧ BoxA4 w a name m ∧ BoxA4 w b bn m ∧ BoxA4 w c cn m :=
  ⟨boxR h.drop.drop, boxA (a := nmA name m) h.drop.drop.drop, boxA (a := nmA bn m) h, boxA (a := nmA cn m) h.drop⟩
theorem rdR {name : ByteArray} (h : name.size ≤ maxLen) : RdRu w (sfR name) none 0 := ⟨OwnB.rd (t := 5) (OwnB.nilI (Sat.refl w)), h⟩
theorem rdA {name : ByteArray} {m : Int} (h : name.size ≤ maxLen) : RdAd w (nmA name m) none 0 := ⟨OwnB.rd (t := 5) (OwnB.nilI (Sat.refl w)), h⟩
theorem step_index {P : Program} {ops : Array Oper} {o : Oper} {a : Act} {K : Act → World → Prop} {Q : Exit → Act → World → Prop} (hw : Region.wanted o (yielded ops a.tmps) = true) (t : TypeId) (x i : Operand) (ho : o.op = .index t x i) {s : ByteArray} {k : Int} {v : Value} (hx : a.eval x = .string s) (hi : a.eval i = .int .i64 k)
    (hr : (Instr.index t (.string s) (.int .i64 k)).run P w = .ok v w) (h : K (a.put o.dst v) w) : if Region.wanted o (yielded ops a.tmps) = true then o.wp P a w K Q else K (a.put o.dst undef) w := by
  rw [if_pos hw]
  unfold Oper.wp execOp
  simp only [ho, Sem.run_bind, Sem.run_pure, Result.andThen_ok, hx, hi, hr]
  exact h

theorem match_nm (name s : ByteArray) (m : Int) (q : Bool) (hn : name.size ≤ maxLen) (hs : s.size ≤ maxLen) (hq : Hid ((sfR name).hit (nmA s m) = q)) :
    Calls Try.prog 11 #[.agg #[.int .i64 2, .bool false, .slice none 0 0, .int .i64 0, .string name, .int .i64 0, .int .i64 65535], .agg #[.int .i64 3, .slice none 0 0, .string s, .int .i64 m]] w fun e w' => e = .returned (.bool q) ∧ Below w.heap.size w w' := by
  rw [← hq.out]
  exact acl_Match (sfR name) (nmA s m) none none 0 0 (rdR hn) (rdA hs)

set_option maxRecDepth 100000 in
set_option maxHeartbeats 1000000 in
theorem acl_names_law (v u t : Value) (w : World) (hv : IsStr w v) (hu : IsStr w u) (ht : IsInt w t) :
    Calls Try.prog 5 #[v, u, t] w fun e w' => e = .returned (.bool true) ∧ Below w.heap.size w w' := by
  obtain ⟨name, rfl, hn⟩ := hv
  obtain ⟨below, rfl, hb⟩ := hu
  obtain ⟨n1, rfl, _⟩ := ht
  have hs := Sat.refl w
  have hb1 := um_bd n1 (m := 65536) (by omega) (by omega)
  obtain ⟨m, hm⟩ := Int.eq_ofNat_of_zero_le hb1.1
  rw [hm] at hb1
  have hm0 : (0 : Int) ≤ m := by omega
  have hm1 : (m : Int) ≤ 65535 := by omega
  cases hbig : decide (62 < IntKind.i64.wrap ((name.size : Int) + (below.size : Int)))
  · cases k1 : nameOk name.data.toList
    · have HM := hid_ (show (nmA name m).may = false by rw [nm_may hm0 hm1, k1])
      clear k1
      rw [decide_eq_false_iff_not, IntWalk.i64_left] at hbig
      go_enter Try.func5, Try.ntmps5
      go_wp2_with fail
      have s2 := hs.alloc2 (.cells #[.int .i64 3, .slice none 0 0, .string name, .int .i64 m] 25 (0, 0)) (.cells #[.int .i64 2, .bool false, .slice none 0 0, .int .i64 0, .string name, .int .i64 0, .int .i64 65535] 30 (0, 0))
      refine (ref_MayAddrV (a := nmA name m) (x := none) (c := 0) HM ⟨OwnB.rd (t := 5) (OwnB.nilI s2), hn⟩).mono ?_
      rintro _ w3 ⟨rfl, h3⟩
      have s3 := s2.under h3
      go_wp2_with fail
      refine (acl_awake s3).mono ?_
      rintro _ w4 ⟨rfl, h4⟩
      go_wp2_with fail
      go_ret
      exact ⟨rfl, h4.below⟩
    · cases k2 : nameOk below.data.toList
      · have HM := hid_ (show (nmA name m).may = true by rw [nm_may hm0 hm1, k1])
        have HM2 := hid_ (show (nmA below 0).may = false by rw [nm_may (by omega) (by omega), k2])
        clear k1 k2
        rw [decide_eq_false_iff_not, IntWalk.i64_left] at hbig
        go_enter Try.func5, Try.ntmps5
        go_wp2_with fail
        have s2 := hs.alloc2 (.cells #[.int .i64 3, .slice none 0 0, .string name, .int .i64 m] 25 (0, 0)) (.cells #[.int .i64 2, .bool false, .slice none 0 0, .int .i64 0, .string name, .int .i64 0, .int .i64 65535] 30 (0, 0))
        refine (ref_MayAddrV (a := nmA name m) (x := none) (c := 0) HM ⟨OwnB.rd (t := 5) (OwnB.nilI s2), hn⟩).mono ?_
        rintro _ w3 ⟨rfl, h3⟩
        have s3 := s2.under h3
        go_wp2_with fail
        refine (ref_MayAddrV (a := nmA below 0) (x := none) (c := 0) HM2 ⟨OwnB.rd (t := 5) (OwnB.nilI s3), hb⟩).mono ?_
        rintro _ w4 ⟨rfl, h4⟩
        have s4 := s3.under h4
        go_wp2_with fail
        refine (acl_awake s4).mono ?_
        rintro _ w5 ⟨rfl, h5⟩
        go_wp2_with fail
        go_ret
        exact ⟨rfl, h5.below⟩
      · have HM := hid_ (show (nmA name m).may = true by rw [nm_may hm0 hm1, k1])
        have HM2 := hid_ (show (nmA below 0).may = true by rw [nm_may (by omega) (by omega), k2])
        obtain ⟨z1, z2⟩ := nameOk_size k1
        obtain ⟨z3, z4⟩ := nameOk_size k2
        have E1 : IntKind.i64.wrap ((name.size : Int) + (below.size : Int)) = (name.size : Int) + (below.size : Int) := IntWalk.i64_in _ (by omega)
        rw [E1, decide_eq_false_iff_not] at hbig
        have hbig' : ¬ 62 < (name.size : Int) + (below.size : Int) := hbig
        have K1 := hid_ k1
        have K2 := hid_ k2
        clear hbig k1 k2
        have dot1 : (⟨#[46]⟩ : ByteArray).size = 1 := rfl
        have hadd1 : ∀ W : World, (Op.stringOp .add below ⟨#[46]⟩).run Try.prog W = .ok (.string (below ++ ⟨#[46]⟩)) W := fun W => run_string_add_sum (P := Try.prog) W _ _ (by omega)
        obtain ⟨bd, hbd⟩ : ∃ bd, below ++ (⟨#[46]⟩ : ByteArray) = bd := ⟨_, rfl⟩
        have zbd : bd.size = below.size + 1 := by rw [← hbd, ByteArray.size_append, dot1]
        have hadd2 : ∀ W : World, (Op.stringOp .add bd name).run Try.prog W = .ok (.string (bd ++ name)) W := fun W => run_string_add_sum (P := Try.prog) W _ _ (by omega)
        have hadd3 : ∀ W : World, (Op.stringOp .add below name).run Try.prog W = .ok (.string (below ++ name)) W := fun W => run_string_add_sum (P := Try.prog) W _ _ (by omega)
        obtain ⟨bn, hbn⟩ : ∃ bn, bd ++ name = bn := ⟨_, rfl⟩
        obtain ⟨cn, hcn⟩ : ∃ cn, below ++ name = cn := ⟨_, rfl⟩
        rw [hbd] at hadd1
        rw [hbn] at hadd2
        rw [hcn] at hadd3
        have HBD := hid_ hbd
        have HBN := hid_ hbn
        have HCN := hid_ hcn
        have ZBD := hid_ zbd
        have sbn : bn.size = below.size + 1 + name.size := by rw [← hbn, ByteArray.size_append, zbd]
        have scn : cn.size = below.size + name.size := by rw [← hcn, ByteArray.size_append]
        have HBS := hid_ (show bn.size ≤ maxLen by unfold maxLen; omega)
        have HCS := hid_ (show cn.size ≤ maxLen by unfold maxLen; omega)
        have hdot : nameOk (⟨#[46]⟩ : ByteArray).data.toList = true := by decide +kernel
        have okbd : nameOk bd.data.toList = true := by rw [← hbd]; exact nameOk_app K2.out hdot (by omega)
        have okbn : nameOk bn.data.toList = true := by rw [← hbn]; exact nameOk_app okbd K1.out (by omega)
        have okcn : nameOk cn.data.toList = true := by rw [← hcn]; exact nameOk_app K2.out K1.out (by omega)
        have H1 := hid_ (show (sfR name).hit (nmA name m) = true by rw [sf_hit hm0 hm1 K1.out K1.out]; simp)
        have H2 := hid_ (show (sfR name).hit (nmA bn m) = true by
          rw [sf_hit hm0 hm1 K1.out okbn, ← hbn, suf_app bd name (by omega), ← hbd]
          have e2 : (below ++ (⟨#[46]⟩ : ByteArray)).data.toList = below.data.toList ++ [46] := by simp
          have l1 : below.data.toList.length = below.size := rfl
          rw [e2, ByteArray.size_append, dot1, List.drop_append_of_le_length (by omega), show below.size + 1 - 1 = below.size by omega, List.drop_of_length_le (by omega)]
          simp)
        obtain ⟨k, hk⟩ : ∃ k, below.size - 1 = k := ⟨_, rfl⟩
        have hk1 : k < below.size := by omega
        have hki : (k : Int) < (below.size : Int) := by omega
        have E8 : (below.size : Int) - 1 = (k : Int) := by omega
        have E9 : IntKind.i64.wrap ((below.size : Int) - 1) = (k : Int) := by rw [IntWalk.i64_in _ (by omega)]; omega
        have E10 : wrap64 ((below.size : Int) - 1) = (k : Int) := by unfold wrap64; omega
        have E11 : IntKind.i64.wrap (k : Int) = (k : Int) := by rw [IntWalk.i64_in _ (by omega)]
        have hk00 : (0 : Int) ≤ (k : Int) ∧ (k : Int) < (below.size : Int) := by omega
        obtain ⟨q, hq⟩ : ∃ q, ((((below[k]'hk1).toNat : Nat) : Int) == 46) = q := ⟨_, rfl⟩
        have H3 := hid_ (show (sfR name).hit (nmA cn m) = q by
          rw [sf_hit hm0 hm1 K1.out okcn, ← hcn, suf_app below name (by omega), hk, last_dot hk1 hk.symm, hq]
          have : ((below ++ name).data.toList == name.data.toList) = false := by
            rw [beq_eq_false_iff_ne]
            intro h
            have h2 := congrArg List.length h
            have l1 : (below ++ name).data.toList.length = (below ++ name).size := rfl
            have l2 : name.data.toList.length = name.size := rfl
            rw [l1, l2, ByteArray.size_append] at h2
            omega
          rw [this, Bool.false_or])
        obtain ⟨xb, hxb⟩ : ∃ xb : Nat, (below[k]'hk1).toNat = xb := ⟨_, rfl⟩
        have hix : ∀ W : World, (Instr.index 9 (.string below) (.int .i64 (k : Int))).run Try.prog W = .ok (.int .u8 (xb : Int)) W := fun W => by
          rw [run_index_string _ _ _ _ _ Try.underlying9, dif_pos ⟨by omega, by omega⟩, ← hxb]
          simp
        clear hix
        clear hxb hbd hbn hcn zbd dot1 hk sbn scn okbd okbn okcn hdot
        cases q
        all_goals
          go_enter Try.func5, Try.ntmps5
          go_wp2_with fail
          have s2 := hs.alloc2 (.cells #[.int .i64 3, .slice none 0 0, .string name, .int .i64 m] 25 (0, 0)) (.cells #[.int .i64 2, .bool false, .slice none 0 0, .int .i64 0, .string name, .int .i64 0, .int .i64 65535] 30 (0, 0))
          refine (ref_MayAddrV (a := nmA name m) (x := none) (c := 0) HM ⟨OwnB.rd (t := 5) (OwnB.nilI s2), hn⟩).mono ?_
          rintro _ w3 ⟨rfl, h3⟩
          have s3 := s2.under h3
          go_wp2_with fail
          refine (ref_MayAddrV (a := nmA below 0) (x := none) (c := 0) HM2 ⟨OwnB.rd (t := 5) (OwnB.nilI s3), hb⟩).mono ?_
          rintro _ w4 ⟨rfl, h4⟩
          have s4 := s3.under h4
          obtain ⟨a0, a1, a2, a3⟩ := boxA (a := nmA name m) s4.drop
          have hlt : w.heap.size < w4.heap.size := s4.drop.lt
          have hne : w4.heap.size ≠ w.heap.size := by omega
          go_wp2_with fail
          go_region_held3 (fun w' => (w'.cell? ⟨w.heap.size, 0, none⟩ = some (.int .i64 3) ∧ w'.cell? ⟨w.heap.size, 1, none⟩ = some (.slice none 0 0) ∧ w'.cell? ⟨w.heap.size, 2, none⟩ = some (.string name) ∧ w'.cell? ⟨w.heap.size, 3, none⟩ = some (.int .i64 m)))
            (first | exact ⟨a0, a1, a2, a3⟩ | exact boxA (a := nmA name m) (s4.drew.alloc_ _).drop | exact boxA (a := nmA name m) ((s4.drew.alloc_ _).alloc_ _).drop | go_keep)
            (fail)
          · have s5 := (s4.alloc2 (.cells #[.int .i64 3, .slice none 0 0, .string name, .int .i64 m] 25 (0, 0)) (.cells #[.int .i64 3, .slice none 0 0, .string name, .int .i64 m] 25 (0, 0))).swap.drew
            generalize ((w4.alloc (.cells #[.int .i64 3, .slice none 0 0, .string name, .int .i64 m] 25 (0, 0))).alloc (.cells #[.int .i64 3, .slice none 0 0, .string name, .int .i64 m] 25 (0, 0))).drew = W5 at *
            generalize w4.heap.size = bb at *
            have B2 := s5.cell (i := 2) rfl
            have BF := s5.frozen 2
            have C2 := s5.drop.cell (i := 2) rfl
            have CF := s5.drop.frozen 2
            have hne2 := s5.ne
            have s6 := (Sat.set (Sat.swap (Sat.set s5 2 (.string bn))) 2 (.string cn)).swap
            simp only [List.setIfInBounds_toArray, List.set_cons_succ, List.set_cons_zero] at s6
            clear a0 a1 a2 a3 hlt hne
            go_wp2_with fail
            replace s6 : Sat w _ [Blk bb (AObj bn m), Blk (bb + 1) (AObj cn m), Blk (w.heap.size + 1) (RObj name), Blk w.heap.size (AObj name m)] := s6
            generalize (W5.setCell ⟨bb, 2, none⟩ (.string bn)).setCell ⟨(bb + 1), 2, none⟩ (.string cn) = W6 at *
            have S0 := bx s6
            go_region_held3 (fun w' => BoxR7 w' (w.heap.size + 1) name ∧ BoxA4 w' w.heap.size name m ∧ BoxA4 w' (bb) bn m ∧ BoxA4 w' ((bb + 1)) cn m)
              (first | exact bx s10 | exact bx s9 | exact bx s8 | exact bx s7 | exact S0)
              (first | (go_at_call 11; refine (match_nm name _ m _ hn (by first | exact hn | exact HBS.out | exact HCS.out) (by first | exact H1 | exact H2 | exact H3)).mono ?_; rintro _ w7 ⟨rfl, h7⟩; (first | have s9 := s8.under h7 | have s8 := s7.under h7 | have s7 := s6.drew.under h7)) | (go_at_call 9; refine (acl_awake s9).mono ?_; rintro _ w10 ⟨rfl, s10⟩))
            all_goals
              go_wp2_with fail
              go_ret
              exact ⟨rfl, s10.below⟩
          · have s5 := (s4.alloc2 (.cells #[.int .i64 3, .slice none 0 0, .string name, .int .i64 m] 25 (0, 0)) (.cells #[.int .i64 3, .slice none 0 0, .string name, .int .i64 m] 25 (0, 0))).drew
            generalize ((w4.alloc (.cells #[.int .i64 3, .slice none 0 0, .string name, .int .i64 m] 25 (0, 0))).alloc (.cells #[.int .i64 3, .slice none 0 0, .string name, .int .i64 m] 25 (0, 0))).drew = W5 at *
            generalize w4.heap.size = bb at *
            have B2 := s5.cell (i := 2) rfl
            have BF := s5.frozen 2
            have C2 := s5.drop.cell (i := 2) rfl
            have CF := s5.drop.frozen 2
            have hne2 := s5.ne
            have s6 := (Sat.set (Sat.swap (Sat.set s5 2 (.string bn))) 2 (.string cn)).swap
            simp only [List.setIfInBounds_toArray, List.set_cons_succ, List.set_cons_zero] at s6
            clear a0 a1 a2 a3 hlt hne
            go_wp2_with fail
            replace s6 : Sat w _ [Blk (bb + 1) (AObj bn m), Blk bb (AObj cn m), Blk (w.heap.size + 1) (RObj name), Blk w.heap.size (AObj name m)] := s6
            generalize (W5.setCell ⟨(bb + 1), 2, none⟩ (.string bn)).setCell ⟨bb, 2, none⟩ (.string cn) = W6 at *
            have S0 := bx s6
            go_region_held3 (fun w' => BoxR7 w' (w.heap.size + 1) name ∧ BoxA4 w' w.heap.size name m ∧ BoxA4 w' ((bb + 1)) bn m ∧ BoxA4 w' (bb) cn m)
              (first | exact bx s10 | exact bx s9 | exact bx s8 | exact bx s7 | exact S0)
              (first | (go_at_call 11; refine (match_nm name _ m _ hn (by first | exact hn | exact HBS.out | exact HCS.out) (by first | exact H1 | exact H2 | exact H3)).mono ?_; rintro _ w7 ⟨rfl, h7⟩; (first | have s9 := s8.under h7 | have s8 := s7.under h7 | have s7 := s6.drew.under h7)) | (go_at_call 9; refine (acl_awake s9).mono ?_; rintro _ w10 ⟨rfl, s10⟩))
            all_goals
              go_wp2_with fail
              go_ret
              exact ⟨rfl, s10.below⟩
  · have hbig1 : (62 : Int) < wrap64 ((name.size : Int) + (below.size : Int)) := by
      rw [decide_eq_true_eq, IntWalk.i64_left] at hbig
      exact hbig
    have hbig2 : decide ((62 : Int) < wrap64 ((name.size : Int) + (below.size : Int))) = true := decide_eq_true hbig1
    clear hbig
    go_enter Try.func5, Try.ntmps5
    go_wp2_with fail
    have s2 := hs.alloc2 (.cells #[.int .i64 3, .slice none 0 0, .string name, .int .i64 m] 25 (0, 0)) (.cells #[.int .i64 2, .bool false, .slice none 0 0, .int .i64 0, .string name, .int .i64 0, .int .i64 65535] 30 (0, 0))
    refine (acl_awake s2).mono ?_
    rintro _ w3 ⟨rfl, h3⟩
    go_wp2_with fail
    go_ret
    exact ⟨rfl, h3.below⟩
end
end Go.Proofs.Ytmnjaaeljpleeaa
