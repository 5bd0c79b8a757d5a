/- The filter's Check, walked. -/
import Derived.Deep.RegionHeld3
import Derived.Deep.RegionLaw
import Derived.Deep.DeepCutAuto
import Derived.Test.YtipkcbphjgmgiaaRepF
namespace Go.Proofs.Ytipkcbphjgmgiaa
open Go Go.RowKit
set_option linter.unusedVariables false
set_option linter.unusedSimpArgs false
attribute [local simp high] sz66

def FltM.bad (now stamp : Int) (e : List UInt8) : Bool := now != timeC now || stamp != timeC stamp || e.length != 32
/-- What is left when the too old ones are gone. -/
def FltM.young (m : FltM) (now : Int) : List MsgM := m.l.filter fun x => !oldB now m.window x
def FltM.far (m : FltM) (now stamp : Int) : Bool := decide (stamp < now - m.window) || decide (now + m.window < stamp) || decide (stamp ≤ m.since)
def FltM.says (m : FltM) (now stamp : Int) (e : List UInt8) : Int :=
  if FltM.bad now stamp e then 1 else if m.far now stamp then 8 else if (m.young now).any (fun x => x.key == e) then 8 else if m.most ≤ (m.young now).length then 7 else 0
def FltM.check (m : FltM) (now stamp : Int) (e : List UInt8) : FltM :=
  if FltM.bad now stamp e then m else { m with l := if m.says now stamp e = 0 then m.young now ++ [⟨e, stamp⟩] else m.young now }

theorem says_far {m : FltM} {now stamp : Int} {e : List UInt8} (hb : FltM.bad now stamp e = false) (h : m.far now stamp = true) : m.says now stamp e = 8 ∧ m.check now stamp e = { m with l := m.young now } := by
  have h1 : m.says now stamp e = 8 := by unfold FltM.says; rw [hb, h]; rfl
  refine ⟨h1, ?_⟩
  unfold FltM.check
  rw [h1, hb]
  rfl
theorem says_seen {m : FltM} {now stamp : Int} {e : List UInt8} (hb : FltM.bad now stamp e = false) (h : m.far now stamp = false) (h2 : (m.young now).any (fun x => x.key == e) = true) : m.says now stamp e = 8 ∧ m.check now stamp e = { m with l := m.young now } := by
  have h1 : m.says now stamp e = 8 := by unfold FltM.says; rw [hb, h, h2]; rfl
  refine ⟨h1, ?_⟩
  unfold FltM.check
  rw [h1, hb]
  rfl
theorem says_full {m : FltM} {now stamp : Int} {e : List UInt8} (hb : FltM.bad now stamp e = false) (h : m.far now stamp = false) (h2 : (m.young now).any (fun x => x.key == e) = false) (h3 : m.most ≤ ((m.young now).length : Int)) : m.says now stamp e = 7 ∧ m.check now stamp e = { m with l := m.young now } := by
  have h1 : m.says now stamp e = 7 := by unfold FltM.says; rw [hb, h, h2, if_pos h3]; rfl
  refine ⟨h1, ?_⟩
  unfold FltM.check
  rw [h1, hb]
  rfl
theorem says_new {m : FltM} {now stamp : Int} {e : List UInt8} (hb : FltM.bad now stamp e = false) (h : m.far now stamp = false) (h2 : (m.young now).any (fun x => x.key == e) = false) (h3 : ¬ m.most ≤ ((m.young now).length : Int)) : m.says now stamp e = 0 ∧ m.check now stamp e = { m with l := m.young now ++ [⟨e, stamp⟩] } := by
  have h1 : m.says now stamp e = 0 := by unfold FltM.says; rw [hb, h, h2, if_neg h3]; rfl
  refine ⟨h1, ?_⟩
  unfold FltM.check
  rw [h1, hb]
  rfl

theorem fold_put (xs : List Value) : ∀ (A B : List Value), (A ++ B).length = A.length + B.length → xs.length ≤ B.length →
    (xs.zipIdx A.length).foldl (fun cs x => cs.setIfInBounds x.snd x.fst) (A ++ B).toArray = (A ++ xs ++ B.drop xs.length).toArray := by
  induction xs with
  | nil => intro A B _ _; simp
  | cons x xs ih =>
    intro A B h hl
    cases B with
    | nil => simp at hl
    | cons y B =>
      rw [List.zipIdx_cons, List.foldl_cons]
      have e1 : ((A ++ y :: B).toArray.setIfInBounds A.length x) = ((A ++ [x]) ++ B).toArray := by
        simp
      have e2 : A.length + 1 = (A ++ [x]).length := by simp
      rw [e1, e2, ih (A ++ [x]) B List.length_append (by simpa using hl)]
      simp
theorem fold_msg {e : List UInt8} (h : e.length = 32) (stamp : Int) : ∃ F : Array Value, F.size = 33 ∧ List.foldl (fun cs x => cs.setIfInBounds x.snd x.fst) #[.int .u8 0, .int .u8 0, .int .u8 0, .int .u8 0, .int .u8 0, .int .u8 0, .int .u8 0, .int .u8 0, .int .u8 0, .int .u8 0, .int .u8 0, .int .u8 0, .int .u8 0, .int .u8 0, .int .u8 0, .int .u8 0, .int .u8 0, .int .u8 0, .int .u8 0, .int .u8 0, .int .u8 0, .int .u8 0, .int .u8 0, .int .u8 0, .int .u8 0, .int .u8 0, .int .u8 0, .int .u8 0, .int .u8 0, .int .u8 0, .int .u8 0, .int .u8 0, .int .i64 0] (bytesC e).zipIdx = F ∧ F.setIfInBounds 32 (.int .i64 stamp) = (msgC ⟨e, stamp⟩).toArray := by
  have hl : (bytesC e).length = 32 := by simp [bytesC, h]
  have h1 := fold_put (bytesC e) [] [.int .u8 0, .int .u8 0, .int .u8 0, .int .u8 0, .int .u8 0, .int .u8 0, .int .u8 0, .int .u8 0, .int .u8 0, .int .u8 0, .int .u8 0, .int .u8 0, .int .u8 0, .int .u8 0, .int .u8 0, .int .u8 0, .int .u8 0, .int .u8 0, .int .u8 0, .int .u8 0, .int .u8 0, .int .u8 0, .int .u8 0, .int .u8 0, .int .u8 0, .int .u8 0, .int .u8 0, .int .u8 0, .int .u8 0, .int .u8 0, .int .u8 0, .int .u8 0, .int .i64 0] rfl (by rw [hl]; decide)
  rw [hl] at h1
  refine ⟨_, ?_, h1, ?_⟩
  · simp [hl]
  · unfold msgC
    rw [List.nil_append, List.setIfInBounds_toArray]
    congr 1
    rw [List.set_append_right _ _ (by omega), hl]
    rfl

theorem fold_row {m : MsgM} (h : m.ok) : List.foldl (fun cs x => cs.setIfInBounds x.snd x.fst) #[.int .u8 0, .int .u8 0, .int .u8 0, .int .u8 0, .int .u8 0, .int .u8 0, .int .u8 0, .int .u8 0, .int .u8 0, .int .u8 0, .int .u8 0, .int .u8 0, .int .u8 0, .int .u8 0, .int .u8 0, .int .u8 0, .int .u8 0, .int .u8 0, .int .u8 0, .int .u8 0, .int .u8 0, .int .u8 0, .int .u8 0, .int .u8 0, .int .u8 0, .int .u8 0, .int .u8 0, .int .u8 0, .int .u8 0, .int .u8 0, .int .u8 0, .int .u8 0, .int .i64 0] (msgC m).zipIdx = (msgC m).toArray := by
  have hl := msgC_len h
  have h1 := fold_put (msgC m) [] [.int .u8 0, .int .u8 0, .int .u8 0, .int .u8 0, .int .u8 0, .int .u8 0, .int .u8 0, .int .u8 0, .int .u8 0, .int .u8 0, .int .u8 0, .int .u8 0, .int .u8 0, .int .u8 0, .int .u8 0, .int .u8 0, .int .u8 0, .int .u8 0, .int .u8 0, .int .u8 0, .int .u8 0, .int .u8 0, .int .u8 0, .int .u8 0, .int .u8 0, .int .u8 0, .int .u8 0, .int .u8 0, .int .u8 0, .int .u8 0, .int .u8 0, .int .u8 0, .int .i64 0] rfl (by rw [hl]; decide)
  rw [hl] at h1
  rw [List.nil_append, List.nil_append, List.drop_of_length_le (by decide), List.append_nil] at h1
  exact h1

section
variable {w0 w : World} {L : List Assn}
theorem info68 : ∃ i, Try.prog.info? 68 = some i ∧ i.zero = some (.agg #[.int .u8 0, .int .u8 0, .int .u8 0, .int .u8 0, .int .u8 0, .int .u8 0, .int .u8 0, .int .u8 0, .int .u8 0, .int .u8 0, .int .u8 0, .int .u8 0, .int .u8 0, .int .u8 0, .int .u8 0, .int .u8 0, .int .u8 0, .int .u8 0, .int .u8 0, .int .u8 0, .int .u8 0, .int .u8 0, .int .u8 0, .int .u8 0, .int .u8 0, .int .u8 0, .int .u8 0, .int .u8 0, .int .u8 0, .int .u8 0, .int .u8 0, .int .u8 0, .int .i64 0]) ∧ i.size = 33 ∧ i.bytes = 40 := info_at (by kernel_rfl)
theorem step_append_msg {ops : Array Oper} {o : Oper} {a : Act} {K : Act → World → Prop} {Q : Exit → Act → World → Prop} (hgd : o.guard = none) (s x : Operand)
    (ho : o.op = .call { callee := .builtin .append, args := #[s, x], argTypes := #[61, 61] })
    {v : Value} {l : List MsgM} {m : MsgM} (hm : m.ok) (hv : a.eval s = v) (hs : Sat w0 w (Msgs v l :: L)) {g : Nat} (hx : a.eval x = .slice (some ⟨g, 0, none⟩) 1 1) (hb : w.heap[g]? = some (.cells (msgC m).toArray 68 (0, 0))) (hll : l.length ≤ 256)
    (h : ∀ a' c' w', Sat w0 w' (Msgs (.slice a' (l.length + 1) c') (l ++ [m]) :: L) → K (a.put o.dst (.slice a' (l.length + 1) c')) w') :
    if Region.wanted o (yielded ops a.tmps) = true then o.wp Try.prog a w K Q else K (a.put o.dst undef) w := by
  rw [if_pos (by simp [Region.wanted, hgd])]
  obtain ⟨hok, h1⟩ := Msgs.opn hs
  obtain ⟨i0, hi0, hz0, hz1, hz2⟩ := info68
  obtain ⟨v', w', hr, h2, _⟩ := run_append_sat (P := Try.prog) (ty := o.type) Try.underlying61 hi0 hz0 hz1 hz2 rfl h1 (src_blk (c := 1) Try.underlying61 hb (msgC_len hm) msgC_one) (by simp only [maxLen]; omega) (by omega)
  unfold Oper.wp execOp
  simp only [ho, resolve, invoke, builtin, Sem.run_bind, Sem.run_pure, Result.andThen_ok, List.map_toArray, List.map_cons, List.map_nil, hv, hx, hr]
  obtain ⟨a', c', rfl, _, _⟩ := OwnS.form h2
  refine h a' c' w' (Msgs.shut ?_ ?_)
  · intro y hy
    rcases List.mem_append.1 hy with hy | hy
    · exact hok y hy
    · rw [List.mem_singleton.1 hy]; exact hm
  · rw [List.length_append, flat_append, flat_one]
    exact h2
theorem eg_old (args : Array Value) (w : World) : (callFunc 31 args).run Try.prog w = .ok (.enter 31 args) w := by simp
theorem eg_same (args : Array Value) (w : World) : (callFunc 33 args).run Try.prog w = .ok (.enter 33 args) w := by simp
theorem says_old {bn bf f : Nat} {now window most since : Int} {v : Value} (h1 : 0 ≤ now ∧ now ≤ 1099511627776) (h2 : 0 ≤ window ∧ window ≤ 1099511627776) :
    Says w0 (Blk bn (.cells #[.int .i64 now] 2 (0, 0)) :: Blk bf (.cells #[.pointer (some ⟨f, 0, none⟩)] 37 (0, 0)) :: Blk f (.cells #[.int .i64 window, .int .i64 most, .int .i64 since, v] 63 (0, 0)) :: L)
      31 #[.pointer (some ⟨bn, 0, none⟩), .pointer (some ⟨bf, 0, none⟩)] (oldB now window) := fun W A h m hm =>
  rep_old hm h1 h2 ((Sat.front [_] h).cell 0 rfl) ((Sat.front [_, _] h).cell 0 rfl) ((Sat.front [_, _, _] h).cell 0 rfl)
theorem says_same {bk : Nat} {key : List UInt8} (hk : key.length = 32) :
    Says w0 (Blk bk (.cells (bytesC key).toArray 66 (0, 0)) :: L) 33 #[.pointer (some ⟨bk, 0, none⟩)] (fun x => x.key == key) := fun W A h m hm =>
  rep_same hm hk (Sat.blk (Sat.front [_] h)).1
theorem rep_Check_bad {f : Nat} {m : FltM} {now stamp : Int} {v : Value} {e : List UInt8} (hr : RdB w v e) (hs : Sat w0 w (Flt f m :: L)) (hb : FltM.bad now stamp e = true) :
    Calls Try.prog 24 #[.pointer (some ⟨f, 0, none⟩), .int .i64 now, .int .i64 stamp, v] w fun e w' => e = .returned (.int .i64 1) ∧ Sat w0 w' (Flt f m :: L) := by
  obtain ⟨ae, ce, rfl, _, _, _⟩ := hr.form
  have h2 := hs.alloc2 (.cells #[.pointer (some ⟨f, 0, none⟩)] 37 (0, 0)) (.cells #[.int .i64 now] 2 (0, 0))
  have c0 := h2.drop.cell 0 rfl
  have c1 := h2.cell 0 rfl
  unfold FltM.bad at hb
  cases b1 : (now != timeC now)
  · cases b2 : (stamp != timeC stamp)
    · rw [b1, b2] at hb
      simp only [Bool.false_or] at hb
      have b3 : ((e.length : Int) != 32) = true := by
        rw [bne_iff_ne] at hb ⊢
        omega
      clear hb
      go_enter Try.func24, Try.ntmps24
      go_wp2_with fail
      go_quiet ((go_at_call 28; exact quiet_same (rep_time _)))
      go_wp2_with fail
      go_ret
      exact ⟨rfl, (Sat.drewN h2 _).drop.drop⟩
    · clear hb
      go_enter Try.func24, Try.ntmps24
      go_wp2_with fail
      go_quiet ((go_at_call 28; exact quiet_same (rep_time _)))
      go_wp2_with fail
      go_ret
      exact ⟨rfl, (Sat.drewN h2 _).drop.drop⟩
  · clear hb
    go_enter Try.func24, Try.ntmps24
    go_wp2_with fail
    go_quiet ((go_at_call 28; exact quiet_same (rep_time _)))
    go_wp2_with fail
    go_ret
    exact ⟨rfl, (Sat.drewN h2 _).drop.drop⟩

set_option maxHeartbeats 2000000 in
set_option maxRecDepth 100000 in
theorem rep_Check_good {f : Nat} {m : FltM} {now stamp : Int} {v : Value} {e : List UInt8} (hrd : ∀ (W : World) (A : Assn), Sat w0 W (A :: L) → RdB W v e) (hs : Sat w0 w (Flt f m :: L)) (hb : FltM.bad now stamp e = false) :
    Calls Try.prog 24 #[.pointer (some ⟨f, 0, none⟩), .int .i64 now, .int .i64 stamp, v] w fun e' w' => e' = .returned (.int .i64 (m.says now stamp e)) ∧ Sat w0 w' (Flt f (m.check now stamp e) :: L) := by
  have hr := hrd w _ hs
  have HB := hid_ hb
  unfold FltM.bad at hb
  rw [Bool.or_eq_false_iff, Bool.or_eq_false_iff] at hb
  obtain ⟨⟨b1, b2⟩, b3'⟩ := hb
  have hlen : e.length = 32 := by simpa using b3'
  obtain ⟨ae, ce, rfl, hce, _, _⟩ := hr.form
  have hce32 : 32 ≤ ce := by omega
  have b3 : ((32 : Int) != 32) = false := rfl
  rw [hlen] at hr ⊢
  have HL := hid_ hlen
  clear b3' hlen hce
  have hnow : now = timeC now := by simpa using b1
  have hstamp : stamp = timeC stamp := by simpa using b2
  have n1 := timeC_bd now
  have n2 := timeC_bd stamp
  rw [← hnow] at n1
  rw [← hstamp] at n2
  clear hnow hstamp
  obtain ⟨a, c, hok, hc, h1⟩ := Flt.opn hs
  obtain ⟨⟨k1, k2⟩, ⟨k3, k4⟩, ⟨k5, k6⟩, k7⟩ := hok
  have h2 := h1.alloc2 (.cells #[.pointer (some ⟨f, 0, none⟩)] 37 (0, 0)) (.cells #[.int .i64 now] 2 (0, 0))
  have c0 := h2.drop.cell 0 rfl
  have c1 := h2.cell 0 rfl
  go_enter Try.func24, Try.ntmps24
  go_wp2_with fail
  go_quiet ((go_at_call 28; exact quiet_same (rep_time _)))
  go_wp2_with fail
  have h3 := Sat.drewN h2 nq
  generalize ((w.alloc (.cells #[.pointer (some ⟨f, 0, none⟩)] 37 (0, 0))).alloc (.cells #[.int .i64 now] 2 (0, 0))).drewN nq = w3 at *
  generalize w.heap.size = bf at *
  clear h1 h2 c0 c1 b1 b2 b3 hs
  have h4 := Sat.re [3, 0, 1, 2] [_, _, _, _] h3
  have c0 : w3.cell? ⟨bf, 0, none⟩ = some (.pointer (some ⟨f, 0, none⟩)) := (Sat.front [_] h3).cell 0 rfl
  have c3 : w3.cell? ⟨f, 3, none⟩ = some (.slice a m.l.length c) := (Sat.front [_, _] h3).cell 3 rfl
  obtain ⟨Y, hY⟩ : ∃ Y, (m.l.filter fun x => !oldB now m.window x) = Y := ⟨_, rfl⟩
  have hYl : Y.length ≤ m.l.length := by rw [← hY]; exact List.length_filter_le _ _
  have HY := hid_ (show m.young now = Y from hY)
  have hdel : ∀ W, Sat w0 W _ → _ := fun W (h : Sat w0 W (Msgs (.slice a m.l.length c) m.l :: Blk (bf + 1) (.cells #[.int .i64 now] 2 (0, 0)) :: Blk bf (.cells #[.pointer (some ⟨f, 0, none⟩)] 37 (0, 0)) :: Blk f (.cells #[.int .i64 m.window, .int .i64 m.most, .int .i64 m.since, .slice a m.l.length c] 63 (0, 0)) :: L)) => rep_delete eg_old (says_old n1 ⟨k1, k2⟩) h
  rw [hY] at hdel
  clear hY
  go_cut [] (fun wx => ∃ (a5 : Option Addr) (c5 : Nat), Sat w0 wx (Blk f (.cells #[.int .i64 m.window, .int .i64 m.most, .int .i64 m.since, .slice a5 Y.length c5] 63 (0, 0)) :: Msgs (.slice a5 Y.length c5) Y :: Blk (bf + 1) (.cells #[.int .i64 now] 2 (0, 0)) :: Blk bf (.cells #[.pointer (some ⟨f, 0, none⟩)] 37 (0, 0)) :: L))
  case first =>
    go_region_law (first | (go_simp; go_at_call 30; refine (hdel _ h4.drew).mono ?_; rintro _ w5 ⟨v5, rfl, h5⟩; obtain ⟨a5, c5, rfl, hc5, _⟩ := Msgs.form h5; have c3' : w5.cell? ⟨f, 3, none⟩ = some (.slice a m.l.length c) := (Sat.front [_, _, _] h5).cell 3 rfl; have f3' := (Sat.front [_, _, _] h5).frozen 3; have c0' : w5.cell? ⟨bf, 0, none⟩ = some (.pointer (some ⟨f, 0, none⟩)) := (Sat.front [_, _] h5).cell 0 rfl))
    all_goals
      go_wp2_with fail
      go_meet
      have h6 := (Sat.front [_, _, _] h5).set 3 (.slice a5 Y.length c5)
      simp only [List.setIfInBounds_toArray, List.set_cons_succ, List.set_cons_zero] at h6
      exact ⟨a5, c5, h6⟩
  clear hdel h4 h3 c0 c3 hc hr
  obtain ⟨a5, c5, h6⟩ := hcut
  have hre := hrd wc _ h6.drop.drop.drop
  have h32 := HL.out
  obtain ⟨kb, ko, kc, hke, hklt, hkc, hkm, hcell⟩ := hre.at (i := 0) (by omega)
  rw [h32] at hke
  injection hke with q1 q2 q3
  subst q1 q3
  have hbl : (bytesC e).length = 32 := by simp [bytesC, h32]
  have hbK : (bytesC e).length = K32 := hbl
  have hld : Sem.run Try.prog (loadCellsFrom ⟨kb, ko, none⟩ 0 K32 #[]) wc = .ok (bytesC e).toArray wc :=
    Go.Proofs.run_loadCellsFrom_list Try.prog wc ⟨kb, ko, none⟩ (bytesC e) 32 hbl (fun j v hj => by
      have hje : j < e.length := by rw [h32, ← hbl]; exact (List.getElem?_eq_some_iff.1 hj).1
      rw [addr_add, hcell j hje, ← bytesC_get hje]
      exact hj)
  have hst : Sem.run Try.prog (storeCells ⟨wc.heap.size, 0, none⟩ (bytesC e) 0) (wc.alloc (.cells #[.int .u8 0, .int .u8 0, .int .u8 0, .int .u8 0, .int .u8 0, .int .u8 0, .int .u8 0, .int .u8 0, .int .u8 0, .int .u8 0, .int .u8 0, .int .u8 0, .int .u8 0, .int .u8 0, .int .u8 0, .int .u8 0, .int .u8 0, .int .u8 0, .int .u8 0, .int .u8 0, .int .u8 0, .int .u8 0, .int .u8 0, .int .u8 0, .int .u8 0, .int .u8 0, .int .u8 0, .int .u8 0, .int .u8 0, .int .u8 0, .int .u8 0, .int .u8 0] 66 (0, 0))) = .ok () (wc.alloc (.cells (bytesC e).toArray 66 (0, 0))) := by
    have hz : (bytesC e).toArray.size = 32 := by rw [List.size_toArray]; exact hbl
    have h := run_storeCells_new (P := Try.prog) wc 66 #[.int .u8 0, .int .u8 0, .int .u8 0, .int .u8 0, .int .u8 0, .int .u8 0, .int .u8 0, .int .u8 0, .int .u8 0, .int .u8 0, .int .u8 0, .int .u8 0, .int .u8 0, .int .u8 0, .int .u8 0, .int .u8 0, .int .u8 0, .int .u8 0, .int .u8 0, .int .u8 0, .int .u8 0, .int .u8 0, .int .u8 0, .int .u8 0, .int .u8 0, .int .u8 0, .int .u8 0, .int .u8 0, .int .u8 0, .int .u8 0, .int .u8 0, .int .u8 0] (bytesC e).toArray (by rw [hz]; kernel_rfl) (by rw [hz]; rfl) (by
      rw [List.all_toArray, List.all_eq_true]
      exact bytesC_one)
    simpa using h
  have h7 := h6.alloc (.cells (bytesC e).toArray 66 (0, 0))
  have harr : (Instr.arrayAt 66 (.slice (some ⟨kb, ko, none⟩) 32 ce)).run Try.prog wc = .ok (.pointer (some ⟨kb, ko, none⟩)) wc := by
    simp [Instr.arrayAt, run_underlying Try.underlying66]
  clear hre hcell hklt hkc hkm h32 hbl h6 q2
  go_upto_region 5 with fail
  generalize wc.alloc (.cells (bytesC e).toArray 66 (0, 0)) = w7 at *
  generalize wc.heap.size = bk at *
  clear hld hst harr hbK
  have cF : w7.cell? ⟨bf, 0, none⟩ = some (.pointer (some ⟨f, 0, none⟩)) := (Sat.front [_, _, _, _] h7).cell 0 rfl
  have cN : w7.cell? ⟨bf + 1, 0, none⟩ = some (.int .i64 now) := (Sat.front [_, _, _] h7).cell 0 rfl
  have f0 : w7.cell? ⟨f, 0, none⟩ = some (.int .i64 m.window) := (Sat.front [_] h7).cell 0 rfl
  have f1 : w7.cell? ⟨f, 1, none⟩ = some (.int .i64 m.most) := (Sat.front [_] h7).cell 1 rfl
  have f2 : w7.cell? ⟨f, 2, none⟩ = some (.int .i64 m.since) := (Sat.front [_] h7).cell 2 rfl
  have f3 : w7.cell? ⟨f, 3, none⟩ = some (.slice a5 Y.length c5) := (Sat.front [_] h7).cell 3 rfl
  have e1 : IntKind.i64.wrap (now - m.window) = now - m.window := IntWalk.i64_in _ (by omega)
  have e2 : IntKind.i64.wrap (now + m.window) = now + m.window := IntWalk.i64_in _ (by omega)
  have hokY : ∀ l : List MsgM, l.length ≤ 256 → FltM.ok { m with l := l } := fun l hl => ⟨⟨k1, k2⟩, ⟨k3, k4⟩, ⟨k5, k6⟩, hl⟩
  have hgone : ∀ W, Sat w0 W (Blk bk (.cells (bytesC e).toArray 66 (0, 0)) :: Blk f (.cells #[.int .i64 m.window, .int .i64 m.most, .int .i64 m.since, .slice a5 Y.length c5] 63 (0, 0)) :: Msgs (.slice a5 Y.length c5) Y :: Blk (bf + 1) (.cells #[.int .i64 now] 2 (0, 0)) :: Blk bf (.cells #[.pointer (some ⟨f, 0, none⟩)] 37 (0, 0)) :: L) → Sat w0 W (Flt f { m with l := Y } :: L) := fun W h =>
    Flt.shut (hokY Y (by omega)) (Sat.re [0, 1] [_, _] (Sat.re [2, 3, 0, 1] [_, _, _, _] h.drop).drop.drop)
  cases d1 : decide (stamp < now - m.window)
  · cases d2 : decide (now + m.window < stamp)
    · cases d3 : decide (stamp ≤ m.since)
      · have hfar : m.far now stamp = false := by unfold FltM.far; rw [d1, d2, d3]; rfl
        have HF := hid_ hfar
        clear hfar
        go_quiet (fail)
        replace h7 := Sat.drewN h7 nq
        have h8 := Sat.re [2, 0, 1, 3, 4] [_, _, _, _, _] h7
        have hcon := fun W (h : Sat w0 W (Msgs (.slice a5 Y.length c5) Y :: Blk bk (.cells (bytesC e).toArray 66 (0, 0)) :: Blk f (.cells #[.int .i64 m.window, .int .i64 m.most, .int .i64 m.since, .slice a5 Y.length c5] 63 (0, 0)) :: Blk (bf + 1) (.cells #[.int .i64 now] 2 (0, 0)) :: Blk bf (.cells #[.pointer (some ⟨f, 0, none⟩)] 37 (0, 0)) :: L)) => rep_contains eg_same (says_same HL.out) h
        obtain ⟨q, hq⟩ : ∃ q, Y.any (fun x => x.key == e) = q := ⟨_, rfl⟩
        rw [hq] at hcon
        have HQ := hid_ hq
        clear hq
        generalize w7.drewN nq = w8 at *
        clear cF cN f0 f1 f2 f3
        have cF : w8.cell? ⟨bf, 0, none⟩ = some (.pointer (some ⟨f, 0, none⟩)) := (Sat.front [_, _, _, _] h7).cell 0 rfl
        have f3 : w8.cell? ⟨f, 3, none⟩ = some (.slice a5 Y.length c5) := (Sat.front [_] h7).cell 3 rfl
        go_wp2_with fail
        refine (hcon _ h8).mono ?_
        rintro _ w9 ⟨rfl, h9⟩
        have h10 := Sat.re [1, 2, 0, 3, 4] [_, _, _, _, _] h9
        clear hcon h8 h7 cF f3
        have cF : w9.cell? ⟨bf, 0, none⟩ = some (.pointer (some ⟨f, 0, none⟩)) := (Sat.front [_, _, _, _] h10).cell 0 rfl
        have f1 : w9.cell? ⟨f, 1, none⟩ = some (.int .i64 m.most) := (Sat.front [_] h10).cell 1 rfl
        have f3 : w9.cell? ⟨f, 3, none⟩ = some (.slice a5 Y.length c5) := (Sat.front [_] h10).cell 3 rfl
        cases q
        · cases d4 : decide (m.most ≤ (Y.length : Int))
          · go_wp2_with fail
            go_quiet (fail)
            replace h10 := Sat.drewN h10 nq
            generalize w9.drewN nq = w11 at *
            clear cF f1 f3
            have cF : w11.cell? ⟨bf, 0, none⟩ = some (.pointer (some ⟨f, 0, none⟩)) := (Sat.front [_, _, _, _] h10).cell 0 rfl
            have f3 : w11.cell? ⟨f, 3, none⟩ = some (.slice a5 Y.length c5) := (Sat.front [_] h10).cell 3 rfl
            go_wp2_with fail
            have hbl : (bytesC e).length = 32 := by simp [bytesC, HL.out]
            have hld : Sem.run Try.prog (loadCellsFrom ⟨bk, 0, none⟩ 0 K32 #[]) w11.drew = .ok (bytesC e).toArray w11.drew :=
              Go.Proofs.run_loadCellsFrom_list Try.prog w11.drew ⟨bk, 0, none⟩ (bytesC e) 32 hbl (fun j v hj => by
                rw [addr_add]
                refine h10.drew.cell (0 + j) ?_
                rw [Nat.zero_add, List.getElem?_toArray]
                exact hj)
            obtain ⟨F, hFs, hF, hFset⟩ := fold_msg HL.out stamp
            have hek : e.length = K32 := HL.out
            have h33 : ¬ 33 < K32 := by decide
            clear hbl
            have hmok : (⟨e, stamp⟩ : MsgM).ok := HL.out
            have hrow := fold_row hmok
            have hml := msgC_len hmok
            have h12 := (Sat.front [_, _] h10).drew.alloc (.cells (msgC ⟨e, stamp⟩).toArray 68 (0, 0))
            have h12' := h10.alloc (.cells (msgC ⟨e, stamp⟩).toArray 68 (0, 0))
            have cF2 : (w11.alloc (.cells (msgC ⟨e, stamp⟩).toArray 68 (0, 0))).cell? ⟨bf, 0, none⟩ = some (.pointer (some ⟨f, 0, none⟩)) := (Sat.front [_, _, _, _, _] h12').cell 0 rfl
            have f32 : (w11.alloc (.cells (msgC ⟨e, stamp⟩).toArray 68 (0, 0))).cell? ⟨f, 3, none⟩ = some (.slice a5 Y.length c5) := (Sat.front [_, _] h12').cell 3 rfl
            clear h12'
            go_cut [] (fun wx => ∃ (a9 : Option Addr) (c9 : Nat), Sat w0 wx (Blk f (.cells #[.int .i64 m.window, .int .i64 m.most, .int .i64 m.since, .slice a9 (Y.length + 1) c9] 63 (0, 0)) :: Msgs (.slice a9 (Y.length + 1) c9) (Y ++ [⟨e, stamp⟩]) :: L))
            case first =>
              go_region_law (first | (refine step_append_msg (w0 := w0) rfl _ _ rfl hmok rfl h12.swap rfl (Sat.blk h12).1 (by omega) ?_; intro a9 c9 w12 h13; have cF' : w12.cell? ⟨bf, 0, none⟩ = some (.pointer (some ⟨f, 0, none⟩)) := (Sat.front [_, _, _, _, _] h13).cell 0 rfl; have f3' : w12.cell? ⟨f, 3, none⟩ = some (.slice a5 Y.length c5) := (Sat.front [_, _, _] h13).cell 3 rfl; have g3' := (Sat.front [_, _, _] h13).frozen 3))
              all_goals
                go_wp2_with fail
                go_meet
                have h14 := (Sat.front [_, _, _] h13).set 3 (.slice a9 (Y.length + 1) c9)
                simp only [List.setIfInBounds_toArray, List.set_cons_succ, List.set_cons_zero] at h14
                exact ⟨a9, c9, Sat.re [0, 1] [_, _] (Sat.re [2, 3, 4, 5, 0, 1] [_, _, _, _, _, _] h14).drop.drop.drop.drop⟩
            obtain ⟨a9, c9, h15⟩ := hcut
            go_wp2_with fail
            go_ret
            rw [decide_eq_false_iff_not] at d4
            obtain ⟨r1, r2⟩ := says_new HB.out HF.out (by rw [HY.out]; exact HQ.out) (by rw [HY.out]; exact d4)
            rw [r1, r2, HY.out]
            exact ⟨rfl, Flt.shut (v := .slice a9 (Y.length + 1) c9) (hokY _ (by rw [List.length_append]; simp; omega)) h15⟩
          · go_wp2_with fail
            go_quiet (fail)
            go_wp2_with fail
            go_ret
            rw [decide_eq_true_eq] at d4
            obtain ⟨r1, r2⟩ := says_full HB.out HF.out (by rw [HY.out]; exact HQ.out) (by rw [HY.out]; exact d4)
            rw [r1, r2, HY.out]
            exact ⟨rfl, hgone _ (Sat.drewN h10 _)⟩
        · go_wp2_with fail
          go_ret
          obtain ⟨r1, r2⟩ := says_seen HB.out HF.out (by rw [HY.out]; exact HQ.out)
          rw [r1, r2, HY.out]
          exact ⟨rfl, hgone _ h10⟩
      · have hfar : m.far now stamp = true := by unfold FltM.far; rw [d1, d2, d3]; rfl
        have HF := hid_ hfar
        clear hfar
        go_quiet (fail)
        go_wp2_with fail
        go_ret
        obtain ⟨r1, r2⟩ := says_far HB.out HF.out
        rw [r1, r2, HY.out]
        exact ⟨rfl, hgone _ (Sat.drewN h7 _)⟩
    · have hfar : m.far now stamp = true := by unfold FltM.far; rw [d1, d2]; rfl
      have HF := hid_ hfar
      clear hfar
      go_quiet (fail)
      go_wp2_with fail
      go_ret
      obtain ⟨r1, r2⟩ := says_far HB.out HF.out
      rw [r1, r2, HY.out]
      exact ⟨rfl, hgone _ (Sat.drewN h7 _)⟩
  · have hfar : m.far now stamp = true := by unfold FltM.far; rw [d1]; rfl
    have HF := hid_ hfar
    clear hfar
    go_quiet (fail)
    go_wp2_with fail
    go_ret
    obtain ⟨r1, r2⟩ := says_far HB.out HF.out
    rw [r1, r2, HY.out]
    exact ⟨rfl, hgone _ (Sat.drewN h7 _)⟩
end
end Go.Proofs.Ytipkcbphjgmgiaa
