/- Tenants: as they read; ring.May and what it calls, walked. -/
import Derived.Deep.LoopGhost
import Derived.Deep.DeepCutAuto
import Derived.Shelf.Abstract
import Derived.Test.YtahnjbbjfjlpoaaAclM
namespace Go.Proofs.Ytahnjbbjfjlpoaa
open Go Go.RowKit Go.Shelf
set_option linter.unusedVariables false
set_option linter.unusedSimpArgs false

/-- A rule by value, as it reads. -/
structure RdRu (w : World) (r : RuleM) (x : Option Addr) (c : Nat) : Prop where
  net : RdB w (.slice x r.net.length c) r.net
  name : r.name.size ≤ maxLen
theorem RdRu.mono {w w' : World} {r : RuleM} {x : Option Addr} {c : Nat} (h : RdRu w r x c) (hb : Below w.heap.size w w') : RdRu w' r x c := ⟨h.net.mono hb, h.name⟩
/-- Rules in a row, as they read. -/
structure RdRus (w : World) (a : Option Addr) (cap : Nat) (rs : List RuleM) : Prop where
  le : rs.length ≤ cap
  nil : a = none → cap = 0
  cap : cap ≤ maxLen
  at_ : ∀ i r, rs[i]? = some r → ∃ b off x c, a = some ⟨b, off, none⟩ ∧ b < w.heap.size ∧ (∀ j u, (ruC r (.slice x r.net.length c))[j]? = some u → w.cell? ⟨b, off + i * 7 + j, none⟩ = some u) ∧ RdRu w r x c
theorem RdRus.mono {w w' : World} {a : Option Addr} {cap : Nat} {rs : List RuleM} (h : RdRus w a cap rs) (hb : Below w.heap.size w w') : RdRus w' a cap rs :=
  ⟨h.le, h.nil, h.cap, fun i r hi => by
    obtain ⟨b, off, x, c, h1, h2, h3, h4⟩ := h.at_ i r hi
    exact ⟨b, off, x, c, h1, Nat.lt_of_lt_of_le h2 hb.size, fun j u hj => (hb.cell (p := ⟨b, off + i * 7 + j, none⟩) h2).trans (h3 j u hj), h4.mono hb⟩⟩

structure TenM where
  id : Int
  key : List UInt8
  streams : Int
  rules : List RuleM
/-- A tenant by value: what it reads as, and where. -/
structure TenV where
  t : TenM
  kx : Option Addr
  kc : Nat
  rx : Option Addr
  rc : Nat
def TenV.c (v : TenV) : List Value := [.int .i64 v.t.id, .slice v.kx v.t.key.length v.kc, .int .i64 v.t.streams, .slice v.rx v.t.rules.length v.rc]
structure TenV.rd (W : World) (v : TenV) : Prop where
  key : RdB W (.slice v.kx v.t.key.length v.kc) v.t.key
  rules : RdRus W v.rx v.rc v.t.rules
theorem TenV.rd.mono {w w' : World} {v : TenV} (h : v.rd w) (hb : Below w.heap.size w w') : v.rd w' := ⟨h.key.mono hb, h.rules.mono hb⟩
def TenM.may (t : TenM) : Bool := decide (0 ≤ t.id) && decide (t.id ≤ 65535) && (t.key.length == 32) && decide (0 ≤ t.streams) && decide (t.streams ≤ 64) && decide (t.rules.length ≤ 32) && t.rules.all (·.may)
/-- Tenants in a row. -/
structure RowT (w : World) (a : Option Addr) (cap : Nat) (vs : List TenV) : Prop where
  le : vs.length ≤ cap
  nil : a = none → cap = 0
  cap : cap ≤ maxLen
  at_ : ∀ i v, vs[i]? = some v → ∃ b off, a = some ⟨b, off, none⟩ ∧ b < w.heap.size ∧ ∀ j u, v.c[j]? = some u → w.cell? ⟨b, off + i * 4 + j, none⟩ = some u
theorem RowT.mono {w w' : World} {a : Option Addr} {cap : Nat} {vs : List TenV} (h : RowT w a cap vs) (hb : Below w.heap.size w w') : RowT w' a cap vs :=
  ⟨h.le, h.nil, h.cap, fun i v hi => by
    obtain ⟨b, off, h1, h2, h3⟩ := h.at_ i v hi
    exact ⟨b, off, h1, Nat.lt_of_lt_of_le h2 hb.size, fun j u hj => (hb.cell (p := ⟨b, off + i * 4 + j, none⟩) h2).trans (h3 j u hj)⟩⟩
section
variable {w0 w : World} {L : List Assn}
theorem acl_MayV {r : RuleM} {x : Option Addr} {c : Nat} {b : Bool} (hm : Hid (r.may = b)) (hr : RdRu w r x c) : Calls Try.prog 20 #[ruV r (.slice x r.net.length c)] w fun e w' => e = .returned (.bool b) ∧ Below w.heap.size w w' := by
  rw [← hm.out]
  exact acl_May r x c hr.net hr.name
set_option maxRecDepth 100000 in
set_option maxHeartbeats 1000000 in
theorem ring_May1 {r : RuleM} {x : Option Addr} {c : Nat} {b : Bool} (hm : Hid (r.may = b)) (hr : RdRu w r x c) : Calls Try.prog 19 #[ruV r (.slice x r.net.length c)] w fun e w' => e = .returned (.bool (!b)) ∧ Below w.heap.size w w' := by
  have hB := ((Sat.refl w).alloc (.cells #[.int .i64 r.kind, .bool r.allow, .slice x r.net.length c, .int .i64 r.bits, .string r.name, .int .i64 r.low, .int .i64 r.high] 46 (0, 0)))
  have h1 := acl_MayV hm (hr.mono hB.below)
  unfold ruV at h1 ⊢
  clear hm
  go_enter Try.func19, Try.ntmps19
  go_wp2_with fail
  refine h1.mono ?_
  rintro _ w1 ⟨rfl, h2⟩
  go_wp2_with fail
  go_ret
  exact ⟨rfl, (hB.under h2).below⟩
set_option maxRecDepth 100000 in
set_option maxHeartbeats 1000000 in
theorem rules_index (la : Option Addr) (cap : Nat) (rs : List RuleM) (hr : RdRus w la cap rs) :
    Calls Try.prog 29 #[.slice la rs.length cap, .func (.func 19) #[] #[]] w fun e w' =>
      ((∃ i : Nat, e = .returned (.int .i64 i) ∧ (rs.all (·.may)) = false) ∨ (e = .returned (.int .i64 (-1)) ∧ (rs.all (·.may)) = true)) ∧ Below w.heap.size w w' := by
  have hcap := hr.cap
  have hle := hr.le
  unfold maxLen at hcap
  obtain ⟨n, hn⟩ : ∃ n, rs.length = n := ⟨_, rfl⟩
  have HN := hid_ hn
  rw [hn] at hle ⊢
  clear hn
  have eg : ∀ args w, (callFunc 19 args).run Try.prog w = .ok (.enter 19 args) w := enters_of Try.func19 (by kernel_rfl) rfl
  go_enter Try.func29, Try.ntmps29
  go_wp2_with fail
  go_loopg [5, 8] n (fun gg _ v8 wr => ∃ i : Nat, i ≤ n ∧ n - i ≤ gg ∧ v8 = .int .i64 i ∧ Hid (∀ r ∈ rs.take i, r.may = true) ∧ Below w.heap.size w wr)
  case atStart => exact ⟨0, by omega, by omega, rfl, hid_ (by simp), Below.refl _ _⟩
  case round =>
    obtain ⟨i, hi, hgg, rfl, hno, h1⟩ := hrel
    by_cases hlt : i < n
    · obtain ⟨r, hri⟩ : ∃ r, rs[i]? = some r := ⟨_, List.getElem?_eq_getElem (by rw [HN.out]; exact hlt)⟩
      obtain ⟨b, off, x, c, rfl, hb, hc, hru⟩ := (hr.mono h1).at_ i r hri
      have r0 : wr.cell? ⟨b, off + i * 7, none⟩ = some (.int .i64 r.kind) := hc 0 _ rfl
      have r1 : wr.cell? ⟨b, off + i * 7 + 1, none⟩ = some (.bool r.allow) := hc 1 _ rfl
      have r2 : wr.cell? ⟨b, off + i * 7 + 2, none⟩ = some (.slice x r.net.length c) := hc 2 _ rfl
      have r3 : wr.cell? ⟨b, off + i * 7 + 3, none⟩ = some (.int .i64 r.bits) := hc 3 _ rfl
      have r4 : wr.cell? ⟨b, off + i * 7 + 4, none⟩ = some (.string r.name) := hc 4 _ rfl
      have r5 : wr.cell? ⟨b, off + i * 7 + 5, none⟩ = some (.int .i64 r.low) := hc 5 _ rfl
      have r6 : wr.cell? ⟨b, off + i * 7 + 6, none⟩ = some (.int .i64 r.high) := hc 6 _ rfl
      have hcall := fun b (hm : Hid (r.may = b)) => ring_May1 hm hru
      unfold ruV at hcall
      have HRI := hid_ hri
      clear hc hri
      have z1 : 0 ≤ (i : Int) ∧ (i : Int) < (n : Int) := by omega
      cases hm : r.may
      · have hcall := hcall _ (hid_ hm)
        have HF := hid_ (show rs.all (·.may) = false from List.all_eq_false.2 ⟨r, List.mem_of_getElem? HRI.out, by rw [hm]; simp⟩)
        clear hm
        go_wp2_with (go_at_fn 19; refine hcall.mono ?_; rintro _ w2 ⟨rfl, hb2⟩)
        go_ret
        exact ⟨.inl ⟨i, rfl, HF.out⟩, h1.trans (hb2.mono h1.size)⟩
      · have hcall := hcall _ (hid_ hm)
        have HM := hid_ hm
        clear hm
        go_wp2_with (go_at_fn 19; refine hcall.mono ?_; rintro _ w2 ⟨rfl, hb2⟩)
        go_roundg (n - (i + 1))
        case measure => omega
        case rel =>
          refine ⟨i + 1, by omega, by omega, by go_num, hid_ ?_, h1.trans (hb2.mono h1.size)⟩
          intro y hy
          rw [List.take_add_one, HRI.out] at hy
          simp only [Option.toList, List.mem_append, List.mem_singleton] at hy
          rcases hy with hy | rfl
          · exact hno.out y hy
          · exact HM.out
    · obtain rfl : i = n := by omega
      have HF := hid_ (show rs.all (·.may) = true from List.all_eq_true.2 (by rw [← HN.out, List.take_length] at hno; exact hno.out))
      go_wp2_with fail
      go_ret
      exact ⟨.inr ⟨rfl, HF.out⟩, h1⟩
set_option maxRecDepth 100000 in
set_option maxHeartbeats 1000000 in
theorem rules_contains (la : Option Addr) (cap : Nat) (rs : List RuleM) (hr : RdRus w la cap rs) :
    Calls Try.prog 18 #[.slice la rs.length cap, .func (.func 19) #[] #[]] w fun e w' => e = .returned (.bool (!(rs.all (·.may)))) ∧ Below w.heap.size w w' := by
  have hcall := rules_index la cap rs hr
  have hcap := hr.cap
  have hle := hr.le
  unfold maxLen at hcap
  have hll : (rs.length : Int) ≤ 9223372036854775807 := by omega
  go_enter Try.func18, Try.ntmps18
  go_wp2_with fail
  refine hcall.mono ?_
  rintro _ w2 ⟨⟨i, rfl, e⟩ | ⟨rfl, e⟩, h2⟩
  · have hil : (0 : Int) ≤ (i : Int) := by omega
    have E := hid_ e
    clear e
    go_wp2_with fail
    go_ret
    rw [E.out]
    exact ⟨rfl, h2⟩
  · have E := hid_ e
    clear e
    go_wp2_with fail
    go_ret
    rw [E.out]
    exact ⟨rfl, h2⟩
set_option maxRecDepth 100000 in
set_option maxHeartbeats 2000000 in
theorem ring_May (v : TenV) (hv : v.rd w) : Calls Try.prog 9 #[.agg v.c.toArray] w fun e w' => e = .returned (.bool v.t.may) ∧ Below w.heap.size w w' := by
  obtain ⟨⟨id, key, st, rs⟩, kx, kc, rx, rc⟩ := v
  obtain ⟨hk, hr⟩ := hv
  unfold TenV.c
  dsimp only at hk hr ⊢
  have hB := (Sat.refl w).alloc (.cells #[.int .i64 id, .slice kx key.length kc, .int .i64 st, .slice rx rs.length rc] 28 (0, 0))
  have hcall := rules_contains rx rc rs (hr.mono hB.below)
  have hkl := hk.len
  have hrl : rs.length ≤ maxLen := Nat.le_trans hr.le hr.cap
  unfold maxLen at hkl hrl
  clear hk hr
  by_cases a1 : 0 ≤ id
  · by_cases a2 : id ≤ 65535
    · by_cases a3 : key.length = 32
      · by_cases a4 : 0 ≤ st
        · by_cases a5 : st ≤ 64
          · by_cases a6 : rs.length ≤ 32
            · have E := hid_ (show TenM.may ⟨id, key, st, rs⟩ = rs.all (·.may) by unfold TenM.may; simp [a1, a2, a3, a4, a5, a6])
              have q1 : decide (0 ≤ id) = true := by simp [a1]
              have q2 : decide (id ≤ 65535) = true := by simp [a2]
              have q3 : ((key.length : Int) == 32) = true := by simp [a3]
              have q4 : decide (0 ≤ st) = true := by simp [a4]
              have q5 : decide (st ≤ 64) = true := by simp [a5]
              have q6 : decide ((rs.length : Int) ≤ 32) = true := by simp; omega
              clear a3 a6
              go_enter Try.func9, Try.ntmps9
              go_wp2_with fail
              refine hcall.mono ?_
              rintro _ w1 ⟨rfl, h1⟩
              go_wp2_with fail
              go_ret
              exact ⟨ret_bool E.out.symm, (hB.under h1).below⟩
            · have E := hid_ (show TenM.may ⟨id, key, st, rs⟩ = false by unfold TenM.may; simp [a6])
              have q1 : decide (0 ≤ id) = true := by simp [a1]
              have q2 : decide (id ≤ 65535) = true := by simp [a2]
              have q3 : ((key.length : Int) == 32) = true := by simp [a3]
              have q4 : decide (0 ≤ st) = true := by simp [a4]
              have q5 : decide (st ≤ 64) = true := by simp [a5]
              have q6 : decide ((rs.length : Int) ≤ 32) = false := by simp; omega
              clear a3 a6
              go_enter Try.func9, Try.ntmps9
              go_wp2_with fail
              go_ret
              exact ⟨ret_bool E.out.symm, hB.below⟩
          · have E := hid_ (show TenM.may ⟨id, key, st, rs⟩ = false by unfold TenM.may; simp [a5])
            have q1 : decide (0 ≤ id) = true := by simp [a1]
            have q2 : decide (id ≤ 65535) = true := by simp [a2]
            have q3 : ((key.length : Int) == 32) = true := by simp [a3]
            have q4 : decide (0 ≤ st) = true := by simp [a4]
            have q5 : decide (st ≤ 64) = false := by simp; omega
            clear a3
            go_enter Try.func9, Try.ntmps9
            go_wp2_with fail
            go_ret
            exact ⟨ret_bool E.out.symm, hB.below⟩
        · have E := hid_ (show TenM.may ⟨id, key, st, rs⟩ = false by unfold TenM.may; simp [a4])
          have q1 : decide (0 ≤ id) = true := by simp [a1]
          have q2 : decide (id ≤ 65535) = true := by simp [a2]
          have q3 : ((key.length : Int) == 32) = true := by simp [a3]
          have q4 : decide (0 ≤ st) = false := by simp; omega
          clear a3
          go_enter Try.func9, Try.ntmps9
          go_wp2_with fail
          go_ret
          exact ⟨ret_bool E.out.symm, hB.below⟩
      · have E := hid_ (show TenM.may ⟨id, key, st, rs⟩ = false by unfold TenM.may; simp [a3])
        have q1 : decide (0 ≤ id) = true := by simp [a1]
        have q2 : decide (id ≤ 65535) = true := by simp [a2]
        have q3 : ((key.length : Int) == 32) = false := by rw [beq_eq_false_iff_ne]; omega
        clear a3
        go_enter Try.func9, Try.ntmps9
        go_wp2_with fail
        go_ret
        exact ⟨ret_bool E.out.symm, hB.below⟩
    · have E := hid_ (show TenM.may ⟨id, key, st, rs⟩ = false by unfold TenM.may; simp [a2])
      have q1 : decide (0 ≤ id) = true := by simp [a1]
      have q2 : decide (id ≤ 65535) = false := by simp; omega
      go_enter Try.func9, Try.ntmps9
      go_wp2_with fail
      go_ret
      exact ⟨ret_bool E.out.symm, hB.below⟩
  · have E := hid_ (show TenM.may ⟨id, key, st, rs⟩ = false by unfold TenM.may; simp [a1])
    have q1 : decide (0 ≤ id) = false := by simp; omega
    go_enter Try.func9, Try.ntmps9
    go_wp2_with fail
    go_ret
    exact ⟨ret_bool E.out.symm, hB.below⟩
end
end Go.Proofs.Ytahnjbbjfjlpoaa
