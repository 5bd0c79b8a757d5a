/- slices.IndexFunc and slices.ContainsFunc over messages. -/
import Derived.Test.YtipkcbphjgmgiaaRepW
namespace Go.Proofs.Ytipkcbphjgmgiaa
open Go Go.RowKit
set_option linter.unusedVariables false
set_option linter.unusedSimpArgs false
attribute [local simp high] sz68 sz66

/-- What is asked of a function that is handed in: it says p of each message, and changes nothing that was there. -/
def Says (w0 : World) (L : List Assn) (g : Nat) (lb : Array Value) (p : MsgM → Bool) : Prop :=
  ∀ (W : World) (A : Assn), Sat w0 W (A :: L) → ∀ m : MsgM, m.ok → Calls Try.prog g (#[.agg (msgC m).toArray] ++ lb) W fun e w' => e = .returned (.bool (p m)) ∧ Below W.heap.size W w'

section
variable {w0 w : World} {L : List Assn}
theorem Msgs.at {a : Option Addr} {n cap : Nat} {l : List MsgM} (h : Sat w0 w (Msgs (.slice a n cap) l :: L)) {i : Nat} {m : MsgM} (hi : l[i]? = some m) :
    m.ok ∧ ∃ b o, a = some ⟨b, o, none⟩ ∧ Sem.run Try.prog (loadCellsFrom ⟨b, o + i * K33, none⟩ 0 K33 #[]) w = .ok (msgC m).toArray w := by
  obtain ⟨hok, h1⟩ := Msgs.opn h
  have hil : i < l.length := (List.getElem?_eq_some_iff.1 hi).1
  have hm := hok m (List.mem_of_getElem? hi)
  obtain ⟨b, o, c, he, _⟩ := OwnS.cells h1 (by omega)
  injection he with e1 e2 e3
  subst e1 e2 e3
  exact ⟨hm, b, o, rfl, OwnS.load33 h1 hil hm (fun j hj => flat_get hok hi hj)⟩

theorem rep_index {g : Nat} {lb : Array Value} {p : MsgM → Bool} (eg : ∀ args w, (callFunc g args).run Try.prog w = .ok (.enter g args) w) (hp : Says w0 L g lb p) {v : Value} {l : List MsgM} (hs : Sat w0 w (Msgs v l :: L)) :
    Calls Try.prog 35 #[v, .func (.func g) #[] lb] w fun e w' =>
      ((∃ (i : Nat) (m : MsgM), e = .returned (.int .i64 i) ∧ l[i]? = some m ∧ p m = true ∧ ∀ x ∈ l.take i, p x = false) ∨ (e = .returned (.int .i64 (-1)) ∧ ∀ x ∈ l, p x = false)) ∧ Sat w0 w' (Msgs v l :: L) := by
  obtain ⟨a, cap, rfl, hc1, hc2⟩ := Msgs.form hs
  obtain ⟨n, hn⟩ : ∃ n, l.length = n := ⟨_, rfl⟩
  have HN := hid_ hn
  rw [hn] at hs hc1 ⊢
  have hn63 : n ≤ 9223372036854775807 := by unfold maxLen at hc2; omega
  clear hn
  go_enter Try.func35, Try.ntmps35
  go_wp2_with fail
  go_loopg [5, 8] n (fun gg _ v8 wr => ∃ (i : Nat), i ≤ n ∧ n - i ≤ gg ∧ v8 = .int .i64 i ∧ Hid (∀ x ∈ l.take i, p x = false) ∧ Sat w0 wr (Msgs (.slice a n cap) l :: L))
  case atStart => exact ⟨0, by omega, by omega, rfl, hid_ (by simp), hs⟩
  case round =>
    obtain ⟨i, hi, hgg, rfl, hno, h1⟩ := hrel
    clear hs
    by_cases hlt : i < n
    · obtain ⟨m, hm⟩ : ∃ m, l[i]? = some m := ⟨_, List.getElem?_eq_getElem (by rw [HN.out]; exact hlt)⟩
      obtain ⟨hok, b, o, rfl, hld⟩ := Msgs.at h1 hm
      have HM := hid_ hm
      clear hm
      have hcall := hp _ _ h1 m hok
      cases hq : p m
      · rw [hq] at hcall
        go_wp2_with (go_at_fn g; refine hcall.mono ?_; rintro _ w2 ⟨rfl, hb2⟩)
        go_roundg (n - (i + 1))
        case measure => omega
        case rel =>
          refine ⟨i + 1, by omega, by omega, by go_num, hid_ ?_, h1.under hb2⟩
          intro x hx
          rw [List.take_add_one, HM.out] at hx
          simp only [Option.toList, List.mem_append, List.mem_singleton] at hx
          rcases hx with hx | rfl
          · exact hno.out x hx
          · exact hq
      · rw [hq] at hcall
        go_wp2_with (go_at_fn g; refine hcall.mono ?_; rintro _ w2 ⟨rfl, hb2⟩)
        go_ret
        exact ⟨.inl ⟨i, m, rfl, HM.out, hq, hno.out⟩, h1.under hb2⟩
    · obtain rfl : i = n := by omega
      go_wp2_with fail
      go_ret
      rw [← HN.out, List.take_length] at hno
      exact ⟨.inr ⟨rfl, hno.out⟩, h1⟩

theorem rep_contains {g : Nat} {lb : Array Value} {p : MsgM → Bool} (eg : ∀ args w, (callFunc g args).run Try.prog w = .ok (.enter g args) w) (hp : Says w0 L g lb p) {v : Value} {l : List MsgM} (hs : Sat w0 w (Msgs v l :: L)) :
    Calls Try.prog 32 #[v, .func (.func g) #[] lb] w fun e w' => e = .returned (.bool (l.any p)) ∧ Sat w0 w' (Msgs v l :: L) := by
  have hcall := rep_index eg hp hs
  obtain ⟨a, cap, rfl, hc1, hc2⟩ := Msgs.form hs
  have hll : (l.length : Int) ≤ 9223372036854775807 := by unfold maxLen at hc2; omega
  go_enter Try.func32, Try.ntmps32
  go_wp2_with fail
  refine hcall.mono ?_
  rintro _ w2 ⟨⟨i, m, rfl, hi, hpm, _⟩ | ⟨rfl, hall⟩, h2⟩
  · have e : l.any p = true := List.any_eq_true.2 ⟨m, List.mem_of_getElem? hi, hpm⟩
    have hil : (0 : Int) ≤ (i : Int) := by omega
    clear hi
    go_wp2_with fail
    go_ret
    rw [e]
    exact ⟨rfl, h2⟩
  · have e : l.any p = false := List.any_eq_false.2 (fun x hx => by rw [hall x hx]; exact Bool.false_ne_true)
    go_wp2_with fail
    go_ret
    rw [e]
    exact ⟨rfl, h2⟩
end
end Go.Proofs.Ytipkcbphjgmgiaa
