/- The law StreamOrder, walked. -/
import Derived.Deep.RegionHeld3
import Derived.Deep.RegionLaw
import Derived.Deep.DeepCutAuto
import Derived.Test.YtinlemeogdnanaaStreamV
import Derived.Test.YtinlemeogdnanaaOpnS
namespace Go.Proofs.Ytinlemeogdnanaa
open Go Go.RowKit
set_option linter.unusedVariables false
set_option linter.unusedSimpArgs false

abbrev PcsO (ga gb e sB gB oB : Nat) (a b : StM) (s0 s1 g0 g1 : List UInt8) (x0 x1 y0 y1 : Option Addr) (k0 k1 j0 j1 : Nat) (o0 o1 : Bool) : List Assn :=
  [StA ga a, StA gb b, Blk gB (.cells #[.slice y0 g0.length j0, .slice y1 g1.length j1] 43 (0, 0)), OwnB 5 (.slice y0 g0.length j0) g0, OwnB 5 (.slice y1 g1.length j1) g1,
   Blk sB (.cells #[.slice x0 s0.length k0, .slice x1 s1.length k1] 43 (0, 0)), OwnB 5 (.slice x0 s0.length k0) s0, OwnB 5 (.slice x1 s1.length k1) s1,
   Blk e (.cells #[.pointer (some ⟨ga, 0, none⟩), .pointer (some ⟨gb, 0, none⟩)] 42 (0, 0)), Blk oB (.cells #[.bool o0, .bool o1] 44 (0, 0))]

abbrev Pcs (ga gb e sB gB oB : Nat) (a b : StM) (s0 s1 g0 g1 : List UInt8) (x0 x1 y0 y1 : Option Addr) (k0 k1 j0 j1 : Nat) : List Assn :=
  PcsO ga gb e sB gB oB a b s0 s1 g0 g1 x0 x1 y0 y1 k0 k1 j0 j1 a.told b.told
theorem szA (W : World) (o : Obj) : (W.alloc o).heap.size = W.heap.size + 1 := by simp

section
variable {w0 w : World} {L : List Assn}
theorem pass0 {ga gb e sB gB oB : Nat} {a b : StM} {s0 s1 g0 g1 : List UInt8} {x0 x1 y0 y1 : Option Addr} {k0 k1 j0 j1 : Nat} {o0 o1 : Bool} {c n : Nat} (hI : OrdI c n a b s0 s1 g0 g1) (hn : n ≤ 42) {G : List UInt8} {E : Int}
    (hG : Hid (g0 ++ a.wait.take c = G)) (hE : Hid ((if passFin c a then (1 : Int) else 0) = E)) (h : Sat w0 w (PcsO ga gb e sB gB oB a b s0 s1 g0 g1 x0 x1 y0 y1 k0 k1 j0 j1 o0 o1)) :
    Calls Try.prog 20 #[.pointer (some ⟨ga, 0, none⟩), .pointer (some ⟨gb, 0, none⟩), .pointer (some ⟨gB, 0, none⟩)] w fun e' w' => e' = .returned (.int .i64 E) ∧
      ∃ y j, G.length ≤ j ∧ Sat w0 w' (PcsO ga gb e sB gB oB (passFr c a) (passTo c a b) s0 s1 G g1 x0 x1 y y1 k0 k1 j j1 o0 o1) := by
  have hl := hI.l0
  have hle := hI.le.1
  have P := passM_pair hI.pr g0
  rw [hG.out, hE.out] at P
  refine (stream_pass ga gb gB 0 a b #[.slice y0 g0.length j0, .slice y1 g1.length j1] 43 (.slice y0 g0.length j0) g0 rfl (by omega) h).mono ?_
  rw [P]
  rintro _ w' ⟨rfl, v, h1⟩
  obtain ⟨y, j, rfl, hj, _, _⟩ := (OwnB.rd (Sat.front [_, _, _] h1)).form
  exact ⟨rfl, y, j, hj, h1⟩
theorem pass1 {ga gb e sB gB oB : Nat} {a b : StM} {s0 s1 g0 g1 : List UInt8} {x0 x1 y0 y1 : Option Addr} {k0 k1 j0 j1 : Nat} {o0 o1 : Bool} {c n : Nat} (hI : OrdI c n a b s0 s1 g0 g1) (hn : n ≤ 42) {G : List UInt8} {E : Int}
    (hG : Hid (g1 ++ b.wait.take c = G)) (hE : Hid ((if passFin c b then (1 : Int) else 0) = E)) (h : Sat w0 w (PcsO ga gb e sB gB oB a b s0 s1 g0 g1 x0 x1 y0 y1 k0 k1 j0 j1 o0 o1)) :
    Calls Try.prog 20 #[.pointer (some ⟨gb, 0, none⟩), .pointer (some ⟨ga, 0, none⟩), .pointer (some ⟨gB, 1, none⟩)] w fun e' w' => e' = .returned (.int .i64 E) ∧
      ∃ y j, G.length ≤ j ∧ Sat w0 w' (PcsO ga gb e sB gB oB (passTo c b a) (passFr c b) s0 s1 g0 G x0 x1 y0 y k0 k1 j0 j o0 o1) := by
  have hl := hI.l1
  have hle := hI.symm.le.1
  have P := passM_pair hI.pr.symm g1
  rw [hG.out, hE.out] at P
  refine (stream_pass gb ga gB 1 b a #[.slice y0 g0.length j0, .slice y1 g1.length j1] 43 (.slice y1 g1.length j1) g1 rfl (by omega) (Sat.re [1, 0, 2, 4, 3] [_, _, _, _, _] h)).mono ?_
  rw [P]
  rintro _ w' ⟨rfl, v, h1⟩
  obtain ⟨y, j, rfl, hj, _, _⟩ := (OwnB.rd (Sat.front [_, _, _] h1)).form
  exact ⟨rfl, y, j, hj, Sat.re [1, 0, 2, 4, 3] [_, _, _, _, _] h1⟩

def sel {α : Type} (k : Nat) (p q : α) : α := if k = 0 then p else q
theorem sel0 {α : Type} (p q : α) : sel 0 p q = p := rfl
theorem sel1 {α : Type} (p q : α) : sel 1 p q = q := rfl

/-- What a pass of end k leaves, said for either end. -/
structure PassK (c n k : Nat) (a b a' b' : StM) (s0 s1 g0 g1 g0' g1' : List UInt8) (E : Int) : Prop where
  ord : OrdI c n a' b' s0 s1 g0' g1'
  e01 : E = 0 ∨ E = 1
  was : (sel k a b).told = true → E = 0 ∧ (sel k g0' g1').length = (sel k g0 g1).length
  zero : E = 0 → a'.told = a.told ∧ b'.told = b.told
  one : E = 1 → (sel k a b).told = false ∧ (sel k a' b').told = true ∧ (sel k b' a').told = (sel k b a).told ∧ sel k g0' g1' = sel k s0 s1
  wait : (sel k a' b').wait = (sel k a b).wait.drop c
  other : (sel k b' a').wait = (sel k b a).wait
theorem passK {ga gb e sB gB oB : Nat} {a b : StM} {s0 s1 g0 g1 : List UInt8} {x0 x1 y0 y1 : Option Addr} {k0 k1 j0 j1 : Nat} {c n k : Nat} (hk : k = 0 ∨ k = 1) (hI : OrdI c n a b s0 s1 g0 g1) (hn : n ≤ 42)
    (h : Sat w0 w (Pcs ga gb e sB gB oB a b s0 s1 g0 g1 x0 x1 y0 y1 k0 k1 j0 j1)) :
    Calls Try.prog 20 #[.pointer (some ⟨sel k ga gb, 0, none⟩), .pointer (some ⟨sel k gb ga, 0, none⟩), .pointer (some ⟨gB, k, none⟩)] w fun e' w' => ∃ (E : Int) (a' b' : StM) (g0' g1' : List UInt8) (y0' y1' : Option Addr) (j0' j1' : Nat),
      e' = .returned (.int .i64 E) ∧ PassK c n k a b a' b' s0 s1 g0 g1 g0' g1' E ∧ Sat w0 w' (PcsO ga gb e sB gB oB a' b' s0 s1 g0' g1' x0 x1 y0' y1' k0 k1 j0' j1' a.told b.told) := by
  rcases hk with rfl | rfl
  · refine (pass0 hI hn (hid_ rfl) (hid_ rfl) h).mono ?_
    rintro _ w' ⟨rfl, y, j, hj, h1⟩
    refine ⟨_, passFr c a, passTo c a b, _, g1, y, y1, j, j1, rfl, ⟨hI.pass, ?_, ?_, ?_, ?_, rfl, rfl⟩, h1⟩
    · cases passFin c a <;> simp
    all_goals rcases hI.cases with ⟨ht, hf, ht', hG⟩ | ⟨ht, hf, ht', hG⟩ | ⟨ht, hf, ht', hG⟩
    all_goals simp only [sel0, ht, hf, ht', passTo_told, Bool.false_eq_true, if_true, if_false]
    all_goals (try (rw [hG]))
    all_goals simp
  · refine (pass1 hI hn (hid_ rfl) (hid_ rfl) h).mono ?_
    rintro _ w' ⟨rfl, y, j, hj, h1⟩
    refine ⟨_, passTo c b a, passFr c b, g0, _, y0, y, j0, j, rfl, ⟨hI.symm.pass.symm, ?_, ?_, ?_, ?_, rfl, rfl⟩, h1⟩
    · cases passFin c b <;> simp
    all_goals rcases hI.symm.cases with ⟨ht, hf, ht', hG⟩ | ⟨ht, hf, ht', hG⟩ | ⟨ht, hf, ht', hG⟩
    all_goals simp only [sel1, ht, hf, ht', passTo_told, Bool.false_eq_true, if_true, if_false]
    all_goals (try (rw [hG]))
    all_goals simp
theorem waitsK {ga gb e sB gB oB : Nat} {a b : StM} {s0 s1 g0 g1 : List UInt8} {x0 x1 y0 y1 : Option Addr} {k0 k1 j0 j1 k : Nat} (hk : k = 0 ∨ k = 1) (h : Sat w0 w (Pcs ga gb e sB gB oB a b s0 s1 g0 g1 x0 x1 y0 y1 k0 k1 j0 j1)) :
    Calls Try.prog 16 #[.pointer (some ⟨sel k ga gb, 0, none⟩)] w fun e w' => e = .returned (.int .i64 (sel k a b).wait.length) ∧ w = w' := by
  rcases hk with rfl | rfl
  · exact stream_Waits ga a h
  · exact stream_Waits gb b (Sat.swap h)
/-- The cells that an index k reads. -/
theorem cellsK {ga gb e sB gB oB : Nat} {a b : StM} {s0 s1 g0 g1 : List UInt8} {x0 x1 y0 y1 : Option Addr} {k0 k1 j0 j1 k : Nat} {o0 o1 : Bool} (hk : k = 0 ∨ k = 1) (h : Sat w0 w (PcsO ga gb e sB gB oB a b s0 s1 g0 g1 x0 x1 y0 y1 k0 k1 j0 j1 o0 o1)) :
    w.cell? ⟨e, k, none⟩ = some (.pointer (some ⟨sel k ga gb, 0, none⟩)) ∧ w.cell? ⟨e, 1 - k, none⟩ = some (.pointer (some ⟨sel k gb ga, 0, none⟩)) ∧ w.cell? ⟨gB, k, none⟩ = some (.slice (sel k y0 y1) (sel k g0 g1).length (sel k j0 j1)) ∧
    w.cell? ⟨sB, k, none⟩ = some (.slice (sel k x0 x1) (sel k s0 s1).length (sel k k0 k1)) ∧ w.cell? ⟨oB, k, none⟩ = some (.bool (sel k o0 o1)) ∧ w.frozen? ⟨oB, k, none⟩ = false ∧
    RdB w (.slice (sel k y0 y1) (sel k g0 g1).length (sel k j0 j1)) (sel k g0 g1) ∧ RdB w (.slice (sel k x0 x1) (sel k s0 s1).length (sel k k0 k1)) (sel k s0 s1) := by
  have he := Sat.front [_, _, _, _, _, _, _, _] h
  have hg := Sat.front [_, _] h
  have hs := Sat.front [_, _, _, _, _] h
  have ho := Sat.front [_, _, _, _, _, _, _, _, _] h
  rcases hk with rfl | rfl
  · exact ⟨he.cell 0 rfl, he.cell 1 rfl, hg.cell 0 rfl, hs.cell 0 rfl, ho.cell 0 rfl, ho.frozen 0, OwnB.rd (Sat.front [_, _, _] h), OwnB.rd (Sat.front [_, _, _, _, _, _] h)⟩
  · exact ⟨he.cell 1 rfl, he.cell 0 rfl, hg.cell 1 rfl, hs.cell 1 rfl, ho.cell 1 rfl, ho.frozen 1, OwnB.rd (Sat.front [_, _, _, _] h), OwnB.rd (Sat.front [_, _, _, _, _, _, _] h)⟩
/-- The mark that end k's end was told. -/
theorem setK {ga gb e sB gB oB : Nat} {a b : StM} {s0 s1 g0 g1 : List UInt8} {x0 x1 y0 y1 : Option Addr} {k0 k1 j0 j1 k : Nat} {o0 o1 : Bool} (hk : k = 0 ∨ k = 1) (h : Sat w0 w (PcsO ga gb e sB gB oB a b s0 s1 g0 g1 x0 x1 y0 y1 k0 k1 j0 j1 o0 o1)) :
    Sat w0 (w.setCell ⟨oB, k, none⟩ (.bool true)) (PcsO ga gb e sB gB oB a b s0 s1 g0 g1 x0 x1 y0 y1 k0 k1 j0 j1 (sel k true o0) (sel k o1 true)) := by
  have ho := Sat.front [_, _, _, _, _, _, _, _, _] h
  rcases hk with rfl | rfl
  · have h1 := ho.set 0 (.bool true)
    simp only [List.setIfInBounds_toArray, List.set_cons_succ, List.set_cons_zero] at h1
    exact Sat.re [1, 2, 3, 4, 5, 6, 7, 8, 9, 0] [_, _, _, _, _, _, _, _, _, _] h1
  · have h1 := ho.set 1 (.bool true)
    simp only [List.setIfInBounds_toArray, List.set_cons_succ, List.set_cons_zero] at h1
    exact Sat.re [1, 2, 3, 4, 5, 6, 7, 8, 9, 0] [_, _, _, _, _, _, _, _, _, _] h1

set_option maxRecDepth 100000 in
set_option maxHeartbeats 4000000 in
theorem stream_order_law (v u : Value) (w : World) (hv : IsInt w v) (hu : IsSays w u) :
    Calls Try.prog 6 #[v, u] w fun e w' => e = .returned (.bool true) ∧ Below w.heap.size w w' := by
  obtain ⟨n1, rfl, _⟩ := hv
  obtain ⟨al, cl, l, rfl, hl⟩ := hu
  have hs := Sat.refl w
  have hb1 := um_bd n1 (m := 3000) (by omega) (by omega)
  obtain ⟨cr, hcr⟩ := Int.eq_ofNat_of_zero_le hb1.1
  rw [hcr] at hb1
  obtain ⟨c, hc⟩ : ∃ c : Nat, 1 + cr = c := ⟨_, rfl⟩
  have hc1 : 1 ≤ c := by omega
  have hc2 : c ≤ 3000 := by omega
  have hcw : IntKind.i64.wrap (1 + (cr : Int)) = (c : Int) := by rw [IntWalk.i64_in _ (by omega)]; omega
  have hcw2 : (1 : Int) + (cr : Int) = (c : Int) := by omega
  obtain ⟨M, hM⟩ : ∃ M : Nat, min l.length 40 = M := ⟨_, rfl⟩
  have hM1 : M ≤ 40 := by omega
  have hM2 : M ≤ l.length := by omega
  have hM3 : M = 40 ∨ M = l.length := by omega
  have hMi : min (l.length : Int) 40 = (M : Int) := by omega
  have HM := hid_ hM
  clear hM hc
  go_enter Try.func6, Try.ntmps6
  go_wp2_with fail
  refine (stream_New 5 c (by omega) (by omega) (by omega) (by omega) hs).mono ?_
  rintro _ w1 ⟨ga, rfl, h1⟩
  go_wp2_with fail
  refine (stream_New 5 c (by omega) (by omega) (by omega) (by omega) h1).mono ?_
  rintro _ w2 ⟨gb, rfl, h2⟩
  go_wp2_with fail
  have h3 := OwnB.nilI (t := 5) (OwnB.nilI (t := 5) (OwnB.nilI (t := 5) (OwnB.nilI (t := 5) ((((h2.alloc (.cells #[.pointer (some ⟨ga, 0, none⟩), .pointer (some ⟨gb, 0, none⟩)] 42 (0, 0))).alloc
    (.cells #[.slice none 0 0, .slice none 0 0] 43 (0, 0))).alloc (.cells #[.slice none 0 0, .slice none 0 0] 43 (0, 0))).alloc (.cells #[.bool false, .bool false] 44 (0, 0))))))
  have h4 := Sat.re [9, 8, 5, 0, 1, 6, 2, 3, 7, 4] [_, _, _, _, _, _, _, _, _, _] h3
  clear h1 h2 h3
  simp only [szA] at h4
  generalize w2.heap.size = e at *
  replace h4 : Sat w _ (Pcs ga gb e (e + 1) (e + 1 + 1) (e + 1 + 1 + 1) (StM.new 5 c) (StM.new 5 c) [] [] [] [] none none none none 0 0 0 0) := h4
  have hN : IntKind.i64.wrap ((M : Int) + 2) = ((M + 2 : Nat) : Int) := by rw [IntWalk.i64_in _ (by omega)]; omega
  go_loopg [40] (M + 2) (fun gg v40 wr => ∃ (i : Nat) (a b : StM) (s0 s1 g0 g1 : List UInt8) (x0 x1 y0 y1 : Option Addr) (k0 k1 j0 j1 : Nat), i ≤ M + 2 ∧ M + 2 - i ≤ gg ∧ v40 = .int .i64 i ∧ OrdI c i a b s0 s1 g0 g1 ∧ (i = M + 2 → 400 ≤ c → a.wait = [] ∧ b.wait = []) ∧
    Sat w wr (Pcs ga gb e (e + 1) (e + 1 + 1) (e + 1 + 1 + 1) a b s0 s1 g0 g1 x0 x1 y0 y1 k0 k1 j0 j1))
  case atStart =>
    exact ⟨0, _, _, _, _, _, _, _, _, _, _, _, _, _, _, by omega, by omega, rfl, ⟨PairI.new (by omega) (by omega) (by omega) (by omega), by simp [StM.new], by simp [StM.new], by simp, by simp⟩, by omega, h4⟩
  case round =>
    obtain ⟨i, a, b, s0, s1, g0, g1, x0, x1, y0, y1, k0, k1, j0, j1, hi, hgg, rfl, hI, hend, h5⟩ := hrel
    clear h4
    by_cases hlt : i < M + 2
    · clear hend
      obtain ⟨xb, hxb⟩ : ∃ xb, wr.heap.size = xb := ⟨_, rfl⟩
      have h6 := h5.alloc (.cells #[.bool false, .bool false, .bool true, .slice none 0 0] 46 (0, 0))
      rw [hxb] at h6
      go_upto_region 12 with fail
      generalize hW : wr.alloc (.cells #[.bool false, .bool false, .bool true, .slice none 0 0] 46 (0, 0)) = W6 at *
      clear hW h5
      go_cut [51] (fun v51 wx => v51 = .bool (decide (i < M)) ∧ wx = W6)
      case first =>
        as_aux_lemma =>
        by_cases hiM : i < M
        · have e1 : (i : Int) < (l.length : Int) := by omega
          have e2 : (i : Int) < 40 := by omega
          go_wp2_with fail
          go_meet
          exact ⟨by simp [hiM], rfl⟩
        · have e1 : ¬ (i : Int) < (l.length : Int) ∨ ¬ (i : Int) < 40 := by omega
          by_cases e2 : (i : Int) < (l.length : Int)
          all_goals (try have e3 : ¬ (i : Int) < 40 := by omega)
          all_goals
            clear e1
            go_wp2_with fail
            go_meet
            exact ⟨by simp [hiM], rfl⟩
      obtain ⟨rfl, rfl⟩ := hcut
      go_upto_if 51 with fail
      go_cut [] (fun wx => ∃ sx : SayM, (M ≤ i → sx.moves = true) ∧ RdSay w sx ∧ Sat w wx (Blk xb (.cells (sayC sx).toArray 46 (0, 0)) :: Pcs ga gb e (e + 1) (e + 1 + 1) (e + 1 + 1 + 1) a b s0 s1 g0 g1 x0 x1 y0 y1 k0 k1 j0 j1))
      case first =>
        as_aux_lemma =>
        by_cases hiM : i < M
        · have e1 : (i : Int) < (l.length : Int) := by omega
          have e2 : (i : Int) < 40 := by omega
          obtain ⟨sx, hsx⟩ : ∃ sx, l[i]? = some sx := ⟨_, List.getElem?_eq_getElem (by omega)⟩
          obtain ⟨b2, off, rfl, hb2, hc2', hrd⟩ := hl.2.2 i sx hsx
          have hcell : ∀ j u, (sayC sx)[j]? = some u → wc.cell? ⟨b2, off + i * 4 + j, none⟩ = some u := fun j u hj => (h6.below.cell (p := ⟨b2, off + i * 4 + j, none⟩) hb2).trans (hc2' j u hj)
          have q0 : wc.cell? ⟨b2, off + i * 4, none⟩ = some (.bool sx.left) := hcell 0 _ rfl
          have q1 : wc.cell? ⟨b2, off + i * 4 + 1, none⟩ = some (.bool sx.ends) := hcell 1 _ rfl
          have q2 : wc.cell? ⟨b2, off + i * 4 + 2, none⟩ = some (.bool sx.moves) := hcell 2 _ rfl
          have q3 : wc.cell? ⟨b2, off + i * 4 + 3, none⟩ = some (.slice sx.x sx.b.length sx.c) := hcell 3 _ rfl
          have c0 := h6.cell 0 rfl
          have c1 := h6.cell 1 rfl
          have c2 := h6.cell 2 rfl
          have c3 := h6.cell 3 rfl
          have f0 := h6.frozen 0
          have f1 := h6.frozen 1
          have f2 := h6.frozen 2
          have f3 := h6.frozen 3
          have h7 := (((h6.set 0 (.bool sx.left)).set 1 (.bool sx.ends)).set 2 (.bool sx.moves)).set 3 (.slice sx.x sx.b.length sx.c)
          simp only [List.setIfInBounds_toArray, List.set_cons_succ, List.set_cons_zero] at h7
          have hd : decide (i < M) = true := decide_eq_true hiM
          clear hsx hcell hc2'
          rw [hd]
          go_wp2_with fail
          go_meet
          exact ⟨sx, by omega, hrd, h7⟩
        · have hd : decide (i < M) = false := decide_eq_false hiM
          clear hiM
          rw [hd]
          go_wp2_with fail
          go_meet
          exact ⟨⟨false, false, true, none, [], 0⟩, fun _ => rfl, RdB.nil _, h6⟩
      case rest =>
        obtain ⟨sx, hmv, hrd, h7⟩ := hcut
        clear h6
        have c0 : wc.cell? ⟨xb, 0, none⟩ = some (.bool sx.left) := h7.cell 0 rfl
        go_upto_if 58 with fail
        go_cut [13] (fun v13 wx => (∃ me : Int, v13 = .int .i64 me ∧ (sx.left = true ∧ me = 0 ∨ sx.left = false ∧ me = 1)) ∧ wx = wc)
        case first =>
          as_aux_lemma =>
          cases hL : sx.left
          all_goals
            rw [hL] at c0
            go_wp2_with fail
            go_meet
            exact ⟨⟨_, rfl, by rw [hL]; simp⟩, rfl⟩
        obtain ⟨⟨me, rfl, hme⟩, rfl⟩ := hcut
        clear c0
        go_upto_region 17 with fail
        go_cut [70] (fun v70 wx => ∃ sb : Bool, v70 = .bool sb ∧ (sb = true → sx.b.length ≤ 2000 ∧ (if sx.left then a.sendB sx.b else b.sendB sx.b) = true) ∧
          Sat w wx (Blk xb (.cells (sayC sx).toArray 46 (0, 0)) :: Pcs ga gb e (e + 1) (e + 1 + 1) (e + 1 + 1 + 1) (if sb && sx.left then a.send sx.b else a) (if sb && !sx.left then b.send sx.b else b) s0 s1 g0 g1 x0 x1 y0 y1 k0 k1 j0 j1))
        case first =>
          as_aux_lemma =>
          by_cases hB : sx.b.length ≤ 2000
          · have hd : decide ((sx.b.length : Int) ≤ 2000) = true := decide_eq_true (by omega)
            have c3 : wc.cell? ⟨xb, 3, none⟩ = some (.slice sx.x sx.b.length sx.c) := h7.cell 3 rfl
            have h8 := Sat.re [8, 0, 1, 2, 3, 4, 5, 6, 7] [_, _, _, _, _, _, _, _, _] h7.drop
            have e0 : wc.cell? ⟨e, 0, none⟩ = some (.pointer (some ⟨ga, 0, none⟩)) := h8.cell 0 rfl
            have e1 : wc.cell? ⟨e, 1, none⟩ = some (.pointer (some ⟨gb, 0, none⟩)) := h8.cell 1 rfl
            rcases hme with ⟨hL, rfl⟩ | ⟨hL, rfl⟩
            rotate_left
            · go_region_held3 (fun w' => w'.cell? ⟨xb, 3, none⟩ = some (.slice sx.x sx.b.length sx.c) ∧ w'.cell? ⟨e, 0, none⟩ = some (.pointer (some ⟨ga, 0, none⟩)) ∧ w'.cell? ⟨e, 1, none⟩ = some (.pointer (some ⟨gb, 0, none⟩)))
                (first | exact ⟨c3, e0, e1⟩ | exact ⟨h9.drop.cell 3 rfl, (Sat.front [_, _, _, _, _, _, _, _, _] h9).cell 0 rfl, (Sat.front [_, _, _, _, _, _, _, _, _] h9).cell 1 rfl⟩)
                (first | (go_at_call 13; refine (stream_Send gb b _ sx.b (RdB.later hrd h7.drew) (Sat.front [_, _] h7.drew)).mono ?_; rintro _ w9 ⟨rfl, h9⟩))
              all_goals
                go_wp2_with fail
                go_meet
                refine ⟨b.sendB sx.b, rfl, fun h => ⟨hB, by rw [hL]; exact h⟩, ?_⟩
                have ea : (if (b.sendB sx.b && sx.left) = true then a.send sx.b else a) = a := by rw [hL]; simp
                have eb : (if (b.sendB sx.b && !sx.left) = true then b.send sx.b else b) = b.send sx.b := by
                  rw [hL]
                  cases hsb : b.sendB sx.b
                  · simp [OrdI.sendNo hsb]
                  · simp
                rw [ea, eb]
                unfold Pcs
                rw [send_told]
                exact Sat.re [1, 2, 0] [_, _, _] h9
            · go_region_held3 (fun w' => w'.cell? ⟨xb, 3, none⟩ = some (.slice sx.x sx.b.length sx.c) ∧ w'.cell? ⟨e, 0, none⟩ = some (.pointer (some ⟨ga, 0, none⟩)) ∧ w'.cell? ⟨e, 1, none⟩ = some (.pointer (some ⟨gb, 0, none⟩)))
                (first | exact ⟨c3, e0, e1⟩ | exact ⟨h9.drop.cell 3 rfl, (Sat.front [_, _, _, _, _, _, _, _, _] h9).cell 0 rfl, (Sat.front [_, _, _, _, _, _, _, _, _] h9).cell 1 rfl⟩)
                (first | (go_at_call 13; refine (stream_Send ga a _ sx.b (RdB.later hrd h7.drew) (Sat.front [_] h7.drew)).mono ?_; rintro _ w9 ⟨rfl, h9⟩))
              all_goals
                go_wp2_with fail
                go_meet
                refine ⟨a.sendB sx.b, rfl, fun h => ⟨hB, by rw [hL]; exact h⟩, ?_⟩
                have ea : (if (a.sendB sx.b && sx.left) = true then a.send sx.b else a) = a.send sx.b := by
                  rw [hL]
                  cases hsb : a.sendB sx.b
                  · simp [OrdI.sendNo hsb]
                  · simp
                have eb : (if (a.sendB sx.b && !sx.left) = true then b.send sx.b else b) = b := by rw [hL]; simp
                rw [ea, eb]
                unfold Pcs
                rw [send_told]
                exact Sat.re [1, 0] [_, _] h9
          · have hd : decide ((sx.b.length : Int) ≤ 2000) = false := decide_eq_false (by omega)
            have c3 : wc.cell? ⟨xb, 3, none⟩ = some (.slice sx.x sx.b.length sx.c) := h7.cell 3 rfl
            go_quiet (fail)
            go_wp2_with fail
            go_meet
            exact ⟨false, rfl, (fun h => nomatch h), h7.drewN _⟩
        obtain ⟨sb, rfl, hsb, h9⟩ := hcut
        clear h7
        have hls := hI.l0
        have hls1 := hI.l1
        go_upto_if 70 with fail
        go_cut [] (fun wx => ∃ (a' b' : StM) (s0' s1' : List UInt8) (x0' x1' : Option Addr) (k0' k1' : Nat), OrdI c (i + 1) a' b' s0' s1' g0 g1 ∧
          Sat w wx (Blk xb (.cells (sayC sx).toArray 46 (0, 0)) :: Pcs ga gb e (e + 1) (e + 1 + 1) (e + 1 + 1 + 1) a' b' s0' s1' g0 g1 x0' x1' y0 y1 k0' k1' j0 j1))
        case first =>
          as_aux_lemma =>
          cases sb
          · go_wp2_with fail
            go_meet
            exact ⟨a, b, s0, s1, x0, x1, k0, k1, hI.more, h9⟩
          · obtain ⟨hB, hsend⟩ := hsb rfl
            clear hsb
            have c3 : wc.cell? ⟨xb, 3, none⟩ = some (.slice sx.x sx.b.length sx.c) := h9.cell 3 rfl
            rcases hme with ⟨hL, rfl⟩ | ⟨hL, rfl⟩
            · simp only [hL, Bool.and_self, Bool.not_true, Bool.not_false, Bool.and_false, Bool.and_true, Bool.false_eq_true, if_true, if_false] at h9 hsend
              have hI2 := hI.send hsend hB
              have h10 := Sat.re [7, 6, 0, 1, 2, 3, 4, 5, 8] [_, _, _, _, _, _, _, _, _] h9
              have e0 : wc.cell? ⟨e + 1, 0, none⟩ = some (.slice x0 s0.length k0) := (Sat.swap h10).cell 0 rfl
              have f0 := (Sat.swap h10).frozen 0
              go_wp2_with fail
              go_region_law (first | (refine step_append_bytes (w0 := w) rfl _ _ rfl rfl h10.drew rfl (RdB.later hrd h9.drew) (by omega) ?_; intro r a' c' w' hr h11; have e0' : w'.cell? ⟨e + 1, 0, none⟩ = some (.slice x0 s0.length k0) := (Sat.swap h11).cell 0 rfl; have f0' := (Sat.swap h11).frozen 0))
              all_goals
                go_wp2_with fail
                go_meet
                have h12 := (Sat.swap h11).set 0 (.slice a' r.length c')
                simp only [List.setIfInBounds_toArray, List.set_cons_succ, List.set_cons_zero] at h12
                exact ⟨a.send sx.b, b, r, s1, a', x1, c', k1, by rw [hr.out]; exact hI2, Sat.re [2, 3, 4, 5, 6, 7, 0, 1] [_, _, _, _, _, _, _, _] h12⟩
            · simp only [hL, Bool.and_self, Bool.not_true, Bool.not_false, Bool.and_false, Bool.and_true, Bool.false_eq_true, if_true, if_false] at h9 hsend
              have hI2 := (hI.symm.send hsend hB).symm
              have h10 := Sat.re [8, 6, 0, 1, 2, 3, 4, 5, 7] [_, _, _, _, _, _, _, _, _] h9
              have e0 : wc.cell? ⟨e + 1, 1, none⟩ = some (.slice x1 s1.length k1) := (Sat.swap h10).cell 1 rfl
              have f0 := (Sat.swap h10).frozen 1
              go_wp2_with fail
              go_region_law (first | (refine step_append_bytes (w0 := w) rfl _ _ rfl rfl h10.drew rfl (RdB.later hrd h9.drew) (by omega) ?_; intro r a' c' w' hr h11; have e0' : w'.cell? ⟨e + 1, 1, none⟩ = some (.slice x1 s1.length k1) := (Sat.swap h11).cell 1 rfl; have f0' := (Sat.swap h11).frozen 1))
              all_goals
                go_wp2_with fail
                go_meet
                have h12 := (Sat.swap h11).set 1 (.slice a' r.length c')
                simp only [List.setIfInBounds_toArray, List.set_cons_succ, List.set_cons_zero] at h12
                exact ⟨a, b.send sx.b, s0, r, x0, a', k0, c', by rw [hr.out]; exact hI2, Sat.re [2, 3, 4, 5, 6, 7, 0, 8, 1] [_, _, _, _, _, _, _, _, _] h12⟩
        obtain ⟨a1, b1, s0', s1', x0', x1', k0', k1', hI2, h10⟩ := hcut
        clear h9 hsb hls hls1 hI hrd
        have c1 : wc.cell? ⟨xb, 1, none⟩ = some (.bool sx.ends) := h10.cell 1 rfl
        go_upto_if 80 with fail
        go_cut [] (fun wx => ∃ (a2 b2 : StM), OrdI c (i + 1) a2 b2 s0' s1' g0 g1 ∧ Sat w wx (Blk xb (.cells (sayC sx).toArray 46 (0, 0)) :: Pcs ga gb e (e + 1) (e + 1 + 1) (e + 1 + 1 + 1) a2 b2 s0' s1' g0 g1 x0' x1' y0 y1 k0' k1' j0 j1))
        case first =>
          as_aux_lemma =>
          cases hE : sx.ends
          · rw [hE] at c1
            go_wp2_with fail
            go_meet
            exact ⟨a1, b1, hI2, h10⟩
          · rw [hE] at c1
            have h11 := Sat.re [9, 0, 1, 2, 3, 4, 5, 6, 7, 8] [_, _, _, _, _, _, _, _, _, _] h10
            have e0 : wc.cell? ⟨e, 0, none⟩ = some (.pointer (some ⟨ga, 0, none⟩)) := h11.cell 0 rfl
            have e1 : wc.cell? ⟨e, 1, none⟩ = some (.pointer (some ⟨gb, 0, none⟩)) := h11.cell 1 rfl
            rcases hme with ⟨hL, rfl⟩ | ⟨hL, rfl⟩
            · go_wp2_with fail
              refine (stream_End ga a1 h10.swap).mono ?_
              rintro _ w9 ⟨rfl, h12⟩
              go_wp2_with fail
              go_meet
              refine ⟨a1.fin, b1, hI2.fin, ?_⟩
              unfold Pcs
              rw [fin_told]
              exact Sat.swap h12
            · go_wp2_with fail
              refine (stream_End gb b1 (Sat.front [_, _] h10)).mono ?_
              rintro _ w9 ⟨rfl, h12⟩
              go_wp2_with fail
              go_meet
              refine ⟨a1, b1.fin, hI2.symm.fin.symm, ?_⟩
              unfold Pcs
              rw [fin_told]
              exact Sat.re [1, 2, 0] [_, _, _] h12
        obtain ⟨a2, b2, hI3, h11⟩ := hcut
        clear h10 hI2
        have c2 : wc.cell? ⟨xb, 2, none⟩ = some (.bool sx.moves) := h11.cell 2 rfl
        cases hMv : sx.moves
        · have hiM : i < M := by
            by_cases h : i < M
            · exact h
            · rw [hmv (by omega)] at hMv; cases hMv
          rw [hMv] at c2
          go_wp2_with fail
          go_roundg (M + 2 - (i + 1))
          case measure => omega
          case rel => exact ⟨i + 1, a2, b2, s0', s1', g0, g1, x0', x1', y0, y1, k0', k1', j0, j1, by omega, by omega, by go_num, hI3, by omega, h11.drop⟩
        · rw [hMv] at c2
          go_wp2_with fail
          have h12 := h11.drop
          clear h11 c2
          go_loopg [88] 2 (fun g2 v88 wr2 => ∃ (k : Nat) (a b : StM) (g0 g1 : List UInt8) (y0 y1 : Option Addr) (j0 j1 : Nat), k ≤ 2 ∧ 2 - k ≤ g2 ∧ v88 = .int .i64 k ∧ OrdI c (i + 1) a b s0' s1' g0 g1 ∧ (1 ≤ k → 400 ≤ c → a.wait = []) ∧ (2 ≤ k → 400 ≤ c → b.wait = []) ∧
            Sat w wr2 (Pcs ga gb e (e + 1) (e + 1 + 1) (e + 1 + 1 + 1) a b s0' s1' g0 g1 x0' x1' y0 y1 k0' k1' j0 j1))
          case atStart => exact ⟨0, a2, b2, g0, g1, y0, y1, j0, j1, by omega, by omega, rfl, hI3, fun h => absurd h (by omega), fun h => absurd h (by omega), h12⟩
          case round =>
            obtain ⟨k, a3, b3, g0', g1', y0', y1', j0', j1', hk, hg2, rfl, hI4, hw0, hw1, h13⟩ := hrel
            clear h12 hI3
            have hok := (StA.ok h13).2.2.2.2
            have hok2 := (StA.ok h13.swap).2.2.2.2
            by_cases hk3 : k < 2
            · have hk01 : k = 0 ∨ k = 1 := by omega
              have hkb : (0 : Int) ≤ (k : Int) ∧ (k : Int) < 2 := by omega
              have hkb2 : (k : Int) < 2 := by omega
              obtain ⟨m, hm⟩ : ∃ m, 1 - k = m := ⟨_, rfl⟩
              have hmw : IntKind.i64.wrap (1 - (k : Int)) = (m : Int) := by rw [IntWalk.i64_in _ (by omega)]; omega
              have hmb : (0 : Int) ≤ (m : Int) ∧ (m : Int) < 2 := by omega
              have hmb2 : (m : Int) < 2 := by omega
              have HM2 := hid_ hm
              have HK := hid_ hk01
              have hwk : (sel k a3 b3).wait.length ≤ 65536 := by rcases hk01 with rfl | rfl <;> assumption
              clear hm hk01
              go_wp2_with fail
              go_loopg [91] 200 (fun g3 v91 wr3 => ∃ (j : Nat) (a b : StM) (g0 g1 : List UInt8) (y0 y1 : Option Addr) (j0 j1 : Nat), j ≤ 200 ∧ 200 - j ≤ g3 ∧ v91 = .int .i64 j ∧ OrdI c (i + 1) a b s0' s1' g0 g1 ∧ (sel k a b).wait.length ≤ 65536 - j * c ∧ (1 ≤ k → 400 ≤ c → a.wait = []) ∧
                Sat w wr3 (Pcs ga gb e (e + 1) (e + 1 + 1) (e + 1 + 1 + 1) a b s0' s1' g0 g1 x0' x1' y0 y1 k0' k1' j0 j1))
              case atStart => exact ⟨0, a3, b3, g0', g1', y0', y1', j0', j1', by omega, by omega, rfl, hI4, by omega, hw0, h13⟩
              case round =>
                obtain ⟨j, a4, b4, g2', g3', y2', y3', j2', j3', hj, hg3, rfl, hI5, hwl, hEX, h14⟩ := hrel
                clear h13 hI4 hok hok2 hw0 hw1 hwk
                by_cases hjl : j < 200
                · obtain ⟨e0, e1, cg, cs, co, fo, r1, r2⟩ := cellsK HK.out h14
                  rw [HM2.out] at e1
                  have i42 : i + 1 ≤ 42 := by omega
                  have l1 := r1.len
                  clear cs co fo r1 r2
                  go_wp2_with fail
                  go_region_held3 (fun w' => w'.cell? ⟨e, k, none⟩ = some (.pointer (some ⟨sel k ga gb, 0, none⟩)) ∧ w'.cell? ⟨e, m, none⟩ = some (.pointer (some ⟨sel k gb ga, 0, none⟩)))
                    (first | exact ⟨e0, e1⟩ | exact ⟨(cellsK HK.out h15).1, HM2.out ▸ (cellsK HK.out h15).2.1⟩)
                    (first | (go_at_call 20; refine (passK HK.out hI5 i42 h14.drew).mono ?_; rintro _ w9 ⟨E, a5, b5, g4, g5, y4, y5, j4, j5, rfl, HPK, h15⟩))
                  clear e0 e1 cg
                  have hE := HPK.e01
                  go_upto_region 29 with fail
                  go_cut [125] (fun v125 wx => v125 = .bool false ∧ wx = w9)
                  case first =>
                    as_aux_lemma =>
                    obtain ⟨_, _, cg, _, co, _, _, _⟩ := cellsK HK.out h15
                    rcases hE with rfl | rfl
                    · cases ho : sel k a4.told b4.told
                      · rw [ho] at co
                        go_wp2_with fail
                        go_meet
                        exact ⟨rfl, rfl⟩
                      · rw [ho] at co
                        have hsame := (HPK.was (by rcases HK.out with h | h <;> (subst h; exact ho))).2
                        have hgl : ¬ ((sel k g2' g3').length : Int) < ((sel k g4 g5).length : Int) := by omega
                        have hgl2 : decide (((sel k g2' g3').length : Int) < ((sel k g4 g5).length : Int)) = false := decide_eq_false hgl
                        clear hsame
                        go_wp2_with fail
                        go_meet
                        exact ⟨rfl, rfl⟩
                    · have ho : sel k a4.told b4.told = false := by
                        have := (HPK.one rfl).1
                        rcases HK.out with h | h <;> (subst h; exact this)
                      rw [ho] at co
                      go_wp2_with fail
                      go_meet
                      exact ⟨rfl, rfl⟩
                  obtain ⟨rfl, rfl⟩ := hcut
                  go_upto_if 127 with fail
                  go_cut [] (fun wx => Sat w wx (Pcs ga gb e (e + 1) (e + 1 + 1) (e + 1 + 1 + 1) a5 b5 s0' s1' g4 g5 x0' x1' y4 y5 k0' k1' j4 j5))
                  case first =>
                    as_aux_lemma =>
                    rcases hE with rfl | rfl
                    · obtain ⟨t1, t2⟩ := HPK.zero rfl
                      go_wp2_with fail
                      go_meet
                      unfold Pcs
                      rw [t1, t2]
                      exact h15
                    · obtain ⟨_, t1, t2, t3⟩ := HPK.one rfl
                      obtain ⟨_, _, _, _, co, fo, _, _⟩ := cellsK HK.out h15
                      have h16 := setK HK.out h15
                      go_upto_region 33 with fail
                      have HP : Sat w (wc.setCell ⟨e + 1 + 1 + 1, k, none⟩ (.bool true)) (Pcs ga gb e (e + 1) (e + 1 + 1) (e + 1 + 1 + 1) a5 b5 s0' s1' g4 g5 x0' x1' y4 y5 k0' k1' j4 j5) := by
                        unfold Pcs
                        rcases HK.out with h | h
                        · subst h
                          rw [show a5.told = true from t1, show b5.told = b4.told from t2]
                          exact h16
                        · subst h
                          rw [show b5.told = true from t1, show a5.told = a4.told from t2]
                          exact h16
                      clear h15 h16 co fo t1 t2
                      generalize wc.setCell ⟨e + 1 + 1 + 1, k, none⟩ (.bool true) = w10 at *
                      obtain ⟨_, _, cg, cs, _, _, r1, r2⟩ := cellsK HK.out HP
                      have v1 : ∀ n, (convert 22 9 (.slice (sel k y4 y5) (sel k g4 g5).length (sel k j4 j5))).run Try.prog (w10.drewN n) = .ok (.string (strOf (sel k s0' s1'))) (w10.drewN n) := fun n => by
                        rw [← t3]
                        exact conv_rd (P := Try.prog) (dst := 9) Try.underlying22 Try.underlying5 Try.underlying9 (cellsK HK.out (HP.drewN n)).2.2.2.2.2.2.1
                      have v2 : ∀ n, (convert 22 9 (.slice (sel k x0' x1') (sel k s0' s1').length (sel k k0' k1'))).run Try.prog (w10.drewN n) = .ok (.string (strOf (sel k s0' s1'))) (w10.drewN n) := fun n => conv_rd (P := Try.prog) (dst := 9) Try.underlying22 Try.underlying5 Try.underlying9 (cellsK HK.out (HP.drewN n)).2.2.2.2.2.2.2
                      clear t3 r1 r2
                      go_quiet (fail)
                      go_wp2_with fail
                      go_meet
                      exact HP.drewN _
                  clear h15 hE
                  have hI6 := HPK.ord
                  have HPW := hid_ (And.intro HPK.wait HPK.other)
                  clear HPK
                  have hle : (sel k g4 g5).length ≤ (sel k s0' s1').length ∧ (sel k s0' s1').take (sel k g4 g5).length = sel k g4 g5 := by
                    rcases HK.out with h | h
                    · subst h; exact hI6.le
                    · subst h; exact hI6.symm.le
                  have v1 : ∀ n, (convert 22 9 (.slice (sel k y4 y5) (sel k g4 g5).length (sel k j4 j5))).run Try.prog (wc.drewN n) = .ok (.string (strOf (sel k g4 g5))) (wc.drewN n) := fun n => conv_rd (P := Try.prog) (dst := 9) Try.underlying22 Try.underlying5 Try.underlying9 (cellsK HK.out (Sat.drewN hcut n)).2.2.2.2.2.2.1
                  have v2 : ∀ n, (convert 22 9 (.slice (sel k x0' x1') (sel k g4 g5).length (sel k k0' k1'))).run Try.prog (wc.drewN n) = .ok (.string (strOf (sel k g4 g5))) (wc.drewN n) := fun n => by
                    have h := conv_rd (P := Try.prog) (dst := 9) Try.underlying22 Try.underlying5 Try.underlying9 (RdB.pre (cellsK HK.out (Sat.drewN hcut n)).2.2.2.2.2.2.2 hle.1)
                    rw [hle.2] at h
                    exact h
                  obtain ⟨e0, _, cg, cs, _, _, _, r2⟩ := cellsK HK.out hcut
                  have hkk : (sel k g4 g5).length ≤ sel k k0' k1' := by
                    obtain ⟨_, _, he, hj, _, _⟩ := r2.form
                    injection he with _ _ he
                    have := hle.1
                    omega
                  have hgs : ¬ ((sel k s0' s1').length : Int) < ((sel k g4 g5).length : Int) := by have := hle.1; omega
                  have hgs2 : decide (((sel k s0' s1').length : Int) < ((sel k g4 g5).length : Int)) = false := decide_eq_false hgs
                  have hle1 := hle.1
                  clear hle r2
                  go_wp2_with fail
                  go_quiet (fail)
                  go_wp2_with fail
                  refine (waitsK HK.out (Sat.drewN hcut _)).mono ?_
                  rintro _ _ ⟨rfl, rfl⟩
                  obtain ⟨Z, hZ⟩ : ∃ Z, (sel k a5 b5).wait.length = Z := ⟨_, rfl⟩
                  have hZw : Z ≤ 65536 - (j + 1) * c := by
                    rw [← hZ, HPW.out.1, List.length_drop, Nat.add_mul]
                    omega
                  have hoth : 1 ≤ k → 400 ≤ c → a5.wait = [] := fun h1 h2 => by
                    have h := HPW.out.2
                    rcases HK.out with h3 | h3
                    · omega
                    · subst h3
                      rw [show a5.wait = a4.wait from h]
                      exact hEX h1 h2
                  have HZ := hid_ hZ
                  rw [hZ]
                  clear hZ
                  as_aux_lemma =>
                  by_cases hw : Z = 0
                  · have hw1 : (((Z : Nat) : Int) == 0) = true := by rw [hw]; rfl
                    have hnil : (sel k a5 b5).wait = [] := List.eq_nil_of_length_eq_zero (by rw [HZ.out]; exact hw)
                    clear hw
                    go_wp2_with fail
                    go_roundg (2 - (k + 1))
                    case measure => omega
                    case rel =>
                      refine ⟨k + 1, a5, b5, g4, g5, y4, y5, j4, j5, by omega, by omega, by go_num, hI6, ?_, ?_, Sat.drewN hcut _⟩
                      · intro _ h
                        rcases HK.out with h3 | h3
                        · subst h3; exact hnil
                        · exact hoth (by omega) h
                      · intro h2 h
                        rcases HK.out with h3 | h3
                        · omega
                        · subst h3; exact hnil
                  · have hw1 : (((Z : Nat) : Int) == 0) = false := by simp [hw]
                    go_wp2_with fail
                    go_roundg (200 - (j + 1))
                    case measure => omega
                    case rel => exact ⟨j + 1, a5, b5, g4, g5, y4, y5, j4, j5, by omega, by omega, by go_num, hI6, by rw [HZ.out]; exact hZw, hoth, Sat.drewN hcut _⟩
                · obtain rfl : j = 200 := by omega
                  have hw200 : 400 ≤ c → (sel k a4 b4).wait = [] := fun h => List.eq_nil_of_length_eq_zero (by omega)
                  go_wp2_with fail
                  go_roundg (2 - (k + 1))
                  case measure => omega
                  case rel =>
                    refine ⟨k + 1, a4, b4, g2', g3', y2', y3', j2', j3', by omega, by omega, by go_num, hI5, ?_, ?_, h14⟩
                    · intro _ h
                      rcases HK.out with h3 | h3
                      · subst h3; exact hw200 h
                      · exact hEX (by omega) h
                    · intro h2 h
                      rcases HK.out with h3 | h3
                      · omega
                      · subst h3; exact hw200 h
            · obtain rfl : k = 2 := by omega
              go_wp2_with fail
              go_roundg (M + 2 - (i + 1))
              case measure => omega
              case rel => exact ⟨i + 1, a3, b3, s0', s1', g0', g1', x0', x1', y0', y1', k0', k1', j0', j1', by omega, by omega, by go_num, hI4, fun _ h => ⟨hw0 (by omega) h, hw1 (by omega) h⟩, h13⟩
    · obtain rfl : i = M + 2 := by omega
      have co0 : wr.cell? ⟨e + 1 + 1 + 1, 0, none⟩ = some (.bool a.told) := (Sat.front [_, _, _, _, _, _, _, _, _] h5).cell 0 rfl
      have co1 : wr.cell? ⟨e + 1 + 1 + 1, 1, none⟩ = some (.bool b.told) := (Sat.front [_, _, _, _, _, _, _, _, _] h5).cell 1 rfl
      have hda : Hid (a.done = (a.told && b.told)) := hid_ (by unfold StM.done; rw [hI.pr.scut, hI.pr.sover, Bool.false_or])
      have hdb : Hid (b.done = (a.told && b.told)) := hid_ (by unfold StM.done; rw [hI.pr.tcut, hI.pr.tover, Bool.false_or, Bool.and_comm])
      obtain ⟨D, hD⟩ : ∃ D, (a.told && b.told) = D := ⟨_, rfl⟩
      rw [hD] at hda hdb
      by_cases h400 : c < 400
      · as_aux_lemma =>
        have h400i : (c : Int) < 400 := by omega
        have h400b : decide ((c : Int) < 400) = true := decide_eq_true h400i
        cases ta : a.told
        all_goals cases tb : b.told
        all_goals
          rw [ta] at co0
          rw [tb] at co1
          rw [ta, tb] at hD
          subst hD
          go_wp2_with fail
          refine (stream_DoneV (g := ga) hda h5).mono ?_
          rintro _ _ ⟨rfl, rfl⟩
          go_wp2_with fail
          refine (stream_DoneV (g := gb) hdb (Sat.swap h5)).mono ?_
          rintro _ _ ⟨rfl, rfl⟩
          go_wp2_with fail
          refine (stream_awake h5).mono ?_
          rintro _ w9 ⟨rfl, h9⟩
          go_wp2_with fail
          go_ret
          exact ⟨rfl, h9.below⟩
      · as_aux_lemma =>
        obtain ⟨ha, hb⟩ := hend rfl (by omega)
        have ea := hI.d0
        have eb := hI.d1
        rw [ha, List.append_nil] at ea
        rw [hb, List.append_nil] at eb
        subst ea
        subst eb
        have h400i : ¬ (c : Int) < 400 := by omega
        have h400b : decide ((c : Int) < 400) = false := decide_eq_false h400i
        have cg0 : wr.cell? ⟨e + 1 + 1, 0, none⟩ = some (.slice y0 s0.length j0) := (Sat.front [_, _] h5).cell 0 rfl
        have cg1 : wr.cell? ⟨e + 1 + 1, 1, none⟩ = some (.slice y1 s1.length j1) := (Sat.front [_, _] h5).cell 1 rfl
        have cs0 : wr.cell? ⟨e + 1, 0, none⟩ = some (.slice x0 s0.length k0) := (Sat.front [_, _, _, _, _] h5).cell 0 rfl
        have cs1 : wr.cell? ⟨e + 1, 1, none⟩ = some (.slice x1 s1.length k1) := (Sat.front [_, _, _, _, _] h5).cell 1 rfl
        have v0 := conv_rd (P := Try.prog) (dst := 9) Try.underlying22 Try.underlying5 Try.underlying9 (OwnB.rd (Sat.front [_, _, _] h5))
        have v1 := conv_rd (P := Try.prog) (dst := 9) Try.underlying22 Try.underlying5 Try.underlying9 (OwnB.rd (Sat.front [_, _, _, _] h5))
        have v2 := conv_rd (P := Try.prog) (dst := 9) Try.underlying22 Try.underlying5 Try.underlying9 (OwnB.rd (Sat.front [_, _, _, _, _, _] h5))
        have v3 := conv_rd (P := Try.prog) (dst := 9) Try.underlying22 Try.underlying5 Try.underlying9 (OwnB.rd (Sat.front [_, _, _, _, _, _, _] h5))
        cases ta : a.told
        all_goals cases tb : b.told
        all_goals
          rw [ta] at co0
          rw [tb] at co1
          rw [ta, tb] at hD
          subst hD
          go_wp2_with fail
          refine (stream_DoneV (g := ga) hda h5).mono ?_
          rintro _ _ ⟨rfl, rfl⟩
          go_wp2_with fail
          refine (stream_DoneV (g := gb) hdb (Sat.swap h5)).mono ?_
          rintro _ _ ⟨rfl, rfl⟩
          go_wp2_with fail
          refine (stream_awake h5).mono ?_
          rintro _ w9 ⟨rfl, h9⟩
          go_wp2_with fail
          go_ret
          exact ⟨rfl, h9.below⟩
end
end Go.Proofs.Ytinlemeogdnanaa
