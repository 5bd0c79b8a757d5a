/- The law RingOwn, walked. -/
import Derived.Deep.RegionLaw
import Derived.Test.YtahnjbbjfjlpoaaTeP
import Derived.Test.YtahnjbbjfjlpoaaTeR
namespace Go.Proofs.Ytahnjbbjfjlpoaa
open Go Go.RowKit Go.Shelf
set_option linter.unusedVariables false
set_option linter.unusedSimpArgs false
section
variable {w0 w : World} {L : List Assn}
/-- The tenant of the law's arguments, and the ring's answer, stand in boxes. -/
theorem St.cell4 {M : Nat} {X Z : World} (hs : St M X Z) {b : Nat} {c0 c1 c2 c3 : Value} (h : X.heap[b]? = some (.cells #[c0, c1, c2, c3] 28 (0, 0))) :
    Z.cell? ⟨b, 0, none⟩ = some c0 ∧ Z.cell? ⟨b, 1, none⟩ = some c1 ∧ Z.cell? ⟨b, 2, none⟩ = some c2 ∧ Z.cell? ⟨b, 3, none⟩ = some c3 :=
  have h' := hs.ten _ _ h
  ⟨cell_at h' 0, cell_at h' 1, cell_at h' 2, cell_at h' 3⟩
theorem St.row {M : Nat} {X Z : World} (hs : St M X Z) {a : Option Addr} {cap n : Nat} {vs : List TenV} (ho : Sat w0 X (OwnS 28 4 (.slice a n cap) n (flatT vs) :: L)) (hn : vs.length = n) : RowT Z a cap vs := by
  have h := OwnS.rowT ho hn
  refine ⟨h.le, h.nil, h.cap, fun i v hi => ?_⟩
  obtain ⟨b, off, he, hb, hc⟩ := h.at_ i v hi
  refine ⟨b, off, he, Nat.lt_of_lt_of_le hb hs.below.size, fun j u hj => ?_⟩
  have hX := hc j u hj
  rcases OwnS.cases ho with ⟨he2, _⟩ | ⟨g, o, c', cur, he2, _, _, _, _, hS⟩
  · rw [he] at he2
    injection he2 with e1
    cases e1
  · rw [he] at he2
    injection he2 with e1 _ _
    injection e1 with e1
    injection e1 with e1 e2 _
    subst e1 e2
    rw [cell_at hS.blk.1] at hX
    rw [cell_at (hs.ten _ _ hS.blk.1)]
    exact hX
set_option maxRecDepth 100000 in
set_option maxHeartbeats 16000000 in
theorem ring_own_law (v u : Value) (w : World) (hv : IsTens w v) (hu : IsInt w u) : Calls Try.prog 5 #[v, u] w fun e w' => e = .returned (.bool true) ∧ Below w.heap.size w w' := by
  obtain ⟨la, cap, vs, rfl, hr, hvs⟩ := hv
  obtain ⟨tw, rfl, _⟩ := hu
  have hL := ring_Light la cap vs hr hvs
  have hcap := hr.cap
  have hle := hr.le
  unfold maxLen at hcap
  have hAw : ∀ (W : World), Below w.heap.size w W → Calls Try.prog 8 #[] W fun e w' => e = .returned (.bool true) ∧ Below w.heap.size w w' := fun W hb => (ring_awake (L := []) (w0 := w) ⟨hb, trivial⟩).mono (by rintro _ w' ⟨rfl, h⟩; exact ⟨rfl, h.below⟩)
  obtain ⟨n, hn⟩ : ∃ n, vs.length = n := ⟨_, rfl⟩
  have HN := hid_ hn
  rw [hn] at hL hle ⊢
  by_cases hz : n = 0
  · have q2 : ((n : Int) == 0) = true := by simp [hz]
    clear hn hz
    go_enter Try.func5, Try.ntmps5
    go_wp2_with fail
    refine hL.mono ?_
    rintro _ w1 ⟨k, rfl, hk, hb1⟩
    rcases hk with ⟨rfl, _⟩ | hk
    · go_wp2_with fail
      refine (hAw _ hb1).mono ?_
      rintro _ w2 ⟨rfl, hb2⟩
      go_wp2_with fail
      go_ret
      exact ⟨rfl, hb2⟩
    · have q1 : decide (0 < k) = true := by simp; omega
      go_wp2_with fail
      refine (hAw _ hb1).mono ?_
      rintro _ w2 ⟨rfl, hb2⟩
      go_wp2_with fail
      go_ret
      exact ⟨rfl, hb2⟩
  have q2 : ((n : Int) == 0) = false := by simp; omega
  go_enter Try.func5, Try.ntmps5
  go_wp2_with fail
  refine hL.mono ?_
  rintro _ w1 ⟨k0, rfl, hk0, hb1⟩
  rcases hk0 with ⟨rfl, hn20⟩ | hk0
  case inr =>
    have q1 : decide (0 < k0) = true := by simp; omega
    go_wp2_with fail
    refine (hAw _ hb1).mono ?_
    rintro _ w2 ⟨rfl, hb2⟩
    go_wp2_with fail
    go_ret
    exact ⟨rfl, hb2⟩
  obtain ⟨b, off, rfl, hbl, _⟩ : ∃ b off, la = some ⟨b, off, none⟩ ∧ b < w.heap.size ∧ True := by
    obtain ⟨b, off, h1, h2, _⟩ := hr.at_ 0 vs[0] (List.getElem?_eq_getElem (by omega))
    exact ⟨b, off, h1, h2, trivial⟩
  have E1 : IntKind.u64.wrap (n : Int) = (n : Int) := by rw [IntKind.wrap_u64]; omega
  have hbd := um_bd tw (m := (n : Int)) (by omega) (by omega)
  obtain ⟨k, hk⟩ := Int.eq_ofNat_of_zero_le hbd.1
  rw [hk] at hbd
  have hkn : k < n := by omega
  have z1 : ((n : Int) == 0) = false := q2
  have z2 : 0 ≤ (k : Int) ∧ (k : Int) < (n : Int) := by omega
  have hN1 := ring_New (some ⟨b, off, none⟩) cap vs (hr.mono hb1) (fun u hu => (hvs u hu).mono hb1)
  rw [hn] at hN1
  clear hz hL hn hbd
  go_wp2_with fail
  refine hN1.mono ?_
  rintro _ w2 ⟨hb2, hres⟩
  have hB2 : Below w.heap.size w w2 := hb1.trans (hb2.mono hb1.size)
  by_cases hok : okT (vs.map (·.t))
  case neg =>
    obtain rfl : _ = Ending.returned (.tuple #[.pointer none, .int .i64 1]) := by
      rcases hres with ⟨_, h⟩ | ⟨h, _⟩
      · exact h
      · exact absurd h hok
    clear hres hok
    go_wp2_with fail
    refine (hAw _ hB2).mono ?_
    rintro _ w4 ⟨rfl, hb4⟩
    go_wp2_with fail
    go_ret
    exact ⟨rfl, hb4⟩
  obtain ⟨r1, us, hring, hus1, hpw1, he1⟩ : ∃ (r : Nat) (us : List TenM), RdRing w2 r us ∧ us.Perm (vs.map (·.t)) ∧ us.Pairwise (fun x y => x.id < y.id) ∧ _ = Ending.returned (.tuple #[.pointer (some ⟨r, 0, none⟩), .int .i64 0]) := by
    rcases hres with ⟨h, _⟩ | ⟨_, r, us, h1, h2, h3, h4, h5⟩
    · exact absurd hok h
    · exact ⟨r, us, h3, h4, h5, h2⟩
  subst he1
  obtain ⟨v, hvk⟩ : ∃ v, vs[k]? = some v := ⟨_, List.getElem?_eq_getElem (by rw [HN.out]; exact hkn)⟩
  have hmem : v ∈ vs := List.mem_of_getElem? hvk
  obtain ⟨c0, c1, c2, c3⟩ : (w2.cell? ⟨b, off + k * 4, none⟩ = some (.int .i64 v.t.id) ∧ w2.cell? ⟨b, off + k * 4 + 1, none⟩ = some (.slice v.kx v.t.key.length v.kc) ∧ w2.cell? ⟨b, off + k * 4 + 2, none⟩ = some (.int .i64 v.t.streams) ∧ w2.cell? ⟨b, off + k * 4 + 3, none⟩ = some (.slice v.rx v.t.rules.length v.rc)) := by
    obtain ⟨b', o', he, _, hc⟩ := (hr.mono hB2).at_ k v hvk
    injection he with he
    injection he with e1 e2 _
    subst e1 e2
    exact ⟨hc 0 _ rfl, hc 1 _ rfl, hc 2 _ rfl, hc 3 _ rfl⟩
  have hmay : ∀ t ∈ us, t.may = true := fun t ht => hok.2.1 t (hus1.mem_iff.1 ht)
  have htu : v.t ∈ us := hus1.mem_iff.2 (List.mem_map_of_mem hmem)
  have hul : us.length ≤ 20 := by rw [hus1.length_eq, List.length_map, HN.out]; omega
  have hGet := fun (W : World) (hb : Below w2.heap.size w2 W) => get_have (w := W) r1 us hmay hpw1 v.t htu (hring.mono hb)
  have hAll := fun (W : World) (hb : Below w2.heap.size w2 W) => all_ring (w := W) r1 us hmay (by omega) 100 (by omega) (hring.mono hb)
  rw [List.take_of_length_le (by omega)] at hAll
  have hvr : ∀ W, Below w2.heap.size w2 W → v.rd W := fun W hb => (hvs v hmem).mono (hB2.trans (hb.mono hB2.size))
  have hFin : ∀ W, Below w2.heap.size w2 W → Below w.heap.size w W := fun W hb => hB2.trans (hb.mono hB2.size)
  have h3 := (Sat.refl w2).alloc (.cells #[.int .i64 v.t.id, .slice v.kx v.t.key.length v.kc, .int .i64 v.t.streams, .slice v.rx v.t.rules.length v.rc] 28 (0, 0))
  have hG1 := hGet _ h3.below
  have HMAY := hid_ hmay
  have HUS := hid_ hus1
  clear hres hok hus1 hpw1 hring hmay htu hmem hvk hvs hr hb1 hb2 hN1 hbl
  go_wp2_with fail
  refine hG1.mono ?_
  rintro _ w3 ⟨kx, kc, rx, rc, rfl, hb3, hin⟩
  have h4 := h3.under hb3
  have hinM := hin.anti (N' := w2.heap.size) (by rw [World.size_alloc]; omega)
  have hkb := hinM.key.b8
  have hrb := hinM.rules.sr
  have hmx : kc ≤ maxLen ∧ v.t.key.length ≤ kc := by
    obtain ⟨_, _, he, h7, h8, _⟩ := hin.key
    injection he with _ _ e3
    subst e3
    exact ⟨h8, h7⟩
  have hrx : rc ≤ maxLen ∧ v.t.rules.length ≤ rc := ⟨hin.rules.cap, hin.rules.le⟩
  unfold maxLen at hmx hrx
  have h5 := h4.alloc (.cells #[.int .i64 v.t.id, .slice kx v.t.key.length kc, .int .i64 v.t.streams, .slice rx v.t.rules.length rc] 28 (0, 0))
  obtain ⟨M, hM⟩ : ∃ M, w2.heap.size = M := ⟨_, rfl⟩
  obtain ⟨wx, hwx⟩ : ∃ wx, w3.alloc (.cells #[.int .i64 v.t.id, .slice kx v.t.key.length kc, .int .i64 v.t.streams, .slice rx v.t.rules.length rc] 28 (0, 0)) = wx := ⟨_, rfl⟩
  have hst3 : St M w3 wx := by rw [← hwx]; exact St.ofBelow (by rw [← hM]; exact h4.below.size) ((Below.refl _ w3).alloc (Nat.le_refl _) _)
  rw [hwx] at h5
  have hxb := h5.blk.1
  have htb := h5.drop.blk.1
  have hBx := h5.below
  rw [hM] at hkb hrb hBx
  have hkx := hkb.st hst3
  have hrx2 := hrb.st hst3
  rw [hM] at hGet hAll hvr hFin
  have hMx : M ≤ wx.heap.size := by rw [← hM]; exact hBx.size
  have HM := hid_ hM
  clear hG1 hin hinM hkb hrb h3 h4 hst3 c0 c1 c2 c3 z1 z2 hM hk
  have x0 : wx.cell? ⟨w3.heap.size, 1, none⟩ = some (.slice kx v.t.key.length kc) := cell_at hxb 1
  go_wp2_with fail
  go_loopg [10, 65] v.t.key.length (fun gg _ v65 wr => ∃ i : Nat, i ≤ v.t.key.length ∧ v.t.key.length - i ≤ gg ∧ v65 = .int .i64 i ∧ St M wx wr)
  case atStart => exact ⟨0, Nat.zero_le _, by omega, rfl, by first | exact St.refl _ _ | (rw [← hwx]; exact St.refl _ _)⟩
  case round =>
    obtain ⟨i, hi, hgg, rfl, hst⟩ := hrel
    clear hwx x0
    by_cases hlt : i < v.t.key.length
    · obtain ⟨kb, ko, cs, rfl, hMk, hkc, hcell⟩ := (hkx.st hst) (by omega)
      obtain ⟨z, hz⟩ := hcell i hlt
      have c0 : wr.cell? ⟨kb, ko + i, none⟩ = some (.int .u8 z) := (cell_at hkc _).trans hz
      have f0 : wr.frozen? ⟨kb, ko + i, none⟩ = false := frozen_at hkc _
      obtain ⟨_, x1, _, _⟩ := hst.cell4 hxb
      have z1 : 0 ≤ (i : Int) ∧ (i : Int) < (v.t.key.length : Int) := by omega
      clear hcell hz
      go_wp2_with fail
      go_roundg (v.t.key.length - (i + 1))
      case measure => omega
      case rel => exact ⟨i + 1, by omega, by omega, by go_num, hst.trans (St.setU hkc hMk _)⟩
    obtain rfl : i = v.t.key.length := by omega
    obtain ⟨_, _, _, x3⟩ := hst.cell4 hxb
    go_wp2_with fail
    go_loopg [11, 12, 79] v.t.rules.length (fun gg _ _ v79 wr => ∃ i : Nat, i ≤ v.t.rules.length ∧ v.t.rules.length - i ≤ gg ∧ v79 = .int .i64 i ∧ St M wx wr)
    case atStart => exact ⟨0, Nat.zero_le _, by omega, rfl, hst⟩
    case round =>
      obtain ⟨i, hi2, hgg2, rfl, hst2⟩ := hrel
      clear hst x3
      by_cases hlt : i < v.t.rules.length
      · obtain ⟨rb, ro, cs, xn, mm, cn, rfl, hMr, hrc, hsz, hsl, hB, hmm, hk⟩ := (hrx2.st hst2) i hlt
        have c0 : wr.cell? ⟨rb, ro + i * 7 + 2, none⟩ = some (.slice xn mm cn) := (cell_at hrc _).trans hsl
        obtain ⟨_, _, _, x3⟩ := hst2.cell4 hxb
        have z1 : 0 ≤ (i : Int) ∧ (i : Int) < (v.t.rules.length : Int) := by omega
        unfold maxLen at hmm
        go_wp2_with fail
        obtain ⟨w1, rfl⟩ : ∃ w1, w1 = wr := ⟨wr, rfl⟩
        go_loopg [12, 89] mm (fun gg _ v89 wr => ∃ j : Nat, j ≤ mm ∧ mm - j ≤ gg ∧ v89 = .int .i64 j ∧ St M w1 wr ∧ wr.heap[rb]? = some (.cells cs 46 (0, 0)))
        case atStart => exact ⟨0, Nat.zero_le _, by omega, rfl, St.refl _ _, hrc⟩
        case round =>
          obtain ⟨j, hj, hgg3, rfl, hst4, hrc2⟩ := hrel
          clear c0 x3
          obtain ⟨_, _, _, x3⟩ := (hst2.trans hst4).cell4 hxb
          have c0 : wr.cell? ⟨rb, ro + i * 7 + 2, none⟩ = some (.slice xn mm cn) := (cell_at hrc2 _).trans hsl
          by_cases hjl : j < mm
          · obtain ⟨nb, no, ncs, rfl, hMn, hnc, hcell⟩ := (hB.st hst4) (by omega)
            obtain ⟨z, hz⟩ := hcell j hjl
            have d0 : wr.cell? ⟨nb, no + j, none⟩ = some (.int .u8 z) := (cell_at hnc _).trans hz
            have f0 : wr.frozen? ⟨nb, no + j, none⟩ = false := frozen_at hnc _
            have z2 : 0 ≤ (j : Int) ∧ (j : Int) < (mm : Int) := by omega
            clear hcell hz
            go_wp2_with fail
            go_roundg (mm - (j + 1))
            case measure => omega
            case rel => exact ⟨j + 1, by omega, by omega, by go_num, hst4.trans (St.setU hnc hMn _), by rw [heap_setCell_other _ (other_block hnc hrc2 (by decide))]; exact hrc2⟩
          obtain rfl : j = mm := by omega
          have f0 : wr.frozen? ⟨rb, ro + i * 7, none⟩ = false := frozen_at hrc2 _
          have f1 : wr.frozen? ⟨rb, ro + i * 7 + 1, none⟩ = false := frozen_at hrc2 _
          have f2 : wr.frozen? ⟨rb, ro + i * 7 + 2, none⟩ = false := frozen_at hrc2 _
          have f3 : wr.frozen? ⟨rb, ro + i * 7 + 3, none⟩ = false := frozen_at hrc2 _
          have f4 : wr.frozen? ⟨rb, ro + i * 7 + 4, none⟩ = false := frozen_at hrc2 _
          have f5 : wr.frozen? ⟨rb, ro + i * 7 + 5, none⟩ = false := frozen_at hrc2 _
          have f6 : wr.frozen? ⟨rb, ro + i * 7 + 6, none⟩ = false := frozen_at hrc2 _
          have hcs : ∀ j, j < 7 → ∃ y, wr.cell? ⟨rb, ro + i * 7 + j, none⟩ = some y := fun j hj => ⟨cs[ro + i * 7 + j]'(by omega), (cell_at hrc2 _).trans (Array.getElem?_eq_getElem (by omega))⟩
          obtain ⟨y0, g0⟩ := hcs 0 (by decide)
          obtain ⟨y1, g1⟩ := hcs 1 (by decide)
          obtain ⟨y3, g3⟩ := hcs 3 (by decide)
          obtain ⟨y4, g4⟩ := hcs 4 (by decide)
          obtain ⟨y5, g5⟩ := hcs 5 (by decide)
          obtain ⟨y6, g6⟩ := hcs 6 (by decide)
          rw [Nat.add_zero] at g0
          have hSRn := hrx2.st (hst2.trans hst4)
          clear hk hcs hsl hB
          go_wp2_with fail
          go_roundg (v.t.rules.length - (i + 1))
          case measure => omega
          case rel => exact ⟨i + 1, by omega, by omega, by go_num, (hst2.trans hst4).trans (St.rule hSRn hlt rfl (fun x m c => ⟨nofun, nofun, nofun, nofun, nofun, nofun⟩))⟩
      obtain rfl : i = v.t.rules.length := by omega
      have hA := hAll _ (hBx.trans hst2.below)
      clear hAll hkx hrx2 hmx hrx
      go_wp2_with fail
      refine hA.mono ?_
      rintro _ w5 ⟨ya, yc, ys, rfl, hb5, hrow5, hm5, hi5⟩
      obtain ⟨N, hN⟩ : ∃ N, ys.length = N := ⟨_, rfl⟩
      have hst5 := hst2.trans (St.ofBelow (Nat.le_trans hMx hst2.below.size) hb5)
      have hyk : ∀ y ∈ ys, B8 M w5 y.kx y.t.key.length ∧ y.t.key.length ≤ maxLen := fun y hy => ⟨((hi5 y hy).key.anti (Nat.le_trans hMx hst2.below.size)).b8, by obtain ⟨_, _, _, h7, h8, _⟩ := (hi5 y hy).key; omega⟩
      have hO5 := OwnS.ofRow hb5 hrow5
      rw [hN] at hO5 ⊢
      have hrow6 := fun (W : World) (hs : St M w5 W) => hs.row hO5 hN
      have hyc := OwnS.form hO5
      have hN20 : N ≤ 20 := by rw [← hN, ← List.length_map (f := fun v : TenV => v.t), hm5]; exact hul
      have hNN := hid_ hN
      clear hA hst2 hb5 hrow5 hm5 hi5 hO5 hN hyc
      go_wp2_with fail
      go_loopg [14, 15, 113] N (fun gg _ _ v113 wr => ∃ i : Nat, i ≤ N ∧ N - i ≤ gg ∧ v113 = .int .i64 i ∧ St M w5 wr)
      case atStart => exact ⟨0, Nat.zero_le _, by omega, rfl, St.refl _ _⟩
      case round =>
        obtain ⟨i, hi3, hgg3, rfl, hst6⟩ := hrel
        by_cases hlt : i < N
        · obtain ⟨y, hy⟩ : ∃ y, ys[i]? = some y := ⟨_, List.getElem?_eq_getElem (by rw [hNN.out]; exact hlt)⟩
          obtain ⟨hyb, hyl⟩ := hyk y (List.mem_of_getElem? hy)
          obtain ⟨yb, yo, rfl, _, hc⟩ := (hrow6 _ hst6).at_ i y hy
          have c0 : wr.cell? ⟨yb, yo + i * 4, none⟩ = some (.int .i64 y.t.id) := hc 0 _ rfl
          have c1 : wr.cell? ⟨yb, yo + i * 4 + 1, none⟩ = some (.slice y.kx y.t.key.length y.kc) := hc 1 _ rfl
          have c2 : wr.cell? ⟨yb, yo + i * 4 + 2, none⟩ = some (.int .i64 y.t.streams) := hc 2 _ rfl
          have c3 : wr.cell? ⟨yb, yo + i * 4 + 3, none⟩ = some (.slice y.rx y.t.rules.length y.rc) := hc 3 _ rfl
          obtain ⟨w1, rfl⟩ : ∃ w1, w1 = wr := ⟨wr, rfl⟩
          obtain ⟨wb, hwb⟩ : ∃ wb, w1.alloc (.cells #[.int .i64 y.t.id, .slice y.kx y.t.key.length y.kc, .int .i64 y.t.streams, .slice y.rx y.t.rules.length y.rc] 28 (0, 0)) = wb := ⟨_, rfl⟩
          have hbb : wb.heap[w1.heap.size]? = some (.cells #[.int .i64 y.t.id, .slice y.kx y.t.key.length y.kc, .int .i64 y.t.streams, .slice y.rx y.t.rules.length y.rc] 28 (0, 0)) := by rw [← hwb]; exact heap_alloc_new _ _
          have hst7 : St M w5 wb := hst6.trans (by rw [← hwb]; exact St.ofBelow (Nat.le_trans hMx (Nat.le_trans hst5.below.size hst6.below.size)) ((Below.refl _ w1).alloc (Nat.le_refl _) _))
          have e1 : wb.cell? ⟨w1.heap.size, 1, none⟩ = some (.slice y.kx y.t.key.length y.kc) := cell_at hbb 1
          have z1 : 0 ≤ (i : Int) ∧ (i : Int) < (N : Int) := by omega
          unfold maxLen at hyl
          clear hc hy
          go_wp2_with fail
          go_loopg [15, 120] y.t.key.length (fun gg _ v120 wr => ∃ j : Nat, j ≤ y.t.key.length ∧ y.t.key.length - j ≤ gg ∧ v120 = .int .i64 j ∧ St M wb wr)
          case atStart => exact ⟨0, Nat.zero_le _, by omega, rfl, by first | exact St.refl _ _ | (rw [← hwb]; exact St.refl _ _)⟩
          case round =>
            obtain ⟨j, hj, hgg4, rfl, hst8⟩ := hrel
            clear hwb c0 c1 c2 c3 e1
            by_cases hjl : j < y.t.key.length
            · obtain ⟨kb, ko, cs, hkx, hMk, hkc, hcell⟩ := (hyb.st (hst7.trans hst8)) (by omega)
              obtain ⟨z, hz⟩ := hcell j hjl
              have c0 : wr.cell? ⟨kb, ko + j, none⟩ = some (.int .u8 z) := (cell_at hkc _).trans hz
              have f0 : wr.frozen? ⟨kb, ko + j, none⟩ = false := frozen_at hkc _
              obtain ⟨_, x1, _, _⟩ := hst8.cell4 hbb
              rw [hkx] at x1
              have z2 : 0 ≤ (j : Int) ∧ (j : Int) < (y.t.key.length : Int) := by omega
              clear hcell hz hkx
              go_wp2_with fail
              go_roundg (y.t.key.length - (j + 1))
              case measure => omega
              case rel => exact ⟨j + 1, by omega, by omega, by go_num, hst8.trans (St.setU hkc hMk _)⟩
            obtain rfl : j = y.t.key.length := by omega
            go_wp2_with fail
            go_roundg (N - (i + 1))
            case measure => omega
            case rel => exact ⟨i + 1, by omega, by omega, by go_num, hst7.trans hst8⟩
        obtain rfl : i = N := by omega
        have hstF := hst5.trans hst6
        have hBF := hBx.trans hstF.below
        have hG2 := hGet _ hBF
        obtain ⟨t0, _, _, _⟩ := hstF.cell4 htb
        go_wp2_with fail
        refine hG2.mono ?_
        rintro _ w7 ⟨kx2, kc2, rx2, rc2, rfl, hb7, hin7⟩
        have hb8 : Below wr.heap.size wr (w7.alloc (.cells #[.int .i64 v.t.id, .slice kx2 v.t.key.length kc2, .int .i64 v.t.streams, .slice rx2 v.t.rules.length rc2] 28 (0, 0))) := hb7.alloc hb7.size _
        have hstG := hstF.trans (St.ofBelow (Nat.le_trans hMx hstF.below.size) hb8)
        obtain ⟨u0, u1, u2, u3⟩ := hstG.cell4 htb
        have hsame := ref_SameTenant v.t kx2 v.kx rx2 v.rx kc2 v.kc rc2 v.rc (hin7.rd.mono ((Below.refl _ w7).alloc (Nat.le_refl _) _)) (hvr _ (hBx.trans hstG.below))
        clear t0 hG2 hin7
        go_wp2_with fail
        refine hsame.mono ?_
        rintro _ w9 ⟨rfl, hb9⟩
        have hB9 : Below w.heap.size w w9 := hFin _ ((hBx.trans hstG.below).trans (hb9.mono (Nat.le_trans hMx hstG.below.size)))
        go_wp2_with fail
        refine (hAw _ hB9).mono ?_
        rintro _ w10 ⟨rfl, hb10⟩
        go_wp2_with fail
        go_ret
        exact ⟨rfl, hb10⟩
end
end Go.Proofs.Ytahnjbbjfjlpoaa
